/- A journal read, an op done. -/
import Derived.Test.YtailcbngagacaaaGreatTellMath
namespace Go.Proofs.YtailcbngagacaaaGreat.Xp
open Go Ow nJ oh vB pO ng uA Bq zo BI Ie Mt
theorem abJ {n:Nat} {d:List Int} (hB:dA d) (hl:d.length<=8000) (hn:big<n):Gz n d=some ((0,((jP d).2:Int),(jP d).1,()),()):=by
 unfold Gz
 rw [f_ (show ¬((d.length:Int)>8000) by omega),NF hB (by unfold big; omega) hn]
 rfl
theorem amF {n:Nat} {s:bP} {o:OpC} (hs:gU s) (hg:nE s) (ho:okO o) (hn:big<n):Gr n s o=some (pV s o,()):=by
 obtain ⟨h2,c,hc,hgc⟩:=zQ hs hn
 unfold Gr
 rw [h2,hc]
 simp only [aL,hgc.2 hg,bQ,jc,bJ,bF,(Oh hs hg ho hn).2.1]
end Go.Proofs.YtailcbngagacaaaGreat.Xp

/- A journal read, an op done. -/
import Derived.Test.YtailcbngagacaabGreatTellMath
namespace Go.Proofs.YtailcbngagacaabGreat.XA
open Go Ow ni nM vo oQ mP uu Bo zu BA Ia Ms
theorem anh {n:Nat} {d:List Int} (hB:dF d) (hl:d.length<=8000) (hn:big<n):KP n d=some ((0,((jP d).2:Int),(jP d).1,()),()):=by
 unfold KP
 rw [fH (show ¬((d.length:Int)>8000) by omega),Tf hB (by unfold big; omega) hn]
 rfl
theorem amU {n:Nat} {s:bQ} {o:OpC} (hs:gW s) (hg:nG s) (ho:okO o) (hn:big<n):KJ n s o=some (kK s o,()):=by
 obtain ⟨h2,c,hc,hgc⟩:=zR hs hn
 unfold KJ
 rw [h2,hc]
 simp only [aJ,hgc.2 hg,bL,iB,bG,bE,(CZ hs hg ho hn).2.1]
end Go.Proofs.YtailcbngagacaabGreat.XA

/- Vaults that have to be up. -/
import Derived.Test.YtailcbngagacaaaGreatVResMath
namespace Go.Proofs.YtailcbngagacaaaGreat.JP
open Go Ow JO kF qc iw gU kK tL qz vg
structure UpV (v:wZ):Prop where
 few:v.2.1.length+v.2.2.1.length<=8000
 up:v.1=true
 good:qE v.2.2.2.1
 ops:(opsV v).length<=60
theorem WO {n:Nat} {v:wZ} (h:IC v) (hn:big<n):∃c:Int,gK n v=some (c,())/\uH n v=some (c,())/\(c=0->UpV v):=by
 obtain ⟨c,e1,e2,hc⟩:=yw h hn
 unfold gK uH
 simp only [e1,e2,anf]
 by_cases c0:c=0
 ·simp only [aoA c0,anH,anh,aog]
  cases hu:v.1 with
  | true=>exact ⟨0,rfl,rfl,fun _=>⟨(hc c0).1,hu,((hc c0).2 hu).1,((hc c0).2 hu).2⟩⟩
  | false=>exact ⟨9,rfl,rfl,fun h=>absurd h (by decide)⟩
 ·simp only [aoY c0,anS,aof]
  exact ⟨c,rfl,rfl,fun h=>absurd h c0⟩
end Go.Proofs.YtailcbngagacaaaGreat.JP

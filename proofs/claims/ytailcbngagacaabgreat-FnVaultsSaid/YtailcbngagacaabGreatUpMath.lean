/- Vaults that have to be up. -/
import Derived.Test.YtailcbngagacaabGreatVResMath
namespace Go.Proofs.YtailcbngagacaabGreat.Ia
open Go Ow ni nM vo oQ mP uu Bo zu BA
structure Qp (v:iq):Prop where
 few:v.2.1.length+v.2.2.1.length<=8000
 up:v.1=true
 good:nG v.2.2.2.1
 ops:(opsV v).length<=60
theorem acH {n:Nat} {v:iq} (h:pQ v) (hn:big<n):∃c:Int,wI n v=some (c,())/\Lf n v=some (c,())/\(c=0->Qp v):=by
 obtain ⟨c,e1,e2,hc⟩:=acI h hn
 unfold wI Lf
 simp only [e1,e2,aJ]
 by_cases c0:c=0
 ·simp only [gB c0,iB,bG,bE]
  cases hu:v.1 with
  | true=>exact ⟨0,rfl,rfl,fun _=>⟨(hc c0).1,hu,((hc c0).2 hu).1,((hc c0).2 hu).2⟩⟩
  | false=>exact ⟨9,rfl,rfl,fun h=>absurd h (by decide)⟩
 ·simp only [fH c0,lD,a_]
  exact ⟨c,rfl,rfl,fun h=>absurd h c0⟩
end Go.Proofs.YtailcbngagacaabGreat.Ia

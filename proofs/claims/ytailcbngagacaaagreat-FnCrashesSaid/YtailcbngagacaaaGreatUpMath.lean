/- Vaults that have to be up. -/
import Derived.Test.YtailcbngagacaaaGreatVResMath
namespace Go.Proofs.YtailcbngagacaaaGreat.Ie
open Go Ow nJ oh vB pO ng uA Bq zo BI
structure Xr (v:jh):Prop where
 few:v.2.1.length+v.2.2.1.length<=8000
 up:v.1=true
 good:nE v.2.2.2.1
 ops:(opsV v).length<=60
theorem acG {n:Nat} {v:jh} (h:qQ v) (hn:big<n):∃c:Int,wJ n v=some (c,())/\K_ n v=some (c,())/\(c=0->Xr v):=by
 obtain ⟨c,e1,e2,hc⟩:=acH h hn
 unfold wJ K_
 simp only [e1,e2,aL]
 by_cases c0:c=0
 ·simp only [gH c0,jc,bJ,bF]
  cases hu:v.1 with
  | true=>exact ⟨0,rfl,rfl,fun _=>⟨(hc c0).1,hu,((hc c0).2 hu).1,((hc c0).2 hu).2⟩⟩
  | false=>exact ⟨9,rfl,rfl,fun h=>absurd h (by decide)⟩
 ·simp only [f_ c0,mI,a_]
  exact ⟨c,rfl,rfl,fun h=>absurd h c0⟩
end Go.Proofs.YtailcbngagacaaaGreat.Ie

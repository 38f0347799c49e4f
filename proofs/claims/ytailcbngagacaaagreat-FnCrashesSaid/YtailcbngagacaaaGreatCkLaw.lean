/- 'FnCrashes' returns true for every input, and its arguments read behind the call as they read before. -/
import Derived.Test.YtailcbngagacaaaGreatCkMath
import Derived.Test.YtailcbngagacaaaGreatRows
import Derived.ProofKit
namespace Go.Proofs.YtailcbngagacaaaGreat.CkLaw
open Go Ow nJ Go.Proofs.YtailcbngagacaaaGreat
theorem own:ownKnob Tryz.prog.godebug=none:=by kernel_rfl
theorem fP:H9 Tryz.prog T FM Tryz.f6.params.toList:=by
 have h:=fun (t:TypeId) (k:K) (h:UO.tab.ty t=some k)=>(letI:Fr:=amv; (UG aN).ty t k h)
 exact ⟨h _ _ (by kernel_rfl),trivial⟩
set_option maxRecDepth 100000 in
theorem contract (H:Type) (enc:TypeId×Value->H) (W:World) (base:Nat) (args:Array Value) (ds gs:List (DataW H)) (before:List MemPlace)
  (hval:∀(j:Nat) t v, Tryz.f6.params[j]?=some t->args[j]?=some v->Value.okWide Tryz.prog W .any base t v)
  (hW:DataW.Whole enc Tryz.prog Tryz.f6.params.toList Rows.fnCrashesSpec.vars false W args.toList ds gs before) :
  Calls Tryz.prog 6 args W fun e W'=>∃v,e=.returned v/\Rows.fnCrashesSpec.post enc Tryz.prog Tryz.f6 false true false false W args v W':=
 alT (T:=T) (tb:=4) (N:=uK (ds++gs)) Tryz.func6 (by kernel_rfl) rfl fP rfl Tryz.underlying4 (letI:=Rm W; fun n=>agz n) (U5.all _) rfl
  (fun ds h=>by
   match ds,h with
   | [d1],_=>rfl) hval hW (bN _)
set_option maxRecDepth 100000 in
theorem lifted (os:Os) (started:os.Started) (H:Type) (enc:TypeId×Value->H) :
  ReturnsInHanded {} Tryz.checked os 6 .any (Rows.fnCrashesSpec.pre6 enc Tryz.prog Tryz.f6 Rows.fnCrashesRow.domain false) (Rows.fnCrashesSpec.post enc Tryz.prog Tryz.f6 false true false false):=by
 refine returnsInHanded_of_change (C:=Tryz.checked) own started (by kernel_rfl) Tryz.func6
  (ChangeSpec.witness6 (enc:=enc) (C:=Tryz.checked) false ⟨#[], #[.slice none 0 0],[]⟩ 8 (by kernel_rfl) (by kernel_rfl) (by kernel_rfl) (by kernel_rfl)) ?_
 intro W base args ds gs before hval hW _ _
 exact contract H enc W base args ds gs before hval hW
theorem fnCrashes_holds:Rows.FnCrashesSaid:=
 OpenClaim.holds_of_wide 6 Tryz.f6 rfl rfl rfl rfl rfl rfl rfl ⟨rfl,rfl,rfl,rfl,rfl⟩ rfl rfl rfl rfl rfl (by kernel_rfl) Tryz.func6 (by kernel_rfl)
  (of_decide_eq_true (by kernel_rfl)) (by unfold Func.isWrapper; first | (rw [aj (by decide +kernel)]; kernel_rfl) | (rw [aA (by decide +kernel)]; exact ⟨rfl,rfl⟩))
  (fun os started H enc _=>lifted os started H enc)
end Go.Proofs.YtailcbngagacaaaGreat.CkLaw

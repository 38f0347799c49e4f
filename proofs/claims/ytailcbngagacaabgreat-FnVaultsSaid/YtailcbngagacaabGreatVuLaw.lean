/- 'FnVaults' returns true for every input, and its arguments read behind the call as they read before. -/
import Derived.Test.YtailcbngagacaabGreatVuMath
import Derived.Test.YtailcbngagacaabGreatRows
import Derived.ProofKit
namespace Go.Proofs.YtailcbngagacaabGreat.VuLaw
open Go Ow ni Go.Proofs.YtailcbngagacaabGreat
theorem own:ownKnob Tryz.prog.godebug=none:=by kernel_rfl
theorem fT:H6 Tryz.prog T FO Tryz.f6.params.toList:=by
 have h:=fun (t:TypeId) (k:K) (h:UY.tab.ty t=some k)=>(letI:Fr:=amK; (UN aL).ty t k h)
 exact ⟨h _ _ (by kernel_rfl),trivial⟩
set_option maxRecDepth 100000 in
theorem contract (H:Type) (enc:TypeId×Value->H) (W:World) (base:Nat) (args:Array Value) (ds gs:List (DataW H)) (before:List MemPlace)
  (hval:∀(j:Nat) t v, Tryz.f6.params[j]?=some t->args[j]?=some v->Value.okWide Tryz.prog W .any base t v)
  (hW:DataW.Whole enc Tryz.prog Tryz.f6.params.toList Rows.fnVaultsSpec.vars false W args.toList ds gs before) :
  Calls Tryz.prog 6 args W fun e W'=>∃v,e=.returned v/\Rows.fnVaultsSpec.post enc Tryz.prog Tryz.f6 false true false false W args v W':=
 al7 (T:=T) (tb:=4) (N:=uE (ds++gs)) Tryz.func6 (by kernel_rfl) rfl fT rfl Tryz.underlying4 (letI:=Rs W; fun n=>agI n) (XD.all _) rfl
  (fun ds h=>by
   match ds,h with
   | [d1],_=>rfl) hval hW (bP _)
set_option maxRecDepth 100000 in
theorem lifted (os:Os) (started:os.Started) (H:Type) (enc:TypeId×Value->H) :
  ReturnsInHanded {} Tryz.checked os 6 .any (Rows.fnVaultsSpec.pre6 enc Tryz.prog Tryz.f6 Rows.fnVaultsRow.domain false) (Rows.fnVaultsSpec.post enc Tryz.prog Tryz.f6 false true false false):=by
 refine returnsInHanded_of_change (C:=Tryz.checked) own started (by kernel_rfl) Tryz.func6
  (ChangeSpec.witness6 (enc:=enc) (C:=Tryz.checked) false ⟨#[], #[.slice none 0 0],[]⟩ 8 (by kernel_rfl) (by kernel_rfl) (by kernel_rfl) (by kernel_rfl)) ?_
 intro W base args ds gs before hval hW _ _
 exact contract H enc W base args ds gs before hval hW
theorem fnVaults_holds:Rows.FnVaultsSaid:=
 OpenClaim.holds_of_wide 6 Tryz.f6 rfl rfl rfl rfl rfl rfl rfl ⟨rfl,rfl,rfl,rfl,rfl⟩ rfl rfl rfl rfl rfl (by kernel_rfl) Tryz.func6 (by kernel_rfl)
  (of_decide_eq_true (by kernel_rfl)) (by unfold Func.isWrapper; first | (rw [ak (by decide +kernel)]; kernel_rfl) | (rw [aA (by decide +kernel)]; exact ⟨rfl,rfl⟩))
  (fun os started H enc _=>lifted os started H enc)
end Go.Proofs.YtailcbngagacaabGreat.VuLaw

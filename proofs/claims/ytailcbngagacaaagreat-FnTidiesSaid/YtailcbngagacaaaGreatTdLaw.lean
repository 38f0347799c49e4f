/- 'FnTidies' returns true for every input, and its arguments read behind the call as they read before. -/
import Derived.Test.YtailcbngagacaaaGreatTdMath
import Derived.Test.YtailcbngagacaaaGreatRows
import Derived.ProofKit
namespace Go.Proofs.YtailcbngagacaaaGreat.TdLaw
open Go Ow JO Go.Proofs.YtailcbngagacaaaGreat
theorem own:ownKnob Tryz.prog.godebug=none:=by kernel_rfl
theorem jD:EU Tryz.prog T jU Tryz.f7.params.toList:=by
 have h:=fun (t:TypeId) (k:K) (h:tyL.tab.ty t=some k)=>(letI:Fr:=aki; (WI aN).ty t k h)
 exact ⟨h _ _ (by kernel_rfl),trivial⟩
set_option maxRecDepth 100000 in
theorem contract (H:Type) (enc:TypeId×Value->H) (W:World) (base:Nat) (args:Array Value) (ds gs:List (DataW H)) (before:List MemPlace)
  (hval:∀(j:Nat) t v, Tryz.f7.params[j]?=some t->args[j]?=some v->Value.okWide Tryz.prog W .any base t v)
  (hW:DataW.Whole enc Tryz.prog Tryz.f7.params.toList Rows.fnTidiesSpec.vars false W args.toList ds gs before) :
  Calls Tryz.prog 7 args W fun e W'=>∃v,e=.returned v/\Rows.fnTidiesSpec.post enc Tryz.prog Tryz.f7 false true false false W args v W':=
 Kv (T:=T) (tb:=4) (N:=Ep (ds++gs)) Tryz.func7 (by kernel_rfl) rfl jD rfl Tryz.underlying4 (letI:=aaI W; fun n=>Ej n) (Ui.all _) rfl
  (fun ds h=>by
   match ds,h with
   | [d1],_=>rfl) hval hW (anv _)
set_option maxRecDepth 100000 in
theorem lifted (os:Os) (started:os.Started) (H:Type) (enc:TypeId×Value->H) :
  ReturnsInHanded {} Tryz.checked os 7 .any (Rows.fnTidiesSpec.pre6 enc Tryz.prog Tryz.f7 Rows.fnTidiesRow.domain false) (Rows.fnTidiesSpec.post enc Tryz.prog Tryz.f7 false true false false):=by
 refine returnsInHanded_of_change (C:=Tryz.checked) own started (by kernel_rfl) Tryz.func7
  (ChangeSpec.witness6 (enc:=enc) (C:=Tryz.checked) false ⟨#[], #[.slice none 0 0],[]⟩ 8 (by kernel_rfl) (by kernel_rfl) (by kernel_rfl) (by kernel_rfl)) ?_
 intro W base args ds gs before hval hW _ _
 exact contract H enc W base args ds gs before hval hW
theorem fnTidies_holds:Rows.FnTidiesSaid:=
 OpenClaim.holds_of_wide 7 Tryz.f7 rfl rfl rfl rfl rfl rfl rfl ⟨rfl,rfl,rfl,rfl,rfl⟩ rfl rfl rfl rfl rfl (by kernel_rfl) Tryz.func7 (by kernel_rfl)
  (of_decide_eq_true (by kernel_rfl)) (by unfold Func.isWrapper; first | (rw [aoi (by decide +kernel)]; kernel_rfl) | (rw [aok (by decide +kernel)]; exact ⟨rfl,rfl⟩))
  (fun os started H enc _=>lifted os started H enc)
end Go.Proofs.YtailcbngagacaaaGreat.TdLaw

/- 'FnExactSyncSession' returns true for every input, and its arguments read behind the call as they read before; the variables that it reads are tied to the program's text. -/
import Derived.Test.YtplpeegfeajkkaaGreatDoorSyMath
import Derived.Test.YtplpeegfeajkkaaGreatDoorRows
import Derived.Test.YtplpeegfeajkkaaGreatDoorTie
import Derived.Test.YtplpeegfeajkkaaGreatDoorCards
import Derived.ProofKit
import Derived.LaidMore
import Derived.SevenTiedAt
import Derived.Stop.LaidErr
import Derived.Stop.Joined
namespace Go.Proofs.YtplpeegfeajkkaaGreatDoor.SyLaw
open Go Ow nE Go.Proofs.YtplpeegfeajkkaaGreatDoor
theorem own:ownKnob Tryz.prog.godebug=none:=by kernel_rfl
theorem f_:Iu Tryz.prog T FQ Tryz.f3.params.toList:=by
 have h:=λ(t:TypeId) (k:K) (h:Vu.tab.ty t=some k)=>(letI:Fr:=aqE;(Vl aH).ty t k h)
 exact⟨h _ _ (by kernel_rfl),h _ _ (by kernel_rfl),trivial⟩
theorem tabs{W:World}(h:laidMetH Tryz.prog Rows.fnExactSyncSessionRow.laid W):letI:=I8 W;aI.LaidTab Tryz.prog:=by
 rw[MakeChecks.laidMetH_plain _ _ _ (by kernel_rfl)]at h
 have h2:=h.tail.tail
 have e:(Rows.laid_internal_strconv_uint64pow10:DataW Unit)=Lib.tabData .u64 Lib.pow10Tab:=by kernel_rfl
 have ht:Lib.TabIs Tryz.prog W "internal/strconv.uint64pow10" .u64 Lib.pow10Tab:=
  Lib.tabIs_of_head (g:=0) (t:=194) (e:=168) (n:=20) (rest:=[]) (by kernel_rfl) (by kernel_rfl) (by kernel_rfl) (by kernel_rfl) (by kernel_rfl) (by kernel_rfl) (by rw[<-e];exact h2)
 letI:=I8 W
 exact⟨W,λb hb=>⟨hb,rfl⟩,ht⟩
set_option maxRecDepth 100000 in
theorem contract(H:Type)(enc:TypeId×Value->H)(W:World)(base:Nat)(args:Array Value)(ds gs:List (DataW H))(before:List MemPlace)
  (hval:∀(j:Nat) t v,Tryz.f3.params[j]?=some t->args[j]?=some v->Value.okWide Tryz.prog W .any base t v)
  (hW:DataW.Whole enc Tryz.prog Tryz.f3.params.toList Rows.fnExactSyncSessionSpec.vars false W args.toList ds gs before) (hL:laidMetH Tryz.prog Rows.fnExactSyncSessionRow.laid W) :
  Calls Tryz.prog 3 args W λe W'=>∃v,e=.returned v/\Rows.fnExactSyncSessionSpec.post enc Tryz.prog Tryz.f3 false true false false W args v W':=
 apM (T:=T) (tb:=4) (N:=uU (ds++gs)) Tryz.func3 (by kernel_rfl) rfl f_ rfl Tryz.underlying4 (letI:=I8 W;haveI:=tabs hL;λn=>ajk n) (YR.all _) rfl
  (λds h=>by
   match ds,h with
   | [d1,d2],_=>rfl) hval hW (bV _)
theorem amd(os:Os)(args:Array Value):laidMetH Tryz.prog Rows.fnExactSyncSessionRow.laid ((World.doorLaid Tryz.prog 4000 os).forCall (λ_ _=>0) ⟨#[],args,[]⟩).memory:=by
 rw[MakeChecks.laidMetH_plain _ _ _ (by kernel_rfl)]
 exact laidMet_of_run' 8 (by kernel_rfl) (by kernel_rfl)
set_option maxRecDepth 100000 in
theorem lifted(os:Os)(started:os.Started)(H:Type)(enc:TypeId×Value->H) :
  ReturnsInHanded {} Tryz.checked os 3 .any (λw args=>(Rows.fnExactSyncSessionSpec.pre enc Tryz.prog Tryz.f3 [] false w args/\laidMetH Tryz.prog Rows.fnExactSyncSessionRow.laid w)/\sizedMet enc Tryz.prog Tryz.f3 (OpenSpec.ofChange Rows.fnExactSyncSessionSpec) false w args)
   (Rows.fnExactSyncSessionSpec.post enc Tryz.prog Tryz.f3 false true false false):=by
 refine returnsInHanded_of_change_and (C:=Tryz.checked) (X:=λw _=>laidMetH Tryz.prog Rows.fnExactSyncSessionRow.laid w) (λ_ _ _ hh h=>h.of_heap hh) own started (by kernel_rfl) Tryz.func3
  (ChangeSpec.witness_shaped (enc:=enc) (C:=Tryz.checked) (os:=os) (X:=λw _=>laidMetH Tryz.prog Rows.fnExactSyncSessionRow.laid w) false (World.doorLaid Tryz.prog 4000 os) #[.agg #[.bool false,.slice none 0 0,.slice none 0 0,.int .i64 0,.slice none 0 0,.slice none 0 0],.int .i64 0] 8 rfl (World.shaped_of_RefB (by kernel_rfl) (by kernel_rfl)) (by kernel_rfl) (by kernel_rfl) (by kernel_rfl) (amd os _)) ?_
 intro W base args ds gs before hval hW _ _ hL _
 exact contract H enc W base args ds gs before hval hW hL
theorem arp:Rows.FnExactSyncSessionSaid:=
 OpenClaim.holds_of_wide 3 Tryz.f3 rfl rfl rfl rfl rfl rfl rfl ⟨rfl,rfl,rfl,rfl,rfl⟩ rfl rfl rfl rfl rfl (by kernel_rfl) Tryz.func3 (by kernel_rfl)
  (of_decide_eq_true (by kernel_rfl)) (by unfold Func.isWrapper;first|(rw[aj (by decide +kernel)];kernel_rfl)|(rw[aC (by decide +kernel)];exact⟨rfl,rfl⟩))
  (λos started H enc _=>lifted os started H enc)
theorem fnExactSyncSessionCard_holds:Rows.FnExactSyncSessionCardSaid:=
 Claim7.holds_tied_plain_at .later [] [.data,.data,.data] true (true, "20eb2dd6d23cc774546533c0acd00ac3be268b584da5a31ad20c15d1a6126699") false
  arp (λ_ h=>by cases h) (by kernel_rfl) (λ_ h=>by cases h) fnExactSyncSession_row_tie rfl ⟨rfl,rfl⟩ (by kernel_rfl) rfl
  (λf fn hf hfn=>by
   obtain rfl:f=3:=jc ((show Tryz.prog.funcNamed "loop.example/g00447/laws.FnExactSyncSession"=some 3 by kernel_rfl).symm.trans hf) |>.symm
   obtain rfl:fn=Tryz.f3:=(jc (Tryz.func3.symm.trans hfn)).symm
   exact⟨by kernel_rfl,λj t ht=>by
    rw[Tryz.params3]at ht
    have hm:t∈[30,2]:=by simpa using Array.mem_of_getElem? ht
    have hall:([30,2].all λu=>!Tryz.prog.wantsStandIn u)=true:=by kernel_rfl
    exact(show Tryz.prog.wantsStandIn t=false by simpa using eX.1 hall t hm)⟩)
  (by kernel_rfl)
end Go.Proofs.YtplpeegfeajkkaaGreatDoor.SyLaw

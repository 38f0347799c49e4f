/- 'FnTerms' returns true for every input, and its argument reads behind the call as it read before; the variables that it reads are tied to the program's text. -/
import Derived.Test.YtgppmpedglhhfaaGreatDoorFtMath
import Derived.Test.YtgppmpedglhhfaaGreatDoorRows
import Derived.Test.YtgppmpedglhhfaaGreatDoorTie
import Derived.Test.YtgppmpedglhhfaaGreatDoorCards
import Derived.ProofKit
import Derived.LaidMore
import Derived.Lay
import Derived.SevenTiedAt
import Derived.Stop.LaidErr
import Derived.Stop.Joined
import Derived.HandedShaped
import Derived.Shelf.Vars
namespace Go.Proofs.YtgppmpedglhhfaaGreatDoor.FtLaw
open Go Ow nL Go.Proofs.YtgppmpedglhhfaaGreatDoor
theorem own:ownKnob Tryz.prog.godebug=none:=by kernel_rfl
theorem fB:Gs Tryz.prog T Fb Tryz.f4.params.toList:=by
 have h:=λ(t:TypeId) (k:K) (h:Xt.tab.ty t=some k)=>(letI:Fr:=aw3;(Pn bR).ty t k h)
 exact⟨h _ _ (by kernel_rfl),trivial⟩
theorem ah4(u:TypeId)(h : Tryz.prog.typeName? 3 u=some ("*"++"errors.errorString")):u=177:=
 typeName_ptr_named (nm:="errors.errorString") (by kernel_rfl) (by kernel_rfl) (by decide) u h
theorem star : "*"++"errors.errorString"="*errors.errorString":=by decide
theorem tabs{W:World}(h:laidMetH Tryz.prog Rows.fnTermsRow.laid W):letI:=AQ W;aI.LaidTab Tryz.prog/\aI.LaidErr Tryz.prog:=by
 rw[MakeChecks.laidMetH_plain _ _ _ (by kernel_rfl)]at h
 have h2:=h.tail.tail
 have e:(Rows.laid_internal_strconv_uint64pow10:DataW Unit)=Lib.tabData .u64 Lib.pow10Tab:=by kernel_rfl
 have ht:Lib.TabIs Tryz.prog W "internal/strconv.uint64pow10" .u64 Lib.pow10Tab:=
  Lib.tabIs_of_head (g:=5) (t:=172) (e:=140) (n:=20) (rest:=[("unicode/utf8.acceptRanges",Rows.laid_unicode_utf8_acceptRanges),("strconv.ErrRange",Rows.laid_strconv_ErrRange),("strconv.ErrSyntax",Rows.laid_strconv_ErrSyntax),("unicode/utf8.first",Rows.laid_unicode_utf8_first)]) (by kernel_rfl) (by kernel_rfl) (by kernel_rfl) (by kernel_rfl) (by kernel_rfl) (by kernel_rfl) (by rw[<-e];exact h2)
 obtain⟨a1,_,hr,-⟩:=laid_sentinel (g:=4) (ti:=105) (tp:=177) (te:=179) (ts:=9) h2.tail.tail (by kernel_rfl) (by kernel_rfl) Tryz.underlying105 (λu hu=>ah4 u (by rw[star];exact hu)) Tryz.underlying177 Tryz.underlying179 rfl rfl Tryz.underlying9 (by kernel_rfl) (by kernel_rfl)
 obtain⟨a2,_,hs,-⟩:=laid_sentinel (g:=3) (ti:=105) (tp:=177) (te:=179) (ts:=9) h2.tail.tail.tail (by kernel_rfl) (by kernel_rfl) Tryz.underlying105 (λu hu=>ah4 u (by rw[star];exact hu)) Tryz.underlying177 Tryz.underlying179 rfl rfl Tryz.underlying9 (by kernel_rfl) (by kernel_rfl)
 letI:=AQ W
 exact⟨⟨W,λb hb=>⟨hb,rfl⟩,ht⟩,⟨W,λb hb=>⟨hb,rfl⟩,⟨_,_,hs⟩,_,_,hr⟩⟩
theorem ints{W:World}(h:W.ShapedOpen Tryz.prog):letI:=AQ W;aS.bJ Tryz.prog:=by
 obtain⟨m,hm⟩:=Go.Proofs.cell_of_shapedOpen_int (P:=Tryz.prog) (g:=0) (zero:=#[.int .i64 0]) (t:=3) h (of_decide_eq_true (by kernel_rfl)) (by kernel_rfl) rfl (by kernel_rfl) (by kernel_rfl) Tryz.underlying3
 letI:=AQ W
 exact⟨W,m,λb hb=>⟨hb,rfl⟩,hm⟩
set_option maxRecDepth 100000 in
theorem contract(H:Type)(enc:TypeId×Value->H)(W:World)(base:Nat)(args:Array Value)(ds gs:List (DataW H))(before:List MemPlace)
  (hval:∀(j:Nat) t v,Tryz.f4.params[j]?=some t->args[j]?=some v->Value.okWide Tryz.prog W .any base t v)
  (hW:DataW.Whole enc Tryz.prog Tryz.f4.params.toList Rows.fnTermsSpec.vars false W args.toList ds gs before) (hL:laidMetH Tryz.prog Rows.fnTermsRow.laid W) (hS:W.ShapedOpen Tryz.prog) :
  Calls Tryz.prog 4 args W λe W'=>∃v,e=.returned v/\Rows.fnTermsSpec.post enc Tryz.prog Tryz.f4 false true false false W args v W':=
 awe (T:=T) (tb:=4) (N:=sK (ds++gs)) Tryz.func4 (by kernel_rfl) rfl fB rfl Tryz.underlying4 (letI:=AQ W;haveI:=(tabs hL).1;haveI:=(tabs hL).2;haveI:=ints hS;λn=>aly n) (YJ.all _) rfl
  (λds h=>by
   match ds,h with
   | [d1],_=>rfl) hval hW (bZ _)
set_option maxRecDepth 100000 in
theorem lifted(os:Os)(started:os.Started)(H:Type)(enc:TypeId×Value->H) :
  ReturnsInHanded {} Tryz.checked os 4 .any (λw args=>(Rows.fnTermsSpec.pre enc Tryz.prog Tryz.f4 [] false w args/\laidMetH Tryz.prog Rows.fnTermsRow.laid w)/\sizedMet enc Tryz.prog Tryz.f4 (OpenSpec.ofChange Rows.fnTermsSpec) false w args)
   (Rows.fnTermsSpec.post enc Tryz.prog Tryz.f4 false true false false):=by
 have TE:=ChangeSpec.witness_shaped (apart:=false) (s:=Rows.fnTermsSpec) (fn:=Tryz.f4) (conds:=[]) (f:=4) (enc:=enc) (C:=Tryz.checked) (os:=os) (X:=λw _=>laidMetH Tryz.prog Rows.fnTermsRow.laid w) false (World.laidAll Tryz.prog os Rows.fnTermsRow.laid) #[.slice none 0 0] 8 (World.laidAll_os _ _ _) (World.shaped_of_ZipB (by kernel_rfl) (by kernel_rfl)) (by kernel_rfl) (by kernel_rfl) (by kernel_rfl) (by rw[MakeChecks.laidMetH_plain _ _ _ (by kernel_rfl)];exact laidMet_laidAll _ (by kernel_rfl) (by kernel_rfl))
 refine returnsInHanded_of_calls own started (by kernel_rfl) TE ?_
 intro w tape i _ hsh _ hok hpre _
 obtain⟨_,_,_,fn',hfn',_,_,_,_,hval⟩:=hok
 obtain rfl:fn'=Tryz.f4:=kJ (hfn'.symm.trans Tryz.func4)
 obtain⟨⟨⟨ds,gs,before,hw,_⟩,hx⟩,_⟩:=hpre
 have hw':=DataW.Whole.of_heap (w':=w.forCall tape i) (by rfl) hw
 refine(contract H enc (w.forCall tape i) w.heap.size i.args ds gs before hval hw' (laidMetH.of_heap (by rfl) hx) hsh).mono λe W' ⟨v,he,hp⟩=>?_
 subst he
 exact ChangeSpec.post_blind hp
theorem axQ:Rows.FnTermsSaid:=
 OpenClaim.holds_of_wide 4 Tryz.f4 rfl rfl rfl rfl rfl rfl rfl ⟨rfl,rfl,rfl,rfl,rfl⟩ rfl rfl rfl rfl rfl (by kernel_rfl) Tryz.func4 (by kernel_rfl)
  (of_decide_eq_true (by kernel_rfl)) (by unfold Func.isWrapper;first|(rw[aj (by decide +kernel)];kernel_rfl)|(rw[ah (by decide +kernel)];exact⟨rfl,rfl⟩))
  (λos started H enc _=>lifted os started H enc)
theorem fnTermsCard_holds:Rows.FnTermsCardSaid:=
 Claim7.holds_tied_plain_at .later [] [.data,.data,.data,.data,.sentinel,.sentinel,.pinned] true (true, "5b38546db881b79b1b12fb0fb0206b026c7f209ca704682ffef1526354532af6") true
  axQ (λ_ h=>by cases h) (by kernel_rfl) (λ_ h=>by cases h) fnTerms_row_tie rfl ⟨rfl,rfl⟩ (by kernel_rfl) rfl
  (λf fn hf hfn=>by
   obtain rfl:f=4:=kJ ((show Tryz.prog.funcNamed "loop.example/g00447/laws.FnTerms"=some 4 by kernel_rfl).symm.trans hf) |>.symm
   obtain rfl:fn=Tryz.f4:=(kJ (Tryz.func4.symm.trans hfn)).symm
   exact⟨by kernel_rfl,λj t ht=>by
    rw[Tryz.params4]at ht
    have hm:t∈[29]:=by simpa using Array.mem_of_getElem? ht
    have hall:([29].all λu=>!Tryz.prog.wantsStandIn u)=true:=by kernel_rfl
    exact(show Tryz.prog.wantsStandIn t=false by simpa using dV.1 hall t hm)⟩)
  (by kernel_rfl)
end Go.Proofs.YtgppmpedglhhfaaGreatDoor.FtLaw

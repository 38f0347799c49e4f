/- 'FnExactParseTerms' returns true for every input, and its argument reads behind the call as it read before; the variables that it reads are tied to the program's text. -/
import Derived.Test.YtgppmpedglhhfaaGreatDoorPtMath
import Derived.Test.YtgppmpedglhhfaaGreatDoorRows
import Derived.Test.YtgppmpedglhhfaaGreatDoorTie
import Derived.Test.YtgppmpedglhhfaaGreatDoorCards
import Derived.ProofKit
import Derived.LaidMore
import Derived.Lay
import Derived.SevenTiedAt
import Derived.Stop.LaidErr
import Derived.Stop.Joined
import Derived.HandedShaped
import Derived.Shelf.Vars
namespace Go.Proofs.YtgppmpedglhhfaaGreatDoor.PtLaw
open Go Ow q9 Go.Proofs.YtgppmpedglhhfaaGreatDoor
theorem own:ownKnob Tryz.prog.godebug=none:=by kernel_rfl
theorem eX:Db Tryz.prog T BX Tryz.f3.params.toList:=by
 have h:=λ(t:TypeId) (k:K) (h:QM.tab.ty t=some k)=>(letI:Fr:=am6;(QI bS).ty t k h)
 exact⟨h _ _ (by kernel_rfl),trivial⟩
theorem Z5(u:TypeId)(h : Tryz.prog.typeName? 3 u=some ("*"++"errors.errorString")):u=177:=
 typeName_ptr_named (nm:="errors.errorString") (by kernel_rfl) (by kernel_rfl) (by decide) u h
theorem star : "*"++"errors.errorString"="*errors.errorString":=by decide
theorem tabs{W:World}(h:laidMetH Tryz.prog Rows.fnExactParseTermsRow.laid W):letI:=y_ W;aD.LaidTab Tryz.prog/\aD.LaidErr Tryz.prog:=by
 rw[MakeChecks.laidMetH_plain _ _ _ (by kernel_rfl)]at h
 have h2:=h.tail.tail
 have e:(Rows.laid_internal_strconv_uint64pow10:DataW Unit)=Lib.tabData .u64 Lib.pow10Tab:=by kernel_rfl
 have ht:Lib.TabIs Tryz.prog W "internal/strconv.uint64pow10" .u64 Lib.pow10Tab:=
  Lib.tabIs_of_head (g:=5) (t:=172) (e:=140) (n:=20) (rest:=[("unicode/utf8.acceptRanges",Rows.laid_unicode_utf8_acceptRanges),("strconv.ErrRange",Rows.laid_strconv_ErrRange),("strconv.ErrSyntax",Rows.laid_strconv_ErrSyntax),("unicode/utf8.first",Rows.laid_unicode_utf8_first)]) (by kernel_rfl) (by kernel_rfl) (by kernel_rfl) (by kernel_rfl) (by kernel_rfl) (by kernel_rfl) (by rw[<-e];exact h2)
 obtain⟨a1,_,hr,-⟩:=laid_sentinel (g:=4) (ti:=105) (tp:=177) (te:=179) (ts:=9) h2.tail.tail (by kernel_rfl) (by kernel_rfl) Tryz.underlying105 (λu hu=>Z5 u (by rw[star];exact hu)) Tryz.underlying177 Tryz.underlying179 rfl rfl Tryz.underlying9 (by kernel_rfl) (by kernel_rfl)
 obtain⟨a2,_,hs,-⟩:=laid_sentinel (g:=3) (ti:=105) (tp:=177) (te:=179) (ts:=9) h2.tail.tail.tail (by kernel_rfl) (by kernel_rfl) Tryz.underlying105 (λu hu=>Z5 u (by rw[star];exact hu)) Tryz.underlying177 Tryz.underlying179 rfl rfl Tryz.underlying9 (by kernel_rfl) (by kernel_rfl)
 letI:=y_ W
 exact⟨⟨W,λb hb=>⟨hb,rfl⟩,ht⟩,⟨W,λb hb=>⟨hb,rfl⟩,⟨_,_,hs⟩,_,_,hr⟩⟩
theorem ints{W:World}(h:W.ShapedOpen Tryz.prog):letI:=y_ W;aT.bG Tryz.prog:=by
 obtain⟨m,hm⟩:=Go.Proofs.cell_of_shapedOpen_int (P:=Tryz.prog) (g:=0) (zero:=#[.int .i64 0]) (t:=3) h (of_decide_eq_true (by kernel_rfl)) (by kernel_rfl) rfl (by kernel_rfl) (by kernel_rfl) Tryz.underlying3
 letI:=y_ W
 exact⟨W,m,λb hb=>⟨hb,rfl⟩,hm⟩
set_option maxRecDepth 100000 in
theorem contract(H:Type)(enc:TypeId×Value->H)(W:World)(base:Nat)(args:Array Value)(ds gs:List (DataW H))(before:List MemPlace)
  (hval:∀(j:Nat) t v,Tryz.f3.params[j]?=some t->args[j]?=some v->Value.okWide Tryz.prog W .any base t v)
  (hW:DataW.Whole enc Tryz.prog Tryz.f3.params.toList Rows.fnExactParseTermsSpec.vars false W args.toList ds gs before) (hL:laidMetH Tryz.prog Rows.fnExactParseTermsRow.laid W) (hS:W.ShapedOpen Tryz.prog) :
  Calls Tryz.prog 3 args W λe W'=>∃v,e=.returned v/\Rows.fnExactParseTermsSpec.post enc Tryz.prog Tryz.f3 false true false false W args v W':=
 amf (T:=T) (tb:=4) (N:=ru (ds++gs)) Tryz.func3 (by kernel_rfl) rfl eX rfl Tryz.underlying4 (letI:=y_ W;haveI:=(tabs hL).1;haveI:=(tabs hL).2;haveI:=ints hS;λn=>adf n) (Tv.all _) rfl
  (λds h=>by
   match ds,h with
   | [d1],_=>rfl) hval hW (bT _)
set_option maxRecDepth 100000 in
theorem lifted(os:Os)(started:os.Started)(H:Type)(enc:TypeId×Value->H) :
  ReturnsInHanded {} Tryz.checked os 3 .any (λw args=>(Rows.fnExactParseTermsSpec.pre enc Tryz.prog Tryz.f3 [] false w args/\laidMetH Tryz.prog Rows.fnExactParseTermsRow.laid w)/\sizedMet enc Tryz.prog Tryz.f3 (OpenSpec.ofChange Rows.fnExactParseTermsSpec) false w args)
   (Rows.fnExactParseTermsSpec.post enc Tryz.prog Tryz.f3 false true false false):=by
 have NW:=ChangeSpec.witness_shaped (apart:=false) (s:=Rows.fnExactParseTermsSpec) (fn:=Tryz.f3) (conds:=[]) (f:=3) (enc:=enc) (C:=Tryz.checked) (os:=os) (X:=λw _=>laidMetH Tryz.prog Rows.fnExactParseTermsRow.laid w) false (World.laidAll Tryz.prog os Rows.fnExactParseTermsRow.laid) #[.string ⟨#[]⟩] 8 (World.laidAll_os _ _ _) (World.shaped_of_ZipB (by kernel_rfl) (by kernel_rfl)) (by kernel_rfl) (by kernel_rfl) (by kernel_rfl) (by rw[MakeChecks.laidMetH_plain _ _ _ (by kernel_rfl)];exact laidMet_laidAll _ (by kernel_rfl) (by kernel_rfl))
 refine returnsInHanded_of_calls own started (by kernel_rfl) NW ?_
 intro w tape i _ hsh _ hok hpre _
 obtain⟨_,_,_,fn',hfn',_,_,_,_,hval⟩:=hok
 obtain rfl:fn'=Tryz.f3:=jV (hfn'.symm.trans Tryz.func3)
 obtain⟨⟨⟨ds,gs,before,hw,_⟩,hx⟩,_⟩:=hpre
 have hw':=DataW.Whole.of_heap (w':=w.forCall tape i) (by rfl) hw
 refine(contract H enc (w.forCall tape i) w.heap.size i.args ds gs before hval hw' (laidMetH.of_heap (by rfl) hx) hsh).mono λe W' ⟨v,he,hp⟩=>?_
 subst he
 exact ChangeSpec.post_blind hp
theorem anM:Rows.FnExactParseTermsSaid:=
 OpenClaim.holds_of_wide 3 Tryz.f3 rfl rfl rfl rfl rfl rfl rfl ⟨rfl,rfl,rfl,rfl,rfl⟩ rfl rfl rfl rfl rfl (by kernel_rfl) Tryz.func3 (by kernel_rfl)
  (of_decide_eq_true (by kernel_rfl)) (by unfold Func.isWrapper;first|(rw[ak (by decide +kernel)];kernel_rfl)|(rw[aj (by decide +kernel)];exact⟨rfl,rfl⟩))
  (λos started H enc _=>lifted os started H enc)
theorem fnExactParseTermsCard_holds:Rows.FnExactParseTermsCardSaid:=
 Claim7.holds_tied_plain_at .later [] [.data,.data,.data,.data,.sentinel,.sentinel,.pinned] true (true, "5b38546db881b79b1b12fb0fb0206b026c7f209ca704682ffef1526354532af6") true
  anM (λ_ h=>by cases h) (by kernel_rfl) (λ_ h=>by cases h) fnExactParseTerms_row_tie rfl ⟨rfl,rfl⟩ (by kernel_rfl) rfl
  (λf fn hf hfn=>by
   obtain rfl:f=3:=jV ((show Tryz.prog.funcNamed "loop.example/g00447/laws.FnExactParseTerms"=some 3 by kernel_rfl).symm.trans hf) |>.symm
   obtain rfl:fn=Tryz.f3:=(jV (Tryz.func3.symm.trans hfn)).symm
   exact⟨by kernel_rfl,λj t ht=>by
    rw[Tryz.params3]at ht
    have hm:t∈[9]:=by simpa using Array.mem_of_getElem? ht
    have hall:([9].all λu=>!Tryz.prog.wantsStandIn u)=true:=by kernel_rfl
    exact(show Tryz.prog.wantsStandIn t=false by simpa using dX.1 hall t hm)⟩)
  (by kernel_rfl)
end Go.Proofs.YtgppmpedglhhfaaGreatDoor.PtLaw

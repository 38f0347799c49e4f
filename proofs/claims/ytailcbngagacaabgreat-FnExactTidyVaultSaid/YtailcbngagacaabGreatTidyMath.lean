/- 'FnExactTidyVault': what it comes to. -/
import Derived.Test.YtailcbngagacaabGreatOwF
import Derived.Test.YtailcbngagacaabGreatLoopLib
import Derived.Test.YtailcbngagacaabGreatPackLib
import Derived.Test.YtailcbngagacaabGreatStoreMath
import Derived.Test.YtailcbngagacaabGreatOpsMath
import Derived.Test.YtailcbngagacaabGreatCodecMath
import Derived.Test.YtailcbngagacaabGreatJourMath
import Derived.Test.YtailcbngagacaabGreatVaultMath
import Derived.Test.YtailcbngagacaabGreatVResMath
import Derived.Test.YtailcbngagacaabGreatUpMath
import Derived.Test.YtailcbngagacaabGreatTidyF
set_option linter.unusedSectionVars false
set_option linter.unusedVariables false
set_option linter.unusedSimpArgs false
namespace Go.Proofs.YtailcbngagacaabGreat.OE
open Go Go.Proofs.YtailcbngagacaabGreat.Ow Go.Proofs.YtailcbngagacaabGreat.yj Go.Proofs.YtailcbngagacaabGreat.pU Go.Proofs.YtailcbngagacaabGreat.yf Go.Proofs.YtailcbngagacaabGreat.jL Go.Proofs.YtailcbngagacaabGreat.mO Go.Proofs.YtailcbngagacaabGreat.rE Go.Proofs.YtailcbngagacaabGreat.Eh Go.Proofs.YtailcbngagacaabGreat.CB Go.Proofs.YtailcbngagacaabGreat.I1 Go.Proofs.YtailcbngagacaabGreat.Wo
abbrev zP:OpC:=((0:Int),([]:List Int),([]:List Int),([]:List Int),(0:Int),(0:Int),(0:Int),([]:List Int),())
def agP (a b:OpC):Bool:=decide (a.1=4) && (decide (b.1=4) && (decide (a.2.2.2.2.1=1) && (decide (b.2.2.2.2.1=1) && (decide (a.2.1=b.2.1) && decide (a.2.2.2.1=b.2.2.2.1)))))
theorem Rq {n:Nat} {xs ys:List Int} (hb:xs.length≤big) (hn:big<n):jr n xs ys=some (decide (xs=ys),()):=GK (n:=n) hb hn
theorem QI {n:Nat} {a b:OpC} (ha:okO a) (hn:big<n):sF n a b=some (agP a b,()):=by
 unfold sF agP
 rw [Rq ha.2.2.1 hn]
 simp only [Option.bind_some]
 cases decide (a.1=4) <;> cases decide (b.1=4) <;> cases decide (a.2.2.2.2.1=1) <;> cases decide (b.2.2.2.2.1=1) <;> cases decide (a.2.1=b.2.1) <;> rfl
theorem QJ {n:Nat} {a b:OpC} (ha:okO a) (hn:big<n):qO n a b=some (agP a b,()):=by
 have hb:a.2.2.2.1.length≤1048576:=ha.2.2.1
 have hn':1048576<n:=hn
 unfold qO agP
 cases decide (a.1=4)
 ·rfl
 cases decide (b.1=4)
 ·rfl
 cases decide (a.2.2.2.2.1=1)
 ·rfl
 cases decide (b.2.2.2.2.1=1)
 ·rfl
 cases decide (a.2.1=b.2.1)
 ·rfl
 simp only [Bool.not_true,Bool.false_eq_true,if_false,Bool.true_and]
 by_cases hl:a.2.2.2.1.length=b.2.2.2.1.length
 ·rw [if_neg (by simp [hl]), ←uI (d:=0) hl]
  refine aR (fun i=>(a,b,(i:Int),())) _ _ (m:=a.2.2.2.1.length) rfl (by omega) ?_ ?_
  ·intro L i hi _
   simp only [Int.ofNat_lt,hi,decide_true,if_true,aG hi,aG (show i<b.2.2.2.1.length by omega),Int.toNat_natCast,aN hi (by omega)]
   split <;> rfl
  ·intro L _
   simp
 ·rw [if_pos (by rw [decide_eq_false (show ¬((a.2.2.2.1.length:Int)=(b.2.2.2.1.length:Int)) by omega)]; rfl),Gd hl]
def tidy:List OpC→List OpC
 | []=>[]
 | [a]=>[a]
 | a :: b :: r=>if agP a b=true then tidy (b :: r) else a :: tidy (b :: r)
theorem KL:∀(l:List OpC),∀o∈tidy l,o∈l
 | [],o,h=>h
 | [a],o,h=>h
 | a :: b :: r,o,h=>by
  rw [tidy] at h
  split at h
  ·exact List.mem_cons_of_mem _ (KL (b :: r) o h)
  ·rcases List.mem_cons.1 h with h | h
   ·exact h▸List.mem_cons_self
   ·exact List.mem_cons_of_mem _ (KL (b :: r) o h)
theorem KJ:∀(l:List OpC),(tidy l).length≤l.length
 | []=>Nat.le_refl _
 | [a]=>Nat.le_refl _
 | a :: b :: r=>by
  rw [tidy]
  have:=KJ (b :: r)
  split
  ·simp only [List.length_cons] at this ⊢; omega
  ·simp only [List.length_cons] at this ⊢; omega
theorem Kl {o:OpC} (h:LA o):(dK o).length≤504:=by
 have:=h.body.2
 rw [tH]; omega
theorem Gj:∀{l:List OpC},(∀o∈l,LA o)→(l.flatMap dK).length≤504 * l.length
 | [],_=>Nat.le_refl _
 | o :: l,h=>by
  have h1:=Kl (h o (by simp))
  have h2:=Gj (l:=l) (fun x hx=>h x (by simp [hx]))
  simp only [List.flatMap_cons,List.length_append,List.length_cons]
  omega
theorem RZ {n:Nat} {l:List OpC} (h:∀o∈l,LA o) (hb:l.length≤big) (hn:big<n):pM n l=some (l.flatMap dK,()):=by
 have hb':l.length≤1048576:=hb
 have hn':1048576<n:=hn
 unfold pM
 refine (aR (fun i=>(l,(l.length:Int),(i:Int),(l.take i).flatMap dK,())) (fun _=>none) (some (l.flatMap dK,())) (m:=l.length) (by simp) (by omega) ?_ ?_).trans (bL (fun _ _ _=>rfl))
 ·intro L i hi _
  have h1:=Kl (h _ (List.getElem_mem hi))
  have h2:=Gj (l:=l.take i) (fun x hx=>h x (List.mem_of_mem_take hx))
  rw [List.length_take] at h2
  simp only [Int.ofNat_lt,hi,decide_true,if_true,aG hi,dO hi,aN hi (by omega),Mt (h _ (List.getElem_mem hi)) hn,Option.bind_some]
  rw [if_pos (by omega),List.take_succ_eq_append_getElem hi,List.flatMap_append,List.flatMap_cons,List.flatMap_nil,List.append_nil]
 ·intro L _
  simp
def WY (out r:List OpC):List OpC:=match out.getLast? with
 | none=>tidy r
 | some x=>out.dropLast++tidy (x :: r)
theorem ED (out:List OpC) (x:OpC) (r:List OpC):WY (out++[x]) r=out++tidy (x :: r):=by simp [WY]
theorem Vz {n:Nat} {v:FR} (h:YP v) (hn:big<n):∃r:VR,pQ n v=some (r,())∧kR n v=some (r,())∧LR r:=by
 have hn':1048576<n:=hn
 obtain ⟨c,e1,e2,hc⟩:=adH h hn
 have q3:∀c,yP n c=some (K8 c,()):=fun _=>rfl
 unfold pQ kR
 simp only [e1,e2,q3,PW h hn,PX h hn,NI h.st hn,Option.bind_some]
 by_cases c0:c=0
 ·have hu:=hc c0
  have hl:=hu.ops
  have hok:=TC h
  simp only [decide_eq_true c0,Bool.not_true,Bool.false_eq_true,if_false]
  generalize opsV v=l at hl hok ⊢
  have ht:∀o∈tidy l,LA o:=fun o ho=>(hok o (KL l o ho)).2
  have hs:((tidy l).flatMap dK).length≤big:=by
   have:=Gj ht
   have:=KJ l
   unfold big; omega
  refine ⟨(0,[],(true,(tidy l).flatMap dK,[],v.2.2.2.1,()),()), ?_, ?_,by simp,hs,by simp,h.st⟩
  ·generalize hB:(fun (L5:Int×VR×FR×List OpC×Unit→Option (VR×Unit)) v5=>_)=B
   have key:∀(m i:Nat) (sure:List Int) (f:Nat),i+m=l.length→m<f→sure.length≤504 * i→rounds B f ((i:Int),K8 0,(true,sure,[],v.2.2.2.1,()),l,())=some ((0,[],(true,sure++(tidy (l.drop i)).flatMap dK,[],v.2.2.2.1,()),()),()):=by
    intro m
    induction m with
    | zero=>
     intro i sure f hi hf hsl
     obtain ⟨f,rfl⟩:∃g,f=g+1:=⟨f - 1,by omega⟩
     show B (rounds B f) _=_
     rw [←hB]
     simp only
     rw [if_neg (by rw [decide_eq_true_eq]; omega),List.drop_eq_nil_of_le (by omega)]
     simp [tidy]
    | succ m ih=>
     intro i sure f hi hf hsl
     obtain ⟨f,rfl⟩:∃g,f=g+1:=⟨f - 1,by omega⟩
     have hlt:i<l.length:=by omega
     have ha:=hok _ (List.getElem_mem hlt)
     have h1:=Kl ha.2
     have hput:rounds B f (((i+1:Nat):Int),K8 0,(true,sure++dK l[i],[],v.2.2.2.1,()),l,())=some ((0,[],(true,sure++(dK l[i]++(tidy (l.drop (i+1))).flatMap dK),[],v.2.2.2.1,()),()),()):=by
      rw [ih (i+1) _ f (by omega) (by omega) (by rw [List.length_append]; omega),List.append_assoc]
     show B (rounds B f) _=_
     conv=>lhs; rw [←hB]
     simp only [Int.ofNat_lt,hlt,decide_true,if_true,aG hlt,dO hlt,aN hlt (by omega),Gi ha.2 hn,Option.bind_some]
     rw [hB]
     have hcap:(sure.length+(dK l[i]).length) * 1≤140737488355328:=by omega
     by_cases h2:i+1<l.length
     ·have hd:l.drop i=l[i] :: l[i+1] :: l.drop (i+2):=by rw [List.drop_eq_getElem_cons hlt,List.drop_eq_getElem_cons h2]
      have hd2:l.drop (i+1)=l[i+1] :: l.drop (i+2):=List.drop_eq_getElem_cons h2
      simp only [Int.ofNat_lt,h2,decide_true,if_true,aG h2,dO h2,QJ ha.1 hn,Option.bind_some]
      cases hag:agP l[i] l[i+1] with
      | true=>
       simp only [if_true]
       rw [ih (i+1) _ f (by omega) (by omega) (by omega),hd,hd2,tidy,if_pos hag]
      | false=>
       simp only [Bool.false_eq_true,if_false]
       rw [if_pos hcap,hput,hd,tidy,if_neg (by rw [hag]; decide),List.flatMap_cons,hd2]
     ·have hd:l.drop i=[l[i]]:=by rw [List.drop_eq_getElem_cons hlt,List.drop_eq_nil_of_le (by omega)]
      have hd2:l.drop (i+1)=[]:=List.drop_eq_nil_of_le (by omega)
      simp only [Int.ofNat_lt,h2,decide_false,Bool.false_eq_true,if_false]
      rw [if_pos hcap,hput,hd,hd2]
      simp [tidy]
   have:=key l.length 0 [] n (by omega) (by omega) (by simp)
   simp only [List.drop_zero,List.nil_append] at this
   exact this
  ·generalize hB:(fun (L3:Int×Int×FR×VR×List OpC×List OpC×Unit→Option (VR×Unit)) v3=>_)=B
   have key:∀(m i:Nat) (out:List OpC) (f:Nat),i+m=l.length→m<f→out.length≤i→(∀o∈out,okO o)→WY out (l.drop i)=tidy l→rounds B f ((l.length:Int),(i:Int),v,K8 0,l,out,())=some ((0,[],(true,(tidy l).flatMap dK,[],v.2.2.2.1,()),()),()):=by
    intro m
    induction m with
    | zero=>
     intro i out f hi hf ho hom hfin
     obtain ⟨f,rfl⟩:∃g,f=g+1:=⟨f - 1,by omega⟩
     have hout:out=tidy l:=by
      rw [←hfin,List.drop_eq_nil_of_le (by omega)]
      rcases List.eq_nil_or_concat out with rfl | ⟨p,x,rfl⟩
      ·rfl
      ·rw [List.concat_eq_append,ED]; rfl
     show B (rounds B f) _=_
     rw [←hB]
     simp only
     rw [if_neg (by rw [decide_eq_true_eq]; omega),hout,RZ ht (by have:=KJ l; unfold big; omega) hn]
     simp only [Option.bind_some]
     rw [own h.st hn]
     rfl
    | succ m ih=>
     intro i out f hi hf ho hom hfin
     obtain ⟨f,rfl⟩:∃g,f=g+1:=⟨f - 1,by omega⟩
     have hlt:i<l.length:=by omega
     have ha:=hok _ (List.getElem_mem hlt)
     have hd:l.drop i=l[i] :: l.drop (i+1):=List.drop_eq_getElem_cons hlt
     rw [hd] at hfin
     show B (rounds B f) _=_
     conv=>lhs; rw [←hB]
     simp only [Int.ofNat_lt,hlt,decide_true,if_true,aG hlt,dO hlt,aN hlt (by omega)]
     rw [hB]
     rcases List.eq_nil_or_concat out with rfl | ⟨p,x,rfl⟩
     ·rw [if_neg (by simp),if_pos (by simp)]
      exact ih (i+1) _ f (by omega) (by omega) (by simp) (fun o h=>by rw [List.mem_singleton.1 h]; exact ha.1) hfin
     ·rw [List.concat_eq_append] at *
      have hx:(p++[x]).length=p.length+1:=by simp
      rw [hx] at ho
      have hw:IntKind.i64.wrap (((p++[x]).length:Int) - 1)=(p.length:Int):=by rw [hx,wrap_i64 (by omega) (by omega)]; omega
      have hxo:okO x:=hom x (by simp)
      rw [if_pos (by rw [decide_eq_true_eq,hx]; omega)]
      simp only [hw,aG (show p.length<(p++[x]).length by omega),if_true,Int.toNat_natCast]
      have hg:(p++[x]).getD p.length zP=x:=by simp
      have hsl:(p++[x]).set p.length l[i]=p++[l[i]]:=by simp
      rw [hg,QI hxo hn,hsl]
      simp only [Option.bind_some]
      rw [ED,tidy] at hfin
      cases hag:agP x l[i] with
      | true=>
       rw [if_pos hag] at hfin
       simp only [if_true]
       refine ih (i+1) _ f (by omega) (by omega) (by simp; omega) (fun o h=>?_) (by rw [ED]; exact hfin)
       rcases List.mem_append.1 h with h | h
       ·exact hom o (List.mem_append_left _ h)
       ·rw [List.mem_singleton.1 h]; exact ha.1
      | false=>
       rw [if_neg (by rw [hag]; decide)] at hfin
       simp only [Bool.false_eq_true,if_false]
       rw [if_pos (by simp only [List.length_append,List.length_singleton]; omega)]
       refine ih (i+1) _ f (by omega) (by omega) (by simp; omega) (fun o h=>?_) (by rw [ED,List.append_assoc]; exact hfin)
       rcases List.mem_append.1 h with h | h
       ·exact hom o h
       ·rw [List.mem_singleton.1 h]; exact ha.1
   exact key l.length 0 [] n (by omega) (by omega) (Nat.le_refl _) (fun o h=>absurd h (List.not_mem_nil)) rfl
 ·simp only [decide_eq_false c0,Bool.not_false,if_true]
  exact ⟨K8 c,rfl,rfl,acv _⟩
theorem law {v:FR} (hv:lV v):kT 1048577 v=some (true,()):=by
 have hn:big<1048577:=by unfold big; omega
 unfold kT
 obtain ⟨r1,a1,a2⟩:=aai hv hn
 rw [a1]
 simp only [Option.bind_some]
 by_cases c1:r1<0
 ·simp only [c1,decide_true,if_true]
 ·have hV:=a2.resolve_left c1
  obtain ⟨r,e1,e2,hR⟩:=Vz hV hn
  have m0:=Mo (n:=1048577) (k:=1) (LV.of hV) hn (by omega) (by omega)
  have m1:=EK (k:=1) (LV.of hV) (by omega) (by omega)
  have m2:¬kV 1 v<0:=by omega
  simp only [c1,decide_false,Bool.false_eq_true,if_false,aal hV hn,e1,e2,Option.bind_some,agf hR hn,ZB hV hn,Bool.not_true,m0,m2,Z6 hR hn,ZN hR hn,adC hR,decide_true]
theorem all:∀(N:Nat) (c:Cont (kin bZ)),Z4 bZ c→szC bZ c≤N→∃n out,kL.F n c=some out∧out.1=true:=by
 intro N c hc _
 exact ⟨1048577,(true,()),law (v:=c.1) (alD hc.1),rfl⟩
end Go.Proofs.YtailcbngagacaabGreat.OE

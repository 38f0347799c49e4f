/- A vault that is tidied. -/
import Derived.Test.YtailcbngagacaaaGreatUpMath
set_option linter.unusedVariables false
set_option linter.unusedSimpArgs false
namespace Go.Proofs.YtailcbngagacaaaGreat.Lh
open Go Ow JO kF qc iw gU kK tL qz vg JP
abbrev zP:OpC:=((0:Int),([]:List Int),([]:List Int),([]:List Int),(0:Int),(0:Int),(0:Int),([]:List Int),())
def JW (a b:OpC):Bool:=decide (a.1=4) && (decide (b.1=4) && (decide (a.2.2.2.2.1=1) && (decide (b.2.2.2.2.1=1) && (decide (a.2.1=b.2.1) && decide (a.2.2.2.1=b.2.2.2.1)))))
theorem Oq {n:Nat} {xs ys:List Int} (hb:xs.length<=big) (hn:big<n):jY n xs ys=some (decide (xs=ys),()):=DV (n:=n) hb hn
theorem NH {n:Nat} {a b:OpC} (ha:okO a) (hn:big<n):qP n a b=some (JW a b,()):=by
 unfold qP JW
 rw [Oq ha.2.2.1 hn]
 simp only [anf]
 cases decide (a.1=4) <;> cases decide (b.1=4) <;> cases decide (a.2.2.2.2.1=1) <;> cases decide (b.2.2.2.2.1=1) <;> cases decide (a.2.1=b.2.1) <;> rfl
theorem NI {n:Nat} {a b:OpC} (ha:okO a) (hn:big<n):p9 n a b=some (JW a b,()):=by
 have hb:a.2.2.2.1.length<=1048576:=ha.2.2.1
 have hn':1048576<n:=hn
 unfold p9 JW
 cases decide (a.1=4)
 ·rfl
 cases decide (b.1=4)
 ·rfl
 cases decide (a.2.2.2.2.1=1)
 ·rfl
 cases decide (b.2.2.2.2.1=1)
 ·rfl
 cases decide (a.2.1=b.2.1)
 ·rfl
 simp only [anH,anh,aog,ao2]
 by_cases hl:a.2.2.2.1.length=b.2.2.2.1.length
 ·rw [aok (by simp [hl]), <-rW (d:=0) hl]
  refine aT (fun i=>(a,b,(i:Int),())) _ _ (m:=a.2.2.2.1.length) rfl (by omega) ?_ ?_
  ·intro L i hi _
   simp only [anG,hi,aox,aof,aJ hi,aJ (show i<b.2.2.2.1.length by omega),ano,aX hi (by omega)]
   split <;> rfl
  ·intro L _
   simp
 ·rw [aoi (by rw [aoY (show ¬((a.2.2.2.1.length:Int)=(b.2.2.2.1.length:Int)) by omega)]; rfl),Dc hl]
def tidy:List OpC->List OpC
 | []=>[]
 | [a]=>[a]
 | a :: b :: r=>if JW a b=true then tidy (b :: r) else a :: tidy (b :: r)
theorem zC:∀(l:List OpC),∀o∈tidy l,o∈l
 | [],o,h=>h
 | [a],o,h=>h
 | a :: b :: r,o,h=>by
  rw [tidy] at h
  split at h
  ·exact anE _ (zC (b :: r) o h)
  ·rcases anq.1 h with h | h
   ·exact h▸anM
   ·exact anE _ (zC (b :: r) o h)
theorem Ck:∀(l:List OpC),(tidy l).length<=l.length
 | []=>anv _
 | [a]=>anv _
 | a :: b :: r=>by
  rw [tidy]
  have:=Ck (b :: r)
  split
  ·simp only [anD] at this ⊢; omega
  ·simp only [anD] at this ⊢; omega
theorem GK {o:OpC} (h:ES o):(bK o).length<=504:=by
 have:=h.body.2
 rw [oD]; omega
theorem Dh:∀{l:List OpC},(∀o∈l,ES o)->(l.flatMap bK).length<=504 * l.length
 | [],_=>anv _
 | o :: l,h=>by
  have h1:=GK (h o (by simp))
  have h2:=Dh (l:=l) (fun x hx=>h x (by simp [hx]))
  simp only [anT,anm,anD]
  omega
theorem O0 {n:Nat} {l:List OpC} (h:∀o∈l,ES o) (hb:l.length<=big) (hn:big<n):oO n l=some (l.flatMap bK,()):=by
 have hb':l.length<=1048576:=hb
 have hn':1048576<n:=hn
 unfold oO
 refine (aT (fun i=>(l,(l.length:Int),(i:Int),(l.take i).flatMap bK,())) (fun _=>none) (some (l.flatMap bK,())) (m:=l.length) (by simp) (by omega) ?_ ?_).trans (dn (fun _ _ _=>rfl))
 ·intro L i hi _
  have h1:=GK (h _ (anI hi))
  have h2:=Dh (l:=l.take i) (fun x hx=>h x (an6 hx))
  rw [aoX] at h2
  simp only [anG,hi,aox,aof,aJ hi,fV hi,aX hi (by omega),Jj (h _ (anI hi)) hn,anf]
  rw [aoi (by omega),apj hi,apk,anT,apl,anJ]
 ·intro L _
  simp
def UT (out r:List OpC):List OpC:=match out.getLast? with
 | none=>tidy r
 | some x=>out.dropLast++tidy (x :: r)
theorem BC (out:List OpC) (x:OpC) (r:List OpC):UT (out++[x]) r=out++tidy (x :: r):=by simp [UT]
theorem Jy {n:Nat} {v:wZ} (h:IC v) (hn:big<n):∃r:VR,oP n v=some (r,())/\lX n v=some (r,())/\LR r/\(r.1=0->gK n v=some (0,()))/\(gK n v=some (0,())->r=(0,[],(true,(tidy (opsV v)).flatMap bK,[],v.2.2.2.1,()),())):=by
 have hn':1048576<n:=hn
 obtain ⟨c,e1,e2,hc⟩:=WO h hn
 have q3:∀c,fQ n c=some (vW c,()):=fun _=>rfl
 unfold oP lX
 simp only [e1,e2,q3,BV h hn,GJ h hn,Da h.st hn,anf]
 by_cases c0:c=0
 ·have hu:=hc c0
  have hl:=hu.ops
  have hok:=zQ h
  simp only [aoA c0,anH,anh,aog]
  generalize opsV v=l at hl hok ⊢
  have ht:∀o∈tidy l,ES o:=fun o ho=>(hok o (zC l o ho)).2
  have hs:((tidy l).flatMap bK).length<=big:=by
   have:=Dh ht
   have:=Ck l
   unfold big; omega
  refine ⟨(0,[],(true,(tidy l).flatMap bK,[],v.2.2.2.1,()),()), ?_, ?_,⟨by simp,hs,by simp,h.st⟩,fun _=>by rw [c0],fun _=>rfl⟩
  ·generalize hB:(fun (L5:Int×VR×wZ×List OpC×Unit->Option (VR×Unit)) v5=>_)=B
   have key:∀(m i:Nat) (sure:List Int) (f:Nat),i+m=l.length->m<f->sure.length<=504 * i->rounds B f ((i:Int),vW 0,(true,sure,[],v.2.2.2.1,()),l,())=some ((0,[],(true,sure++(tidy (l.drop i)).flatMap bK,[],v.2.2.2.1,()),()),()):=by
    intro m
    induction m with
    | zero=>
     intro i sure f hi hf hsl
     obtain ⟨f,rfl⟩:∃g,f=g+1:=⟨f - 1,by omega⟩
     show B (rounds B f) _=_
     rw [<-hB]
     simp only
     rw [aok (by rw [ao1]; omega),apu (by omega)]
     simp [tidy]
    | succ m ih=>
     intro i sure f hi hf hsl
     obtain ⟨f,rfl⟩:∃g,f=g+1:=⟨f - 1,by omega⟩
     have hlt:i<l.length:=by omega
     have ha:=hok _ (anI hlt)
     have h1:=GK ha.2
     have hput:rounds B f (((i+1:Nat):Int),vW 0,(true,sure++bK l[i],[],v.2.2.2.1,()),l,())=some ((0,[],(true,sure++(bK l[i]++(tidy (l.drop (i+1))).flatMap bK),[],v.2.2.2.1,()),()),()):=by
      rw [ih (i+1) _ f (by omega) (by omega) (by rw [anm]; omega),anB]
     show B (rounds B f) _=_
     conv=>lhs; rw [<-hB]
     simp only [anG,hlt,aox,aof,aJ hlt,fV hlt,aX hlt (by omega),zS ha.2 hn,anf]
     rw [hB]
     have hcap:(sure.length+(bK l[i]).length) * 1<=140737488355328:=by omega
     by_cases h2:i+1<l.length
     ·have hd:l.drop i=l[i] :: l[i+1] :: l.drop (i+2):=by rw [aoM hlt,aoM h2]
      have hd2:l.drop (i+1)=l[i+1] :: l.drop (i+2):=aoM h2
      simp only [anG,h2,aox,aof,aJ h2,fV h2,NI ha.1 hn,anf]
      cases hag:JW l[i] l[i+1] with
      | true=>
       simp only [aof]
       rw [ih (i+1) _ f (by omega) (by omega) (by omega),hd,hd2,tidy,aoi hag]
      | false=>
       simp only [anh,aog]
       rw [aoi hcap,hput,hd,tidy,aok (by rw [hag]; decide),anT,hd2]
     ·have hd:l.drop i=[l[i]]:=by rw [aoM hlt,apu (by omega)]
      have hd2:l.drop (i+1)=[]:=apu (by omega)
      simp only [anG,h2,apd,anh,aog]
      rw [aoi hcap,hput,hd,hd2]
      simp [tidy]
   have:=key l.length 0 [] n (by omega) (by omega) (by simp)
   simp only [apf,anX] at this
   exact this
  ·generalize hB:(fun (L3:Int×Int×wZ×VR×List OpC×List OpC×Unit->Option (VR×Unit)) v3=>_)=B
   have key:∀(m i:Nat) (out:List OpC) (f:Nat),i+m=l.length->m<f->out.length<=i->(∀o∈out,okO o)->UT out (l.drop i)=tidy l->rounds B f ((l.length:Int),(i:Int),v,vW 0,l,out,())=some ((0,[],(true,(tidy l).flatMap bK,[],v.2.2.2.1,()),()),()):=by
    intro m
    induction m with
    | zero=>
     intro i out f hi hf ho hom hfin
     obtain ⟨f,rfl⟩:∃g,f=g+1:=⟨f - 1,by omega⟩
     have hout:out=tidy l:=by
      rw [<-hfin,apu (by omega)]
      rcases List.eq_nil_or_concat out with rfl | ⟨p,x,rfl⟩
      ·rfl
      ·rw [List.concat_eq_append,BC]; rfl
     show B (rounds B f) _=_
     rw [<-hB]
     simp only
     rw [aok (by rw [ao1]; omega),hout,O0 ht (by have:=Ck l; unfold big; omega) hn]
     simp only [anf]
     rw [own h.st hn]
     rfl
    | succ m ih=>
     intro i out f hi hf ho hom hfin
     obtain ⟨f,rfl⟩:∃g,f=g+1:=⟨f - 1,by omega⟩
     have hlt:i<l.length:=by omega
     have ha:=hok _ (anI hlt)
     have hd:l.drop i=l[i] :: l.drop (i+1):=aoM hlt
     rw [hd] at hfin
     show B (rounds B f) _=_
     conv=>lhs; rw [<-hB]
     simp only [anG,hlt,aox,aof,aJ hlt,fV hlt,aX hlt (by omega)]
     rw [hB]
     rcases List.eq_nil_or_concat out with rfl | ⟨p,x,rfl⟩
     ·rw [aok (by simp),aoi (by simp)]
      exact ih (i+1) _ f (by omega) (by omega) (by simp) (fun o h=>by rw [anz.1 h]; exact ha.1) hfin
     ·rw [List.concat_eq_append] at *
      have hx:(p++[x]).length=p.length+1:=by simp
      rw [hx] at ho
      have hw:IntKind.i64.wrap (((p++[x]).length:Int) - 1)=(p.length:Int):=by rw [hx,wrap_i64 (by omega) (by omega)]; omega
      have hxo:okO x:=hom x (by simp)
      rw [aoi (by rw [ao1,hx]; omega)]
      simp only [hw,aJ (show p.length<(p++[x]).length by omega),aof,ano]
      have hg:(p++[x]).getD p.length zP=x:=by simp
      have hsl:(p++[x]).set p.length l[i]=p++[l[i]]:=by simp
      rw [hg,NH hxo hn,hsl]
      simp only [anf]
      rw [BC,tidy] at hfin
      cases hag:JW x l[i] with
      | true=>
       rw [aoi hag] at hfin
       simp only [aof]
       refine ih (i+1) _ f (by omega) (by omega) (by simp; omega) (fun o h=>?_) (by rw [BC]; exact hfin)
       rcases ann.1 h with h | h
       ·exact hom o (anj _ h)
       ·rw [anz.1 h]; exact ha.1
      | false=>
       rw [aok (by rw [hag]; decide)] at hfin
       simp only [anh,aog]
       rw [aoi (by simp only [anm,anA]; omega)]
       refine ih (i+1) _ f (by omega) (by omega) (by simp; omega) (fun o h=>?_) (by rw [BC,anB]; exact hfin)
       rcases ann.1 h with h | h
       ·exact hom o h
       ·rw [anz.1 h]; exact ha.1
   exact key l.length 0 [] n (by omega) (by omega) (anv _) (fun o h=>absurd h (aot)) rfl
 ·simp only [aoY c0,anS,aof]
  exact ⟨vW c,rfl,rfl,JJ _,fun h=>absurd h c0,fun h=>absurd (by simpa using h) c0⟩
end Go.Proofs.YtailcbngagacaaaGreat.Lh

/- Vaults: both sides find the same fault. -/
import Derived.Test.YtailcbngagacaaaGreatJourMath
set_option linter.unusedVariables false
set_option linter.unusedSimpArgs false
namespace Go.Proofs.YtailcbngagacaaaGreat.qz
open Go Ow JO kF qc iw gU tK kK yM zG tL
instance alP:DecidableEq oV:=inferInstance
instance alO:DecidableEq Bx:=instDecidableEqProd
instance alQ:DecidableEq j4:=instDecidableEqProd
theorem rW {A:Type} [DecidableEq A] {xs ys:List A} {d:A} (hl:xs.length=ys.length):dI (fun j=>if (!decide (xs.getD j d=ys.getD j d))=true then some (some (false,())) else none) (some (true,())) xs.length 0=some (decide (xs=ys),()):=by
 by_cases h:xs=ys
 ·subst h
  rw [aoA rfl]
  exact dn (fun j _ _=>by simp)
 ·rw [aoY h]
  rcases BD (step:=fun j=>if (!decide (xs.getD j d=ys.getD j d))=true then some (some (false,())) else none) (fin:=some (true,())) (r:=some (false,())) (fun j=>by
   by_cases hh:xs.getD j d=ys.getD j d
   ·rw [aok (by rw [aoA hh]; decide)]; exact .inl rfl
   ·rw [aoi (by rw [aoY hh]; decide)]; exact .inr rfl) (m:=xs.length) (i:=0) with h1 | h1
  ·exact h1
  ·exfalso
   refine h (aoC hl fun i h2 h3=>?_)
   have:=yT (by simp) h1 i (anO _) (by omega)
   rw [getD_lt h2,getD_lt h3] at this
   simpa using this
theorem ZF (a b:oV):decide (a=b)=(decide (a.1=b.1) && (decide (a.2.1=b.2.1) && (decide (a.2.2.1=b.2.2.1) && decide (a.2.2.2.1=b.2.2.2.1)))):=by
 obtain ⟨a1,a2,a3,a4,_⟩:=a
 obtain ⟨b1,b2,b3,b4,_⟩:=b
 simp only [anp,an9,Bool.decide_and]
theorem ZE (a b:Bx):decide (a=b)=(decide (a.1=b.1) && (decide (a.2.1=b.2.1) && (decide (a.2.2.1=b.2.2.1) && decide (a.2.2.2.1=b.2.2.2.1)))):=by
 obtain ⟨a1,a2,a3,a4,_⟩:=a
 obtain ⟨b1,b2,b3,b4,_⟩:=b
 simp only [anp,an9,Bool.decide_and]
theorem ZG (a b:j4):decide (a=b)=(decide (a.1=b.1) && decide (a.2.1=b.2.1)):=by
 obtain ⟨a1,a2,_⟩:=a
 obtain ⟨b1,b2,_⟩:=b
 simp only [anp,an9,Bool.decide_and]
theorem Dc {A:Type} [DecidableEq A] {xs ys:List A} (h:¬xs.length=ys.length):decide (xs=ys)=false:=aoY fun e=>h (by rw [e])
theorem DV {n:Nat} {xs ys:List Int} (hb:xs.length<=big) (hn:big<n):iN n xs ys=some (decide (xs=ys),()):=by
 have hb':xs.length<=1048576:=hb
 unfold iN
 by_cases hl:xs.length=ys.length
 ·rw [aok (by simp [hl]), <-rW (d:=0) hl]
  refine aT (fun i=>(xs,ys,(xs.length:Int),(i:Int),())) _ _ (m:=xs.length) rfl (by omega) ?_ ?_
  ·intro L i hi _
   simp only [anG,hi,aox,aof,aJ hi,aJ (show i<ys.length by omega),ano,aX hi (by omega)]
   split <;> rfl
  ·intro L _
   simp
 ·rw [aoi (by rw [aoY (show ¬((xs.length:Int)=(ys.length:Int)) by omega)]; rfl),Dc hl]
theorem Kz {n:Nat} {a b:oV} (ha:OX a) (hn:big<n):lS n a b=some (decide (a=b),()):=by
 unfold lS
 rw [ZF,DV ha hn]
 simp only [anf]
 cases decide (a.1=b.1) <;> cases decide (a.2.1=b.2.1) <;> cases decide (a.2.2.1=b.2.2.1) <;> rfl
theorem KA {n:Nat} {a b:oV}:kV n a b=some (decide (a=b),()):=by
 unfold kV
 rw [ZF]
 cases decide (a.1=b.1) <;> cases decide (a.2.1=b.2.1) <;> cases decide (a.2.2.1=b.2.2.1) <;> rfl
theorem Io {n:Nat} {xs ys:List oV} (hb:xs.length<=big) (hm:∀m∈xs,OX m) (hn:big<n):aO n xs ys=some (decide (xs=ys),()):=by
 have hb':xs.length<=1048576:=hb
 unfold aO
 by_cases hl:xs.length=ys.length
 ·rw [aok (by simp [hl]), <-rW (d:=dM) hl]
  refine aT (fun i=>(ys,xs,(xs.length:Int),(i:Int),())) _ _ (m:=xs.length) rfl (by omega) ?_ ?_
  ·intro L i hi _
   have h0:OX (xs.getD i dM):=by rw [getD_lt hi]; exact hm _ (anI hi)
   simp only [anG,hi,aox,aof,aJ hi,aJ (show i<ys.length by omega),ano,aX hi (by omega),Kz h0 hn,anf]
   split <;> rfl
  ·intro L _
   simp
 ·rw [aoi (by rw [aoY (show ¬((xs.length:Int)=(ys.length:Int)) by omega)]; rfl),Dc hl]
theorem Ia {n:Nat} {a b:Bx} (ha:okB a) (hn:big<n):lM n a b=some (decide (a=b),()):=by
 unfold lM
 rw [ZE,Io ha.2.1 ha.2.2 hn]
 simp only [anf]
 cases decide (a.1=b.1) <;> cases decide (a.2.1=b.2.1) <;> cases decide (a.2.2.1=b.2.2.1) <;> rfl
theorem Ib {n:Nat} {a b:Bx} (ha:okB a) (hn:big<n):oU n a b=some (decide (a=b),()):=by
 have hb':a.2.2.2.1.length<=1048576:=ha.2.1
 have hn':1048576<n:=hn
 unfold oU
 rw [ZE]
 have hlp:∀(hl:a.2.2.2.1.length=b.2.2.2.1.length),_=some (decide (a.2.2.2.1=b.2.2.2.1),()):=fun hl=>rW (d:=dM) hl
 cases h1:decide (a.1=b.1)
 ·rfl
 cases h2:decide (a.2.1=b.2.1)
 ·rfl
 cases h3:decide (a.2.2.1=b.2.2.1)
 ·rfl
 simp only [anH,anh,aog,ao2]
 by_cases hl:a.2.2.2.1.length=b.2.2.2.1.length
 ·rw [aok (by simp [hl]), <-hlp hl]
  refine aT (fun i=>(a,b,(i:Int),())) _ _ (m:=a.2.2.2.1.length) rfl (by omega) ?_ ?_
  ·intro L i hi _
   simp only [anG,hi,aox,aof,aJ hi,aJ (show i<b.2.2.2.1.length by omega),ano,aX hi (by omega),KA,anf]
   split <;> rfl
  ·intro L _
   simp
 ·rw [aoi (by rw [aoY (show ¬((a.2.2.2.1.length:Int)=(b.2.2.2.1.length:Int)) by omega)]; rfl),Dc hl]
theorem zU {n:Nat} {a b:j4} (ha:wW a) (hn:big<n):gQ n a b=some (decide (a=b),()):=by
 have hb':a.2.1.length<=1048576:=ha.1
 have hn':1048576<n:=hn
 unfold gQ bI
 rw [ZG]
 cases h1:decide (a.1=b.1)
 ·rfl
 simp only [aof,ao2]
 by_cases hl:a.2.1.length=b.2.1.length
 ·rw [aok (by simp [hl]), <-rW (d:=dB) hl]
  refine (congrArg (fun x=>Option.bind x fun r1:Bool×Unit=>some (r1.1,())) (aT (fun i=>(b.2.1,a.2.1,(a.2.1.length:Int),(i:Int),())) (fun j=>if (!decide (a.2.1.getD j dB=b.2.1.getD j dB))=true then some (some (false,())) else none) (some (true,())) (m:=a.2.1.length) rfl (by omega) ?_ ?_)).trans ?_
  ·intro L i hi _
   have h0:okB (a.2.1.getD i dB):=by rw [getD_lt hi]; exact ha.2 _ (anI hi)
   simp only [anG,hi,aox,aof,aJ hi,aJ (show i<b.2.1.length by omega),ano,aX hi (by omega),Ia h0 hn,anf]
   split <;> rfl
  ·intro L _
   simp
  ·rw [rW (d:=dB) hl]; rfl
 ·rw [aoi (by rw [aoY (show ¬((a.2.1.length:Int)=(b.2.1.length:Int)) by omega)]; rfl),Dc hl]
  rfl
theorem Ta {n:Nat} {a b:j4} (ha:wW a) (hn:big<n):sU n a b=some (decide (a=b),()):=by
 have hb':a.2.1.length<=1048576:=ha.1
 have hn':1048576<n:=hn
 unfold sU
 rw [ZG]
 cases h1:decide (a.1=b.1)
 ·rfl
 simp only [anH,anh,aog,ao2]
 by_cases hl:a.2.1.length=b.2.1.length
 ·rw [aok (by simp [hl]), <-rW (d:=dB) hl]
  refine aT (fun i=>(a,b,(i:Int),())) _ _ (m:=a.2.1.length) rfl (by omega) ?_ ?_
  ·intro L i hi _
   have h0:okB (a.2.1.getD i dB):=by rw [getD_lt hi]; exact ha.2 _ (anI hi)
   simp only [anG,hi,aox,aof,aJ hi,aJ (show i<b.2.1.length by omega),ano,aX hi (by omega),Ib h0 hn,anf]
   split <;> rfl
  ·intro L _
   simp
 ·rw [aoi (by rw [aoY (show ¬((a.2.1.length:Int)=(b.2.1.length:Int)) by omega)]; rfl),Dc hl]
theorem Fu {n:Nat} (c:Int):eX n c=some (bad c,()):=rfl
theorem I5 {s:j4} {o:OpC} {r:rG} (hg:qE s) (h:(dW o=0/\r=gU.uQ (ji s o))\/(dW o≠0/\r=bad (dW o))) (h0:r.1=0):qE r.2.2.1:=by
 rcases h with ⟨h1,rfl⟩ | ⟨h1,rfl⟩
 ·unfold gU.uQ at h0 ⊢
  by_cases h2:(ji s o).2.1=0
  ·rw [aoi h2]
   exact Mc.2 (TK (Mc.1 hg) (right h1) h2)
  ·rw [aok h2] at h0
   exact absurd h0 h2
 ·exact absurd h0 h1
theorem Lt {n:Nat} {s:j4} {l:List OpC} (hs:wW s) (hg:qE s) (hl:∀o∈l,okO o) (hn:big<n) :
  ∃r:rG,iA n s l=some (r,())/\iy n s l=some (r,())/\ZA r/\(r.1=0->qE r.2.2.1):=by
 have hn':1048576<n:=hn
 obtain ⟨he,c,hc,hgc⟩:=vv hs hn
 have h0:=hgc.2 hg
 unfold iA iy
 by_cases h6:(l.length:Int)>60
 ·rw [aoA h6,aoi rfl,aoi rfl]
  exact ⟨bad 2,rfl,rfl,zN _,fun h=>absurd h (by decide)⟩
 rw [aoY h6,aok (by decide),aok (by decide),he,hc]
 simp only [anf,h0,aox,anH,anh,aog,Da hs hn,own hs hn,Fu]
 generalize hBs:(fun (L5:List OpC×Int×rG×rG×Unit->Option (rG×Unit)) v5=>_)=Bs
 generalize XP:(fun (L3:List OpC×Int×Int×rG×j4×Unit->Option (rG×Unit)) v3=>_)=Bi
 have key:∀(m i:Nat) (s:j4) (f:Nat),i+m=l.length->m<f->wW s->qE s->∃r:rG,rounds Bs f (l,(i:Int),bad 0,(0,[],s,()),())=some (r,())/\rounds Bi f (l,(l.length:Int),(i:Int),bad 0,s,())=some (r,())/\ZA r/\(r.1=0->qE r.2.2.1):=by
  intro m
  induction m with
  | zero=>
   intro i s f hi hf hs hg
   obtain ⟨f,rfl⟩:∃g,f=g+1:=⟨f - 1,by omega⟩
   refine ⟨(0,[],s,()), ?_, ?_,⟨by simp,hs⟩,fun _=>hg⟩
   ·show Bs (rounds Bs f) _=_
    rw [<-hBs]
    simp only
    rw [aok (by rw [ao1]; omega)]
   ·show Bi (rounds Bi f) _=_
    rw [<-XP]
    simp only
    rw [aok (by rw [ao1]; omega)]
  | succ m ih=>
   intro i s f hi hf hs hg
   obtain ⟨f,rfl⟩:∃g,f=g+1:=⟨f - 1,by omega⟩
   have hlt:i<l.length:=by omega
   obtain ⟨r,e1,e2,e3,e4⟩:=Br hs (hl _ (anI hlt)) hg hn
   have q1:rounds Bs (f+1) (l,(i:Int),bad 0,(0,[],s,()),())=if (!decide (r.1=(0:Int)))=true then some (bad r.1,()) else rounds Bs f (l,((i+1:Nat):Int),bad 0,(0,[],r.2.2.1,()),()):=by
    show Bs (rounds Bs f) _=_
    conv=>lhs; rw [<-hBs]
    simp only [anG,hlt,aox,aof,aJ hlt,fV hlt,aX hlt (by omega),e1,anf]
    rw [hBs]
   have q2:rounds Bi (f+1) (l,(l.length:Int),(i:Int),bad 0,s,())=if (!decide (r.1=(0:Int)))=true then some (bad r.1,()) else rounds Bi f (l,(l.length:Int),((i+1:Nat):Int),bad 0,r.2.2.1,()):=by
    show Bi (rounds Bi f) _=_
    conv=>lhs; rw [<-XP]
    simp only [anG,hlt,aox,aof,aJ hlt,fV hlt,aX hlt (by omega),e2,anf]
    rw [XP]
    rfl
   rw [q1,q2]
   by_cases hr:r.1=0
   ·rw [aok (by simp [hr]),aok (by simp [hr])]
    exact ih (i+1) _ f (by omega) (by omega) e3.2 (I5 hg e4 hr)
   ·rw [aoi (by simp [hr]),aoi (by simp [hr])]
    exact ⟨bad r.1,rfl,rfl,zN _,fun h=>absurd h hr⟩
 exact key l.length 0 s n (by omega) (by omega) hs hg
abbrev wZ:=Bool×List Int×List Int×j4×Unit
structure IC (v:wZ):Prop where
 s1:v.2.1.length<=big
 b1:pR v.2.1
 s2:v.2.2.1.length<=big
 b2:pR v.2.2.1
 st:wW v.2.2.2.1
abbrev eS:j4:=(1,[],())
theorem xm:wW eS/\qE eS:=⟨⟨by simp [big],fun b hb=>absurd hb (aot)⟩,⟨by decide,by decide,fun i hi=>absurd hi (Nat.not_lt_zero i)⟩⟩
noncomputable def opsV (v:wZ):List OpC:=(jP v.2.1).1++(jP v.2.2.1).1
noncomputable def yx (v:wZ):Bool:=decide (((jP v.2.1).2:Int)=(v.2.1.length:Int)) && decide (((jP v.2.2.1).2:Int)=(v.2.2.1.length:Int))
theorem zQ {v:wZ} (h:IC v):∀o∈opsV v,okO o/\ES o:=fun o ho=>(ann.1 ho).elim (VE h.b1 o) (VE h.b2 o)
theorem BV {n:Nat} {v:wZ} (h:IC v) (hn:big<n):jN n v=some (opsV v,yx v,()):=by
 have h1:=(vI v.2.1).2.2
 have h2:=(vI v.2.2.1).2.2
 have g1:=h.s1
 have g2:=h.s2
 unfold big at g1 g2
 unfold jN dA
 rw [C8 h.b1 h.s1 hn,C8 h.b2 h.s2 hn]
 simp only [anf]
 rw [aoi (by omega)]
 unfold yx opsV
 cases decide (((jP v.2.1).2:Int)=(v.2.1.length:Int)) <;> rfl
theorem GJ {n:Nat} {v:wZ} (h:IC v) (hn:big<n):nI n v=some (opsV v,yx v,()):=by
 have h1:=(vI v.2.1).2.2
 have h2:=(vI v.2.2.1).2.2
 have g1:=h.s1
 have g2:=h.s2
 unfold big at g1 g2
 unfold nI
 rw [C9 h.b1 h.s1 hn,C9 h.b2 h.s2 hn]
 simp only [anf]
 rw [aoi (by omega)]
 unfold yx opsV
 cases decide (((jP v.2.1).2:Int)=(v.2.1.length:Int)) <;> rfl
theorem yw {n:Nat} {v:wZ} (h:IC v) (hn:big<n):∃c:Int,dS n v=some (c,())/\kM n v=some (c,())/\
  (c=0->v.2.1.length+v.2.2.1.length<=8000/\(v.1=true->qE v.2.2.2.1/\(opsV v).length<=60)):=by
 have g1:=h.s1
 have g2:=h.s2
 unfold big at g1 g2
 obtain ⟨he,c,hc,hgc⟩:=vv h.st hn
 obtain ⟨r,a1,a2,a3,a4⟩:=Lt xm.1 xm.2 (fun o ho=>(zQ h o ho).1) hn
 have a5:r.1=0->(opsV v).length<=60:=by
  intro h0
  by_cases h6:((opsV v).length:Int)>60
  ·unfold iA at a1
   rw [aoA h6,aoi rfl,Fu] at a1
   simp only [anf,ane,anp,an9] at a1
   rw [<-a1] at h0
   exact absurd h0 (by decide)
  ·omega
 have e1:kT n=some (eS,()):=rfl
 have e2:kL n=some (eS,()):=rfl
 unfold dS kM
 simp only [he,hc,BV h hn,GJ h hn,e1,e2,a1,a2,anf,zU a3.2 hn,Ta a3.2 hn]
 rw [wrap_i64 (x:=(v.2.1.length:Int)+(v.2.2.1.length:Int)) (by omega) (by omega)]
 by_cases c1:(v.2.1.length:Int)+(v.2.2.1.length:Int)>8000
 ·simp only [aoA c1,aof]
  exact ⟨2,rfl,rfl,fun h=>absurd h (by decide)⟩
 simp only [aoY c1,anh,aog]
 have l8:v.2.1.length+v.2.2.1.length<=8000:=by omega
 cases hu:v.1 with
 | false=>
  simp only [anS,aof]
  by_cases c2:(v.2.2.1.length:Int)>0
  ·simp only [aoA c2,aof]
   exact ⟨1,rfl,rfl,fun h=>absurd h (by decide)⟩
  simp only [aoY c2,anh,aog]
  by_cases c3:v.2.2.2.1.1=0
  ·simp only [aoA c3,anH,anh,aog]
   by_cases c4:(v.2.2.2.1.2.1.length:Int)>0
   ·simp only [aoA c4,aof]
    exact ⟨1,rfl,rfl,fun h=>absurd h (by decide)⟩
   simp only [aoY c4,anh,aog]
   exact ⟨0,rfl,rfl,fun _=>⟨l8,fun hh=>absurd hh (by decide)⟩⟩
  ·simp only [aoY c3,anS,aof]
   exact ⟨1,rfl,rfl,fun h=>absurd h (by decide)⟩
 | true=>
  simp only [anH,anh,aog]
  by_cases c2:c=0
  ·rw [aoA c2]
   simp only [anH,anh,aog]
   cases yx v with
   | false=>exact ⟨5,rfl,rfl,fun h=>absurd h (by decide)⟩
   | true=>
    simp only [anH,anh,aog]
    by_cases c3:r.1=0
    ·rw [aoA c3]
     simp only [anH,anh,aog]
     cases decide (r.2.2.1=v.2.2.2.1) with
     | false=>exact ⟨9,rfl,rfl,fun h=>absurd h (by decide)⟩
     | true=>exact ⟨0,rfl,rfl,fun _=>⟨l8,fun _=>⟨hgc.1 c2,a5 c3⟩⟩⟩
    ·rw [aoY c3]
     exact ⟨9,rfl,rfl,fun h=>absurd h (by decide)⟩
  ·rw [aoY c2]
   exact ⟨c,rfl,rfl,fun h=>absurd h c2⟩
end Go.Proofs.YtailcbngagacaaaGreat.qz

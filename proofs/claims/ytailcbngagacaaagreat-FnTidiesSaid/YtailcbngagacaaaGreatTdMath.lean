/- 'FnTidies': what it comes to. -/
import Derived.Test.YtailcbngagacaaaGreatDrawVMath
set_option linter.unusedVariables false
set_option linter.unusedSimpArgs false
namespace Go.Proofs.YtailcbngagacaaaGreat.Ui
open Go Ow JO kF qc iw gU kK tL qz vg JP Lh EZ Bo Cs Ct
theorem Wh {s:j4} {i:Nat} {b:Bx} {v:Int} {nm:List Int} (hi:i<s.2.1.length) (e:b.1=(s.2.1.getD i dB).1):uP (v,s.2.1.set i b,()) nm=uP s nm:=by
 have h1:(s.2.1.set i b).map (fun x:Bx=>x.1)=s.2.1.map (fun x:Bx=>x.1):=by
  rw [List.map_set]
  apply aoC
  ·simp
  ·intro j h1 h2
   rw [List.getElem_set]
   split
   ·rename_i h
    subst h
    rw [e,getD_lt hi]
    simp
   ·rfl
 have h2:∀l:List Bx,l.findIdx (fun x:Bx=>decide (x.1=nm))=(l.map (fun x:Bx=>x.1)).findIdx (fun y=>decide (y=nm)):=fun l=>by
  rw [List.findIdx_map]
  rfl
 unfold uP
 simp only
 rw [h2,h2,h1,List.length_set]
theorem Ut {a b:OpC} (h:JW a b=true):a.1=4/\b.1=4/\a.2.2.2.2.1=1/\b.2.2.2.2.1=1/\a.2.1=b.2.1/\a.2.2.2.1=b.2.2.2.1:=by
 unfold JW at h
 simpa [ank,and_assoc] using h
theorem NK {s:j4} {o:OpC} (h4:o.1=4) (h0:(ji s o).2.1=0):∃i:Nat,uP s o.2.1=(i:Int)/\i<s.2.1.length/\ji s o=(yU o (s.2.1.getD i dB),0,(s.1,s.2.1.set i (rM o (s.2.1.getD i dB)),()),()):=by
 unfold ji at h0 ⊢
 rw [aok (by omega)] at h0 ⊢
 rcases mX s o.2.1 with hp | ⟨i,hp,hi⟩
 ·rw [hp,aoi (by decide)] at h0; simp at h0
 rw [hp,aok (by omega),ano] at h0 ⊢
 refine ⟨i,rfl,hi, ?_⟩
 unfold GR
 rw [aok (by omega),aok (by omega),aoi h4]
theorem WK (x f:Int):turn x 1 f=f:=by
 unfold turn
 rw [aok (by decide),aok (by decide)]
theorem Qa {s:j4} {o:OpC} {i:Nat} (h4:o.1=4) (hp:uP s o.2.1=(i:Int)):ji s o=(yU o (s.2.1.getD i dB),0,(s.1,s.2.1.set i (rM o (s.2.1.getD i dB)),()),()):=by
 unfold ji GR
 rw [aok (by omega),hp,aok (by omega),aok (by omega),aok (by omega),aoi h4,ano]
theorem twice {s:j4} {a b:OpC} (hag:JW a b=true) (ha:(nC s a).1=0) (hb:dW b=0):nC s b=nC (nC s a).2.2.1 b:=by
 obtain ⟨a4,b4,am,bm,eb,eu⟩:=Ut hag
 have hf:dW a=0:=by
  by_cases hf:dW a=0
  ·exact hf
  ·unfold nC at ha
   rw [aok hf] at ha
   exact ha
 have h0:(ji s a).2.1=0:=by
  unfold nC gU.uQ at ha
  rw [aoi hf] at ha
  by_cases h0:(ji s a).2.1=0
  ·exact h0
  ·rw [aok h0] at ha; exact ha
 obtain ⟨i,hp,hi,e⟩:=NK a4 h0
 have e1:(nC s a).2.2.1=(s.1,s.2.1.set i (rM a (s.2.1.getD i dB)),()):=by
  unfold nC gU.uQ
  rw [aoi hf,aoi h0,e]
 rw [e1]
 unfold nC
 rw [aoi hb,aoi hb]
 congr 1
 have hm:∀m,jg b (jg a m)=jg b m:=fun m=>by
  unfold jg
  rw [<-eu]
  by_cases hc:a.2.2.2.1.contains m.1=true
  ·simp only [aoi hc,bm,WK]
  ·simp only [aok hc]
 have hm1:∀m,(jg a m).1=m.1:=fun m=>by unfold jg; split <;> rfl
 have hB:rM b (rM a (s.2.1.getD i dB))=rM b (s.2.1.getD i dB):=by
  unfold rM
  simp only [apb]
  congr 4
  congr 1
  funext m
  exact hm m
 have hU:yU b (rM a (s.2.1.getD i dB))=yU b (s.2.1.getD i dB):=by
  unfold yU rM
  simp only [apa,apb]
  have e2:(fun m:oV=>b.2.2.2.1.contains m.1) ∘ jg a=fun m:oV=>b.2.2.2.1.contains m.1:=by
   funext m
   show b.2.2.2.1.contains (jg a m).1=_
   rw [hm1]
  rw [e2]
  congr 1
  funext m
  exact hm1 m
 rw [Qa b4 (eb▸hp),Qa (s:=(s.1,s.2.1.set i (rM a (s.2.1.getD i dB)),())) b4 ((Wh (b:=rM a (s.2.1.getD i dB)) hi rfl).trans (eb▸hp))]
 simp only [Cg hi,List.set_set,hB,hU]
theorem Cf:∀{l:List OpC} {s:j4},(∀o∈l,dW o=0)->(pF s l).1=0->pF s (tidy l)=pF s l
 | [],_,_,_=>rfl
 | [a],_,_,_=>rfl
 | a :: b :: r,s,hf,h=>by
  rw [tidy]
  obtain ⟨h1,h2⟩:=M0 h
  rw [h2] at h ⊢
  by_cases hag:JW a b=true
  ·rw [aoi hag]
   have ht:=twice hag h1 (hf b (by simp))
   have h3:pF s (b :: r)=pF (nC s a).2.2.1 (b :: r):=by rw [pF,pF,ht]
   rw [Cf (fun o ho=>hf o (anE _ ho)) (by rw [h3]; exact h),h3]
  ·rw [aok hag,pF,aoi h1]
   exact Cf (fun o ho=>hf o (anE _ ho)) h
theorem Uu {a b c:OpC} (h:JW b c=true):JW a c=JW a b:=by
 obtain ⟨h1,h2,h3,h4,h5,h6⟩:=Ut h
 unfold JW
 rw [h1,h2,h3,h4,h5,h6]
theorem Jz:∀(r:List OpC) (b:OpC),∃c r',tidy (b :: r)=c :: r'/\∀a,JW a c=JW a b
 | [],b=>⟨b,[],rfl,fun _=>rfl⟩
 | d :: r,b=>by
  rw [tidy]
  by_cases hag:JW b d=true
  ·rw [aoi hag]
   obtain ⟨c,r',h1,h2⟩:=Jz r d
   exact ⟨c,r',h1,fun a=>(h2 a).trans (Uu hag)⟩
  ·rw [aok hag]
   exact ⟨b,_,rfl,fun _=>rfl⟩
theorem JA:∀(l:List OpC),tidy (tidy l)=tidy l
 | []=>rfl
 | [a]=>rfl
 | a :: b :: r=>by
  have ih:=JA (b :: r)
  rw [tidy]
  by_cases hag:JW a b=true
  ·rw [aoi hag]; exact ih
  ·rw [aok hag]
   obtain ⟨c,r',h1,h2⟩:=Jz r b
   rw [h1] at ih ⊢
   rw [tidy,aok (by rw [h2]; exact hag),ih]
theorem Bb:∀(l:List OpC),((tidy l).flatMap bK).length<=(l.flatMap bK).length
 | []=>anv _
 | [a]=>anv _
 | a :: b :: r=>by
  have ih:=Bb (b :: r)
  rw [tidy]
  rw [show (a :: b :: r).flatMap bK=bK a++(b :: r).flatMap bK from anT,anm]
  split
  ·omega
  ·rw [anT,anm]; omega
theorem Pm {l:List OpC} (h:PW l):PW (tidy l):=
 ⟨fun o ho=>h.right o (zC l o ho),fun o ho=>h.ok o (zC l o ho),aov (Ck l) h.few,aov (Bb l) h.small,by rw [Cf h.right h.run]; exact h.run⟩
theorem aeP {n:Nat} {code:List Int} (hb:uq code) (hl:code.length<=big) (hn:big<n):∃v,kU n code=some (v,())/\IC v:=by
 unfold kU
 have e:nu n code=some ((code,(0:Int),()),()):=rfl
 rw [e]
 obtain ⟨v,s1,e1,h1,hv⟩:=aeJ (n:=n) (source hb hl) (by omega) hn
 obtain ⟨f,s2,e2,h2,_⟩:=next (n:=n) h1 (k:=16) (by omega) (by omega) (by omega)
 obtain ⟨k',s3,e3,h3,hk⟩:=next (n:=n) h2 (k:=3) (by omega) (by omega) (by omega)
 simp only [anf,e1,e2,e3]
 obtain ⟨k,rfl⟩:=ao9 hk.1
 have key:∀o:Option (wZ×Unit),G o (fun r=>IC r.1)->∃v,o=some (v,())/\IC v:=fun o ⟨r,hr,hq⟩=>⟨r.1,hr,hq⟩
 refine key _ ?_
 refine cnt (N:=n) (k:=k) (fun j (v:Int×wZ×wZ×OpC×kX×Unit)=>v.1=(j:Int)/\j<=k/\iC v.2.2.2.2.1 (300010+(k - j))/\dV 20000 v.2.2.1/\okO v.2.2.2.1/\pR v.2.2.2.1.2.2.2.2.2.2.2.1) (fun o:Option (wZ×Unit)=>G o (fun r=>IC r.1)) ?_ (by unfold big at hn; omega) ⟨rfl,anv _,h3.up (by omega),hv,⟨by simp [big],by simp [big],by simp [big],by simp [big]⟩,fun x hx=>by simp at hx⟩
 intro j L v ⟨e1,e2,e3,e4,e5,e6⟩ hL
 refine G.ite (fun hc=>?_) (fun hc=>G.ret e4.1)
 have hc:v.1>0:=by simpa using hc
 have hw:IntKind.i64.wrap (v.1 - 1)=((j - 1:Nat):Int):=by rw [wrap_i64 (by omega) (by omega)]; omega
 refine G.ite (fun _=>?_) (fun _=>G.ret e4.1)
 obtain ⟨c,_,c2,_⟩:=yw (n:=n) e4.1 hn
 rw [c2]
 simp only [anf]
 refine G.ite (fun _=>?_) (fun _=>G.ret e4.1)
 refine (Pt e4 (by omega) e5 e6 hn).bind fun r hr=>?_
 obtain ⟨y,s4,g1,g2,_⟩:=next (n:=n) e3 (k:=16) (by omega) (by omega) (by omega)
 rw [g1]
 simp only [anf]
 refine G.ite (fun _=>?_) (fun _=>?_)
 ·exact hL _ (j - 1) (by omega) ⟨hw,by omega,g2.up (by omega),hr.mono (by omega),e5,e6⟩
 ·exact hL _ (j - 1) (by omega) ⟨hw,by omega,g2.up (by omega),e4,e5,e6⟩
theorem aeO {n:Nat} {code:List Int} (hb:uq code) (hl:code.length<=big) (hn:big<n):∃v,je n code=some (v,())/\IC v:=by
 unfold je
 have e:nu n code=some ((code,(0:Int),()),()):=rfl
 rw [e]
 obtain ⟨t,s1,e1,h1,_⟩:=CL (n:=n) (source hb hl) (k:=6) (by omega) (by omega) (by omega)
 simp only [anf,e1]
 cases t with
 | true=>
  obtain ⟨v,s2,e2,h2,hv⟩:=aeJ (n:=n) h1 (by omega) hn
  simp only [aof,e2,anf]
  exact ⟨v,rfl,hv.1⟩
 | false=>
  obtain ⟨v,s2,e2,h2,hv⟩:=Ct.right (n:=n) h1 (by omega) hn
  have g:=hv.2
  obtain ⟨k,s3,e3,h3,hk⟩:=next (n:=n) h2 (k:=(v.2.2.1.length:Int)+1) (by omega) (by omega) (by omega)
  simp only [anh,aog,e2,anf,AJ hv.1.s1]
  rw [wrap_i64 (x:=(v.2.2.1.length:Int)+1) (by omega) (by omega),e3]
  simp only [anf]
  rw [aoi ⟨hk.1,by omega⟩,aoi (by rw [aoX]; omega)]
  exact ⟨_,rfl,(aeN (n:=n) hv hk).1⟩
theorem law {n:Nat} {code:List Int} (hb:uq code) (hn:big<n):uw n code=some (true,()):=by
 unfold uw
 have e0:xM n code=some (decide ((code.length:Int)>1048576),()):=rfl
 rw [e0]
 simp only [anf]
 by_cases hl:(code.length:Int)>1048576
 ·rw [aoi (by simpa using hl)]
 rw [aok (by simpa using hl)]
 obtain ⟨v,e1,hv⟩:=aeP (n:=n) hb (by unfold big; omega) hn
 obtain ⟨raw,e2,hraw⟩:=aeO (n:=n) hb (by unfold big; omega) hn
 obtain ⟨r,t1,t2,_,t3,t4⟩:=Jy hv hn
 obtain ⟨q,q1,q2,_⟩:=EW.recover hraw hn
 rw [e1]
 simp only [anf,t1,t2,e2,q1,q2]
 by_cases c0:r.1=0
 ·have hu:=t3 c0
  have hk:=abQ hv hu hn
  obtain ⟨hT,hP⟩:=hk.tells hv
  have hT2:=Pm hT
  obtain ⟨w1,w2,w3⟩:=Yw hT2
  have hst:(pF eS (tidy (opsV v))).2.2.1=v.2.2.2.1:=by rw [Cf hT.right hT.run,hk.run]
  have hr:r=(0,[],told (tidy (opsV v)),()):=by
   rw [t4 hu]
   unfold told
   rw [hst]
  obtain ⟨r2,_,u2,_,_,u4⟩:=Jy w1 hn
  have hr2:=u4 (agl w1 w2 hn)
  rw [w3,JA] at hr2
  subst hr
  subst hr2
  have hle:=Bb (opsV v)
  rw [hP,anm] at hle
  have amw:=hk.up.few
  have s1:gQ n (told (tidy (opsV v))).2.2.2.1 v.2.2.2.1=some (true,()):=by
   rw [zU w1.st hn]
   have:(told (tidy (opsV v))).2.2.2.1=v.2.2.2.1:=hst
   rw [this]
   simp
  have s2:sK n ((tidy (opsV v)).flatMap bK) (told (tidy (opsV v))).2.1=some (true,()):=by
   unfold sK
   rw [aoA (show (tidy (opsV v)).flatMap bK=(told (tidy (opsV v))).2.1 from rfl)]
  simp only [Nc w1 w2 hn,s1,u2,s2,anf,aox,anH,anh,aog,aof]
  rw [wrap_i64 (x:=(v.2.1.length:Int)+(v.2.2.1.length:Int)) (by omega) (by omega),aoi (by rw [ao1]; show (((tidy (opsV v)).flatMap bK).length:Int)<=_; omega)]
  rfl
 ·simp only [aoY c0,anS,aof,aox]
theorem all:∀(N:Nat) (c:Cont (kin jU)),Yc jU c->szC jU c<=N->∃n out,yB.F n c=some out/\out.1=true:=by
 intro N c hc _
 exact ⟨1048577,(true,()),law (code:=c.1) (codeOf hc.1) (by unfold big; omega),rfl⟩
end Go.Proofs.YtailcbngagacaaaGreat.Ui

/- A verified reading of translated code, part E of 7. No condition. -/
import Derived.Test.YtailcbngagacaaaGreatOwD
set_option linter.unusedSectionVars false
set_option linter.unusedVariables false
set_option linter.unusedSimpArgs false
namespace Go.Proofs.YtailcbngagacaaaGreat.Ow
section
open Go
variable [Fr]
section
variable {P:Program} {T:jh} {cx:Cx} {Z:St} {J:dP} {F:List Nat} {a:Act} {w:World} {o:Oper} {d:Nat} {ws:List Wr}
def xI (z:Array Value) (n:Nat):Array Value:=(Array.range n).map (z[· % z.size]!)
theorem run_buildSlice {t e:TypeId} {kk:K} (ht:fM P T t (.sl e kk)) {len:Nat} {parts:Array (Nat×Value)} {cells:Array Value} (hb:len * kk.size<=16777216)
    (hf:Instr.fill (fun i=>some (i * kk.size,kk.size)) (xI (bS kk).toArray (len * kk.size)) parts.toList=some cells) :
    (Instr.buildSlice t len parts).run P w=.ok (.slice (some ⟨w.heap.size,0,none⟩) len len) (w.alloc (.cells cells e)):=by
  obtain ⟨hu,he,hk,_⟩:=ht.sl
  have hzc:=sJ he.shape
  unfold Instr.buildSlice
  have h1:¬(len * kk.size>2 ^ 24):=by omega
  by_cases h0:len * kk.size=0
  · have hf':Instr.fill (fun i=>some (i * kk.size,kk.size)) #[] parts.toList=some cells:=by
      have e:xI (bS kk).toArray (len * kk.size)=#[]:=by
        apply apw
        simp [xI,h0]
      rw [e] at hf
      exact hf
    have hr0:∀f:Nat->Value,Array.map f (Array.range 0)=#[]:=fun f=>by apply apw; simp
    simp [aoR hu,he.info.sizeOf w,Result.andThen,h0,hr0,hf',newRow]
  · have hf':Instr.fill (fun i=>some (i * kk.size,kk.size)) ((Array.range (len * kk.size)).map fun x=>(bS kk).toArray[x % (bS kk).toArray.size]!) parts.toList=some cells:=hf
    simp only [anF,aoR hu,anx,he.info.sizeOf w]
    rw [aok h1,aok h0]
    simp only [anF,anK,anx,he.info.zero w,hzc,hf']
    simp [newRow,Result.andThen]
theorem Nj {kk:K} {len i:Nat} (hk:0<kk.size) (hz:(bS kk).length=kk.size) (hi:i<len):mF (xI (bS kk).toArray (len * kk.size)).toList kk.size i=bS kk:=by
  have hle:(i+1) * kk.size<=len * kk.size:=anL _ (by omega)
  rw [aoO,aoP] at hle
  apply apD
  intro j
  by_cases hj:j<kk.size
  · rw [kZ hj,apt]
    unfold xI
    rw [Array.getElem?_map]
    have hlt:i * kk.size+j<len * kk.size:=by omega
    rw [Array.getElem?_range,aoi hlt]
    simp only [an1,apE,hz]
    have hm:(i * kk.size+j) % kk.size=j:=by
      rw [Nat.mul_comm,Nat.mul_add_mod]
      exact Nat.mod_eq_of_lt hj
    rw [hm,getElem!_pos _ _ (by simp; omega)]
    simp [show j<(bS kk).length by omega]
  · rw [aoQ (by rw [pW (m:=len) (by simp [xI]) hi]; omega),aoQ (by omega)]
theorem FP {L:K->List TypeId} (hT:eG P T) (H:Rel cx Z J F a w) (hd:o.dst=some d) (hdn:d<cx.nt) {t:TypeId} {len:Nat} {ps:Array (Nat×Operand)}
    (h:(match T.ty t with
      | some (.sl e kk)=>Ad ps.toList fun l=>FV kk l ⟨[],[],[],[],false,[]⟩ fun b=>bif !(Co b.ws b.all && Nat.ble (len * kk.size) 16777216) then .fail else bif Nat.beq (gY b.xs) len && !az e b.bad then
          iL (aY d 0) (.ret (b.ws++[Wr.r (aY d 0) (some (aK (.sl e kk) b.xs (e :: bM (L kk) b.bad) b.tags .anon b.keep)),Wr.s d (.one (.ref (aY d 0) 0))]))
        else bif Nat.beq (gY b.xs) 0 then
          iL (aY d 0) (.ret [Wr.r (aY d 0) (some (aK (.sl e kk) (List.replicate len kk.zero) (e :: kk.tys) [] .anon)),Wr.s d (.one (.ref (aY d 0) 0))])
        else .fail
      | _=>(.fail:Prog (List Wr))).ends Z ws) (ho:o.op=.buildSlice t len ps):pY P cx o a w (aB ws Z):=by
  cases hty:T.ty t with
  | none=>rw [hty] at h; exact h.elim
  | some k0=>
    rw [hty] at h
    cases k0 with
    | sl e kk=>
      have ht:=hT.ty t _ hty
      obtain ⟨hu,he,hk,_⟩:=ht.sl
      simp only at h
      obtain ⟨vs,e1,h1,h2,h3⟩:=CQ H h
      obtain ⟨tks,b',l1,l2,Qb,D5,h4⟩:=Oo H h1 h2 h3
      have hlen:vs.length=tks.length:=l1.symm
      have Gi:(vs.map (·.1)).length=tks.length:=by rw [aoy]; exact hlen
      have Gn:((evs a ps.toList).map (·.2)).length=tks.length:=by rw [l2]; exact hlen
      generalize hns:vs.map (·.1)=ns at *
      generalize hvv:(evs a ps.toList).map (·.2)=vals at *
      obtain ⟨z1,z2,z3,z4⟩:=DD ns vals tks Gi Gn
      obtain ⟨f1,f2,f4,_,f6,_,f8,_,f9⟩:=Er _ D5
      simp only [anX] at f1
      have f9':b'.xs.length=tks.length:=by rw [f9]; simp; omega
      have hzO:∀h ok own,Ow h own ok kk kk.zero (bS kk) []:=fun h ok own=>vU he.eY
      have hzl:(bS kk).length=kk.size:=cZ (hzO (hp w) (fun _=>True) [])
      have hzs:(xI (bS kk).toArray (len * kk.size)).size=len * kk.size:=by simp [xI]
      have hparts:((ps.map fun (p:Nat×Operand)=>(p.1,a.eval p.2)).toList)=ns.zip vals:=by
        rw [apG, <-hvv,e1]
        have:∀l:List (Nat×Operand),l.map (fun p=>(p.1,a.eval p.2))=(l.map (·.1)).zip ((evs a l).map (·.2)):=by
          intro l
          induction l with
          | nil=>rfl
          | cons p l ih=>simp [evs] at ih ⊢; exact ih
        exact this _
      have Zh:∀{cells:Array Value},len * kk.size<=16777216->Instr.fill (fun i=>some (i * kk.size,kk.size)) (xI (bS kk).toArray (len * kk.size)) (ns.zip vals)=some cells->
          (execOp a.eval o).run P w=.ok (.value (.slice (some ⟨w.heap.size,0,none⟩) len len)) (w.alloc (.cells cells e)):=by
        intro cells hb hf
        have:=run_buildSlice (w:=w) ht (parts:=ps.map fun (p:Nat×Operand)=>(p.1,a.eval p.2)) hb (by rw [hparts]; exact hf)
        simp only [execOp,ho,anF,this,anx,anK]
      rcases ay h4 with ⟨_,h5⟩ | ⟨hws,h5⟩
      · exact h5.elim
      · have Ay:(Co b'.ws b'.all && Nat.ble (len * kk.size) 16777216)=true:=by simpa using hws
        rw [ank] at Ay
        have ae7:len * kk.size<=16777216:=aoe Ay.2
        have Sj:=Ay.1
        unfold Co at Sj
        simp only [ank] at Sj
        have hw1:=vk.1 Sj.1
        have hw2:=xP.1 Sj.2
        rw [f1, <-z4] at hw1 hw2
        rcases ay h5 with ⟨hc,h6⟩ | ⟨_,h6⟩
        · rw [ank] at hc
          have hxl:b'.xs.length=len:=by rw [<-lV]; exact ani hc.1
          have hbad:e∉b'.bad:=by have:=hc.2; simp only [an7,aW] at this; exact this
          obtain ⟨g1,g2⟩:=fC h6
          rw [aD g2]
          obtain ⟨J',F',hs,H',hA,hnd,hnF,hFF,hS,_⟩:=takes (vals.zip tks) H Qb hw1 (fun tg tY=>hw2 tg (by
            obtain ⟨it,hit,h6⟩:=anR.1 tY
            have:it∈(ns.zip (vals.zip tks)).map (·.2):=by rw [z1]; exact hit
            obtain ⟨q,hq,rfl⟩:=anQ.1 this
            exact f2 (q.1,q.2.2) (by rw [<-z2]; exact anQ.2 ⟨q,hq,rfl⟩) tg h6))
          have Ze:=hA
          rw [<-z1] at hA
          have ho2:∀t,az t (e :: bM (L kk) b'.bad)=true->t∉b'.bad:=fun t ht=>by
            rcases anq.1 (aM.1 ht) with h | h
            · rw [h]; exact hbad
            · exact (dK.1 (aM.2 h)).2
          obtain ⟨x9,yS,p1,p2⟩:=wS (own':=e :: bM (L kk) b'.bad) (T:=b'.tags) (ns.zip (vals.zip tks)) hA
            (fun it hit tg tY=>by
              cases hm:az tg (e :: bM (L kk) b'.bad) with
              | false=>rfl
              | true=>exact absurd (f4 (it.1,it.2.2) (by rw [<-z2]; exact anQ.2 ⟨it,hit,rfl⟩) tg tY) (ho2 tg hm))
            (fun it hit tg tY=>f6 (it.1,it.2.2) (by rw [<-z2]; exact anQ.2 ⟨it,hit,rfl⟩) tg tY)
          rw [z2,z3,z1] at p2
          have hzn:(ns.zip tks).map (·.1)=ns:=by rw [List.map_fst_zip (by omega)]
          obtain ⟨cells',c1,c2,c3,c4⟩:=Om (N:=len) (ns.zip tks) (b:=⟨[],[],[],[],false,[]⟩) (cells:=xI (bS kk).toArray (len * kk.size)) (bC:=[]) (by simp; omega) hzs rfl (fun i hi=>by simp at hi) p2 D5
          rw [hzn] at c1
          simp only [anX] at c3 c4
          have hrun:=Zh ae7 c1
          have pQ:=p1.nodup hnd
          have n2:=anl.1 pQ
          have hin:∀b∈hs.flatMap (·.2),b∈F':=wB Ze
          have hwt:fG (aB (um (vals.zip tks)) Z) b'.tags:=by
            intro tg tY
            rcases f8 tg tY with h | ⟨q,hq,hq2⟩
            · simp at h
            · rw [<-z2] at hq
              obtain ⟨it,hit,rfl⟩:=anQ.1 hq
              have hit2:it.2∈vals.zip tks:=by rw [<-z1]; exact anQ.2 ⟨it,hit,rfl⟩
              exact zW (yc Ze it.2 hit2) tg hq2
          have hnr:=Ba g1 Qb
          have hn1:(aB (um (vals.zip tks)) Z).roots (aY d 0)=none:=by rw [(hS _ hnr).root]; exact g1
          have Sk:b'.ws=um (vals.zip tks):=by rw [f1,z4]
          obtain ⟨Bj,F2,k1,k2⟩:=QE (r:=aY d 0) (e:=e) (k:=kk) (xs:=b'.xs) (own:=e :: bM (L kk) b'.bad) (tags:=b'.tags) (arr:=cells') (lo:=0) (hi:=0) (n:=len) (c:=len) (bC:=x9) (F1:=F'.filter fun b=>!az b (x9.flatten++yS)) H' hn1 (fE d 0)
            hwt (aM.2 (by simp)) zY.zero hxl.symm (anv _) (by rw [c2]; exact anv _) c3 (fun b hb=>hin b (p1.mem_iff.2 (by simp [hb]))) n2.1
            (fun b hb=>by
              rw [anw] at hb
              have:=hb.2
              simp only [an7,aW,ann,not_or] at this
              exact ⟨hb.1,this.1⟩) (H'.xK.filter _)
            (fun i hi=>by
              have hsl:(mF cells'.toList kk.size i).length=kk.size:=pW (m:=len) (by rw [aoq,c2]) (by omega)
              refine ⟨_,hsl,fun j hj=>?_,bE (fun _ _=>rfl) (fun b hb=>?_) (fun _ _=>rfl) (c4 i hi)⟩
              · rw [hsl] at hj
                rw [kZ hj,apt]
              · rcases hb with hb | hb
                · exact .inl hb
                · refine .inr ⟨hin b (p1.mem_iff.2 (by simp [hb])),fun h=>?_,fun h=>n2.2.2 b h b hb rfl⟩
                  rw [anw] at h
                  have:=h.2
                  simp only [an7,aW,ann,not_or] at this
                  exact this.2 hb) b'.keep w.drawn
          rw [Sk,bZ]
          exact iF (x:=.one (.ref (aY d 0) 0)) k1 hd hdn hrun k2 ⟨_,aI .., .inr (anO _)⟩
        · rcases ay h6 with ⟨hc,h7⟩ | ⟨_,h7⟩
          · obtain ⟨g1,g2⟩:=fC h7
            rw [aD g2]
            have hxl:b'.xs.length=0:=by rw [<-lV]; exact ani hc
            have ht0:tks=[]:=aom (by omega)
            have hv0:vals=[]:=aom (by rw [ht0] at Gn; simpa using Gn)
            have hrun:=Zh (cells:=xI (bS kk).toArray (len * kk.size)) ae7 (by rw [hv0]; simp [Instr.fill])
            obtain ⟨Bj,F2,k1,k2⟩:=KN (r:=aY d 0) (e:=e) (k:=kk) (xs:=List.replicate len kk.zero) (own:=e :: kk.tys) (arr:=xI (bS kk).toArray (len * kk.size)) (lo:=0) (hi:=0) (n:=len) (c:=len) H g1 (fE d 0)
              (aM.2 (by simp)) zY.zero (by simp) (anv _) (by rw [hzs]; exact anv _)
              (fun i hi=>by
                have hi':i<len:=by simpa using hi
                refine ⟨bS kk,hzl,fun j hj=>?_,fun h ok=>?_⟩
                · have hs:=congrArg (fun l=>l[j]?) (Nj hk hzl hi')
                  rw [kZ (by omega),apt] at hs
                  exact hs
                · have:(List.replicate len kk.zero)[i]'hi=kk.zero:=by simp
                  rw [this]
                  exact hzO h ok _) false w.drawn
            exact iF (x:=.one (.ref (aY d 0) 0)) k1 hd hdn hrun k2 ⟨_,aI .., .inr (anO _)⟩
          · exact h7.elim
    | _=>exact h.elim
end
section
variable {P:Program} {T:jh} {cx:Cx} {Z:St} {J:dP} {F:List Nat} {a:Act} {w:World} {o:Oper} {d:Nat} {ws:List Wr} {r:Nat} {R:Root}
abbrev jV (R:Root) (e:TypeId) (kk:K) (ys:List (El kk)):Root:={ R with k:=.sl e kk,x:=ys,w:=e :: R.w }
theorem KO (H:Rel cx Z J F a w) (hr:aQ Z r R) (hv:bB Z R) (hk:R.kind=.anon) {e:TypeId} {kk:K} {xs ys:List (El kk)} (hq:(⟨R.k,R.x⟩:Dat)=⟨.sl e kk,xs⟩) (hf:kk.flat=true) (hl:ys.length=xs.length) {w':World}
    (hos:w'.os=w.os/\w'.tape=w.tape/\w'.output=w.output) (hsize:w.heap.size<=w'.heap.size) (Nk:∀b,hp w' b≠hp w b->b∈J.fo r/\qm (hp w) b=some e) (how:∀ok,Ow (hp w') R.own ok (.sl e kk) ys (J.hdr r) (J.fo r)) :
    Rel cx (au Z r (jV R e kk ys)) (aG J r (J.loc r) (J.hdr r) (J.fo r)) [] a w'/\
      ∀g v,g<=R.g->bN cx Z J F w (.ref r g) v->bN cx (au Z r (jV R e kk ys)) (aG J r (J.loc r) (J.hdr r) (J.fo r)) [] w' (.ref r g) v:=by
  have hblk:blk J R r=J.fo r:=by simp [blk,dY,hk]
  have hk':(jV R e kk ys).kind=.anon:=hk
  have hRk:R.k=.sl e kk:=congrArg (fun q:Dat=>q.1) hq
  have hd':(jV R e kk ys).bg=false:=by simp [Root.bg,hk]
  have K0:=H.roots r R hr
  have hnt:=H.dG r R hr.1
  have zZ:∀g v,g<=R.g->bN cx Z J F w (.ref r g) v->bN cx (au Z r (jV R e kk ys)) (aG J r (J.loc r) (J.hdr r) (J.fo r)) [] w' (.ref r g) v:=by
    intro g v _ hold Q hQ hg
    obtain ⟨rfl,_⟩:=eP hQ
    obtain ⟨h1,h2⟩:=hold R hr hg
    refine ⟨h1, ?_⟩
    simp only [aG,upd_same]
    rw [hRk] at h2
    exact h2
  have T1:yN cx Z J F w r R (jV R e kk ys) (J.fo r) [] w' [e] []:=by
    refine ⟨.inr ⟨rfl,rfl,anv _,rfl,fun h=>by rw [hk] at h; simp at h, .inl (by simp)⟩,⟨fun t ht=>hnt.1 t ht,fun n hn=>hnt.2.2 n hn⟩,hos,hsize,fun b hb hne=>?_,fun _ b hb=>?_,fun b hb=>by simp at hb,an4,fun _ b _ h=>by simp at h,fun j pi b o n hj hb hrj hne=>?_,fun _=>⟨rfl,rfl⟩⟩
    · obtain ⟨h1,h2⟩:=Nk b hne
      exact .inr ⟨by rw [hblk]; exact h1, .inr (.inl ⟨e,by simp,h2⟩)⟩
    · rw [gD hk'] at hb
      rw [hblk]
      exact .inl hb
    · obtain ⟨Q,hQ,hkq,_,_⟩:=H.mE j pi b o n hj hb
      have hQR:Q=R:=by have:=hQ.1; rw [<-hrj,hr.1] at this; simpa using this.symm
      rw [hQR,hk] at hkq
      simp at hkq
  refine ⟨T1.rel H hr (fun _=>⟨fun _=>how _,by rw [K0.len,hRk],fun b o hb=>by rw [uY hk'] at hb; simp at hb,by rw [gD hk', <-hblk]; exact K0.nd⟩) ?_ (fun _=>zZ),zZ⟩
  intro _ p n v hn hold
  refine ⟨hold.1,fun Q hQ Kr hcl hty hs=>?_⟩
  rw [aI] at hQ
  simp only [ane] at hQ
  subst hQ
  cases p with
  | nil=>
    obtain ⟨_,cs,b,o,h1,_⟩:=hold.2 R hr.1 hv (by simp [clean,eT,az]) (fun t ht=>by simp [ah] at ht) rfl
    simp only [bH,ane,anp] at h1
    have:dY J R r=none:=by simp [dY,hk]
    rw [this] at h1
    simp at h1
  | cons s q=>
    have hcl':clean R.h n (eT (s :: q) R.k)=true:=by rw [hRk]; exact hcl
    obtain ⟨g1,cs,b,o,g2,g3⟩:=hold.2 R hr.1 hv hcl' (fun t ht=>hty t (by rw [hRk] at ht; exact ht)) (by
      have h9:(aR (s :: q) (.sl e kk) ys).isSome=true:=hs
      rw [qC (s :: q) (y:=xs)] at h9
      have:=congrArg (fun d:Dat=>(aR (s :: q) d.1 d.2).isSome) hq
      exact this.trans h9)
    have g1:=cast (congrArg (fun d:Dat=>mG (s :: q) d.1 d.2) hq) g1
    simp only at g1
    cases s with
    | gu m=>exact g1.elim
    | idx i=>
      obtain ⟨p1,p2,p3⟩:=g1
      rw [hRk] at g2
      have hwn:dY J R r=none:=by simp [dY,hk]
      have ake:dY (aG J r (J.loc r) (J.hdr r) (J.fo r)) (jV R e kk ys) r=none:=by
        have hkk:(jV R e kk ys).kind=R.kind:=rfl
        unfold dY
        rw [hkk,hk]
      have hd2:(aG J r (J.loc r) (J.hdr r) (J.fo r)).hdr r=J.hdr r:=by simp [aG,upd_same]
      rw [ake,hd2]
      simp only [bH] at g2
      split at g2
      · rename_i ad m c hh
        obtain ⟨k1,c1,k2⟩:=uO (h':=hp w') (own:=[]) q (y:=(show List (El kk) from ys).getD i.toNat kk.zero) (cs':=nL (hp w') ad.block (ad.off+i.toNat * kk.size) kk.size) p3 (fun t ht=>by
          have:=oJ q t ht
          rw [xq hf] at this
          simp at this) g2
        refine ⟨⟨p1, ?_,k1⟩,c1,b,o, ?_,g3⟩
        · show i<((ys.length:Nat):Int)
          have:i<((xs.length:Nat):Int):=p2
          omega
        · show bH (hp w') (.idx i :: q) (.sl e kk) (J.hdr r) none=_
          rw [hh]
          simp only [bH]
          exact k2
      · simp at g2
theorem aau {own:List TypeId} {ok:Nat->Prop} {e:TypeId} {kk:K} {xs zs:List (El kk)} {b q n c s:Nat} {fo:List Nat} {news:List Value} (hf:kk.flat=true) (he:az e own=true) (hs:s+zs.length<=xs.length) (hz:0<zs.length) (hkk:0<kk.size)
    (H:Ow (hp w) own ok (.sl e kk) xs [.slice (some ⟨b,q,none⟩) n c] fo) (hnl:news.length=zs.length * kk.size) (hel:∀i (hi:i<zs.length),Vw (hp w) (fun _=>True) kk zs[i] (mF news kk.size i)) (h1:∀v∈news,v.oneCell'=true) :
    (storeCells ⟨b,q+s * kk.size,none⟩ news).run P w=.ok () (w.setCells b (q+s * kk.size) news)/\b∈fo/\qm (hp w) b=some e/\(∀b',b'≠b->hp (w.setCells b (q+s * kk.size) news) b'=hp w b')/\(w.setCells b (q+s * kk.size) news).heap.size=w.heap.size/\
      ∀ok',Ow (hp (w.setCells b (q+s * kk.size) news)) own ok' (.sl e kk) (xs.take s++zs++xs.drop (s+zs.length)) [.slice (some ⟨b,q,none⟩) n c] fo:=by
  unfold Ow at H
  rw [aoi he] at H
  obtain ⟨a0,n',c',e1,e2,e3,H⟩:=H
  simp only [apr,apM,an9] at e1
  obtain ⟨rfl,rfl,rfl⟩:=e1
  have e2:n=xs.length:=e2
  rcases H with ⟨hc,_⟩ | ⟨bb,q',arr,lo,hi,ea,hb,hfr,hsz,bC,hl,hp0,H⟩
  · omega
  · simp only [ane,an8,an9] at ea
    obtain ⟨rfl,rfl⟩:=ea
    have hm:(s+zs.length) * kk.size<=c * kk.size:=anL _ (by omega)
    rw [aoO] at hm
    have hle:q+s * kk.size+news.length<=arr.size:=by rw [hnl]; omega
    have hst:=kC (P:=P) (o:=q+s * kk.size) news hb hfr hle h1
    obtain ⟨s1,s2,kJ,s3,s4,s5,s6⟩:=qF b news w arr e (lo,hi) (q+s * kk.size) hb hle
    have h0:∀l∈bC,l=[]:=by
      intro l hl'
      obtain ⟨i,hi',rfl⟩:=aoc.1 hl'
      have hl:bC.length=xs.length:=hl
      obtain ⟨ds,_,h2⟩:=H i (by show i<xs.length; omega)
      have:=ET hf h2
      rw [<-this]; simp [anr,hi']
    have hg0:∀i,bC.getD i []=[]:=fun i=>by
      by_cases hi:i<bC.length
      · have:=h0 (bC[i]) (anI hi)
        simp [anr,hi,this]
      · simp [anr,hi]
    refine ⟨hst,hp0.mem_iff.2 (by simp),by unfold qm; rw [hb],s1,s2,fun ok'=>?_⟩
    unfold Ow
    rw [aoi he]
    have hlen:(xs.take s++zs++xs.drop (s+zs.length)).length=xs.length:=by simp; omega
    refine ⟨_,_,_,rfl,by show n=(xs.take s++zs++xs.drop (s+zs.length)).length; omega,e3, .inr ⟨b,q,kJ,lo,hi,rfl,s3,by rw [s4]; exact hfr,by rw [s4]; exact hsz,bC,by show bC.length=(xs.take s++zs++xs.drop (s+zs.length)).length; rw [hlen]; exact hl,hp0,fun i hi=>?_⟩⟩
    rw [hg0]
    have hi':i<xs.length:=by have:i<(xs.take s++zs++xs.drop (s+zs.length)).length:=hi; omega
    have hcell:∀t,cellAt (hp (w.setCells b (q+s * kk.size) news)) b t=kJ[t]?:=fun t=>by unfold cellAt; rw [s3]
    have hcell0:∀t,cellAt (hp w) b t=arr[t]?:=fun t=>by unfold cellAt; rw [hb]
    by_cases hin:s<=i/\i<s+zs.length
    · have hx:(show List (El kk) from xs.take s++zs++xs.drop (s+zs.length))[i]'hi=zs[i - s]'(by omega):=by
        show (xs.take s++zs++xs.drop (s+zs.length))[i]'hi=_
        rw [apz (by simp; omega),apA (by simp; omega)]
        congr 1
        simp
        omega
      rw [hx]
      have hlt:i - s<zs.length:=by omega
      have hv:=hel (i - s) hlt
      refine ⟨mF news kk.size (i - s),fun j hj=>?_,qi (fun t ht=>?_) (jA hf hv)⟩
      · rw [pW hnl hlt] at hj
        rw [hcell,kZ hj]
        have hb2:(i - s+1) * kk.size<=zs.length * kk.size:=anL _ (by omega)
        rw [aoO,aoP] at hb2
        have hi2:i * kk.size=s * kk.size+(i - s) * kk.size:=by rw [<-aoO]; congr 1; omega
        rw [show q+i * kk.size+j=q+s * kk.size+((i - s) * kk.size+j) by omega]
        exact s5 _ (by rw [hnl]; omega)
      · rw [xq hf] at ht; simp at ht
    · have hx:(show List (El kk) from xs.take s++zs++xs.drop (s+zs.length))[i]'hi=xs[i]'hi':=by
        show (xs.take s++zs++xs.drop (s+zs.length))[i]'hi=_
        by_cases hlt:i<s
        · rw [apz (by simp; omega),apz (by simp; omega)]
          simp
        · rw [apA (by simp; omega)]
          simp only [List.getElem_drop]
          congr 1
          simp
          omega
      rw [hx]
      obtain ⟨ds,g1,g2⟩:=H i hi'
      have hg:=hg0 i
      rw [hg] at g2
      refine ⟨ds,fun j hj=>?_,qi (fun t ht=>by rw [xq hf] at ht; simp at ht) (jA hf (lU (fun _=>True) (fun _ _=>trivial) (fun _ _=>trivial) g2))⟩
      rw [hcell]
      have hj':=g1 j hj
      rw [hcell0] at hj'
      rw [<-hj']
      have hds:=cZ g2
      refine s6 _ fun hc=>hin ?_
      rw [hnl] at hc
      constructor
      · refine anC fun h=>?_
        have:(i+1) * kk.size<=s * kk.size:=anL _ (by omega)
        rw [aoO,aoP] at this
        omega
      · refine anC fun h=>?_
        have:(s+zs.length) * kk.size<=i * kk.size:=anL _ (by omega)
        rw [aoO] at this
        omega
end
section
variable {P:Program} {T:jh} {cx:Cx} {Z:St} {J:dP} {F:List Nat} {a:Act} {w:World} {o:Oper} {d:Nat} {ws:List Wr} {r:Nat} {R:Root}
theorem O9 (H:Rel cx Z J F a w) (hr:aQ Z r R) (hv:bB Z R) (hk:R.kind=.anon) {e:TypeId} {kk:K} {xs zs:List (El kk)} {s:Nat} (hq:(⟨R.k,R.x⟩:Dat)=⟨.sl e kk,xs⟩) (hf:kk.flat=true) (he:az e R.own=true) (hkk:0<kk.size) (hs:s+zs.length<=xs.length)
    {b:Option Addr} {n c:Nat} (hh:J.hdr r=[.slice b n c]) {bb:Option Addr} (hbb:0<zs.length->bb=b.map (·.add (s * kk.size)))
    {news:List Value} (hnl:news.length=zs.length * kk.size) (hel:∀i (hi:i<zs.length),Vw (hp w) (fun _=>True) kk zs[i] (mF news kk.size i)) (h1:∀v∈news,v.oneCell'=true) :
    ∃w',(∀ad,bb=some ad->(storeCells ad news).run P w=.ok () w')/\(zs.length=0->w'=w)/\(0<zs.length->∃ad,bb=some ad)/\
      Rel cx (au Z r (jV R e kk (xs.take s++zs++xs.drop (s+zs.length)))) (aG J r (J.loc r) (J.hdr r) (J.fo r)) [] a w'/\
      ∀g v,g<=R.g->bN cx Z J F w (.ref r g) v->bN cx (au Z r (jV R e kk (xs.take s++zs++xs.drop (s+zs.length)))) (aG J r (J.loc r) (J.hdr r) (J.fo r)) [] w' (.ref r g) v:=by
  have hRk:R.k=.sl e kk:=congrArg (fun q:Dat=>q.1) hq
  have hO:Ow (hp w) R.own (jc cx Z J F w R.tags) (.sl e kk) xs [.slice b n c] (J.fo r):=by
    have:=cast (congrArg (fun q:Dat=>Ow (hp w) R.own (jc cx Z J F w R.tags) q.1 q.2 (J.hdr r) (J.fo r)) hq) ((H.roots r R hr).ow hv)
    simp only at this
    rw [hh] at this
    exact this
  by_cases hz:0<zs.length
  · have hb0:∃bk q,b=some ⟨bk,q,none⟩:=by
      have Gc:=hO
      unfold Ow at Gc
      rw [aoi he] at Gc
      obtain ⟨a0,n',c',e1,e2,e3,H'⟩:=Gc
      simp only [apr,apM,an9] at e1
      obtain ⟨rfl,rfl,rfl⟩:=e1
      have e2:n=xs.length:=e2
      rcases H' with ⟨hc,_⟩ | ⟨bk,q,arr,lo,hi,ea,_⟩
      · omega
      · exact ⟨bk,q,ea⟩
    obtain ⟨bk,q,rfl⟩:=hb0
    obtain ⟨g1,g2,g3,g4,g5,g6⟩:=aau (P:=P) (w:=w) hf he hs hz hkk hO hnl hel h1
    have hb1:bb=some ⟨bk,q+s * kk.size,none⟩:=by rw [hbb hz]; simp [addr_add]
    obtain ⟨r1,r2⟩:=KO (w':=w.setCells bk (q+s * kk.size) news) H hr hv hk (ys:=xs.take s++zs++xs.drop (s+zs.length)) hq hf (by simp; omega) (nK _ _ _ _) (by omega)
      (fun b' hb'=>by
        by_cases e:b'=bk
        · subst e; exact ⟨g2,g3⟩
        · exact absurd (g4 b' e) hb') (fun ok=>by rw [hh]; exact g6 ok)
    exact ⟨_,fun ad ha=>by rw [hb1] at ha; simp only [ane] at ha; subst ha; exact g1,fun h=>by omega,fun _=>⟨_,hb1⟩,r1,r2⟩
  · have hz0:zs=[]:=aom (by omega)
    subst hz0
    have hn0:news=[]:=aom (by simpa using hnl)
    subst hn0
    have hys:xs.take s++[]++xs.drop (s+([]:List (El kk)).length)=xs:=by simp
    obtain ⟨r1,r2⟩:=KO (w':=w) H hr hv hk (ys:=xs.take s++[]++xs.drop (s+([]:List (El kk)).length)) hq hf (by simp) ⟨rfl,rfl,rfl⟩ (anv _) (fun b' hb'=>absurd rfl hb') (fun ok=>by
      rw [hys,hh]
      have hO2:=gI (ok':=ok) (dH (k:=.sl e kk) (own:=R.own) (fun t ht=>by simp only [K.tys,xq hf,anz] at ht; subst ht; exact he)) hO
      exact hO2)
    exact ⟨w,fun ad _=>by cases ad; rfl,fun _=>rfl,fun h=>by simp at h,r1,r2⟩
end
section
variable {P:Program} {T:jh} {cx:Cx} {Z:St} {J:dP} {F:List Nat} {a:Act} {w:World} {o:Oper} {d:Nat} {ws:List Wr} {r:Nat} {R:Root}
theorem su {A:Type} {z:A} {g:Nat} {k:Root->(e:TypeId)->(kk:K)->List (El kk)->Prog A} (h:(ownRow r g k).ends Z z) :
    ∃R e kk xs,aQ Z r R/\bB Z R/\R.g=g/\(⟨R.k,R.x⟩:Dat)=⟨.sl e kk,xs⟩/\kk.flat=true/\az e R.own=true/\(k R e kk xs).ends Z z:=by
  unfold ownRow at h
  obtain ⟨R,hr,hv,h⟩:=bU h
  rcases ay h with ⟨hg,h⟩ | ⟨_,h⟩
  · have hK:∀q:Dat,(⟨R.k,R.x⟩:Dat)=q->(match q.1,q.2 with
        | .sl e kk,xs=>bif kk.flat && az e R.own then k R e kk (show List (El kk) from xs) else .fail
        | _,_=>Prog.fail).ends Z z->∃R e kk xs,aQ Z r R/\bB Z R/\R.g=g/\(⟨R.k,R.x⟩:Dat)=⟨.sl e kk,xs⟩/\kk.flat=true/\az e R.own=true/\(k R e kk xs).ends Z z:=by
      intro q hq hh
      obtain ⟨qk,qx⟩:=q
      cases qk with
      | sl e kk=>
        simp only at hh
        rcases ay hh with ⟨hc,hh⟩ | ⟨_,hh⟩
        · simp only [ank] at hc
          exact ⟨R,e,kk,qx,hr,hv,ani hg,hq,hc.1,hc.2,hh⟩
        · exact hh.elim
      | _=>exact hh.elim
    exact hK _ rfl h
  · exact h.elim
theorem Dl (H:Rel cx Z J F a w) (hr:aQ Z r R) (hv:bB Z R) {e:TypeId} {kk:K} {xs:List (El kk)} (hq:(⟨R.k,R.x⟩:Dat)=⟨.sl e kk,xs⟩) (he:az e R.own=true) {v:Value} (h:VC R.k v (J.hdr r)) :
    ∃b n c,v=.slice b n c/\J.hdr r=[.slice b n c]/\n=xs.length/\n<=c:=by
  have hO:=cast (congrArg (fun q:Dat=>Ow (hp w) R.own (jc cx Z J F w R.tags) q.1 q.2 (J.hdr r) (J.fo r)) hq) ((H.roots r R hr).ow hv)
  have hV:VC (.sl e kk) v (J.hdr r):=cast (congrArg (fun q:Dat=>VC q.1 v (J.hdr r)) hq) h
  simp only at hO
  unfold Ow at hO
  rw [aoi he] at hO
  obtain ⟨b,n,c,e1,e2,e3,_⟩:=hO
  rw [hV.1] at e1
  simp only [apr,an9] at e1
  exact ⟨b,n,c,e1,by rw [hV.1,e1],e2,e3⟩
theorem MZ {len cap:Nat} {lo hi:Option Int} {l h:Option Value} (hl:lo=none->l=none) (hl':∀j,lo=some j->∃ik,l=some (.int ik j)) (hh:hi=none->h=none) (hh':∀j,hi=some j->∃ik,h=some (.int ik j))
    (h0:0<=lo.getD 0) (h1:lo.getD 0<=hi.getD (len:Int)) (h2:hi.getD (len:Int)<=(cap:Int)) :
    (Instr.sliceBounds true len cap l h none).run P w=.ok ((lo.getD 0).toNat,(hi.getD (len:Int)).toNat,cap) w:=by
  unfold Instr.sliceBounds
  cases hi with
  | none=>
    rw [hh rfl]
    simp only [apL] at h1 h2
    cases lo with
    | none=>rw [hl rfl]; simp
    | some j=>
      obtain ⟨ik,e⟩:=hl' j rfl
      simp only [aoj] at h0 h1
      rw [e]
      simp [Instr.sliceBound,asIntOf,h0,h1]
  | some i=>
    obtain ⟨ik,e⟩:=hh' i rfl
    simp only [aoj] at h1 h2
    have f1:0<=i:=by omega
    rw [e]
    cases lo with
    | none=>rw [hl rfl]; simp [Instr.sliceBound,asIntOf,f1,h2]
    | some j=>
      obtain ⟨ik2,e2⟩:=hl' j rfl
      simp only [aoj] at h0 h1
      have g3:j<=max i 0:=by omega
      rw [e2]
      simp [Instr.sliceBound,asIntOf,f1,h2,h0]
      omega
theorem A7 {t e:TypeId} {k:K} (ht:fM P T t (.sl e k)) {b:Option Addr} {n c:Nat} {lo hi:Option Int} {l h:Option Value} (hl:lo=none->l=none) (hl':∀j,lo=some j->∃ik,l=some (.int ik j)) (hh:hi=none->h=none) (hh':∀j,hi=some j->∃ik,h=some (.int ik j))
    (h0:0<=lo.getD 0) (h1:lo.getD 0<=hi.getD (n:Int)) (h2:hi.getD (n:Int)<=(c:Int)) :
    (Instr.sliceAt t (.slice b n c) l h none).run P w=.ok (.slice (if c=(lo.getD 0).toNat then b else b.map (·.add ((lo.getD 0).toNat * k.size))) ((hi.getD (n:Int)).toNat - (lo.getD 0).toNat) (c - (lo.getD 0).toNat)) w:=by
  obtain ⟨hu,he,_,_⟩:=ht.sl
  unfold Instr.sliceAt Instr.slice
  simp only [anF,aoR hu,Result.andThen,MZ (w:=w) hl hl' hh hh' h0 h1 h2,he.info.sizeOf w,anK]
theorem add_add (b:Option Addr) (m n:Nat):(b.map (·.add m)).map (·.add n)=b.map (·.add (m+n)):=by
  cases b with
  | none=>rfl
  | some ad=>obtain ⟨x,y,z⟩:=ad; by_cases hm:m=0 <;> by_cases hn:n=0 <;> simp [Addr.add,hm,hn,aoK]
theorem add_zero (b:Option Addr):b.map (·.add 0)=b:=by
  cases b with
  | none=>rfl
  | some ad=>obtain ⟨x,y,z⟩:=ad; simp [Addr.add]
theorem Wz {h:Heap} {own:List TypeId} {ok:Nat->Prop} {e:TypeId} {kk:K} {xs:List (El kk)} {cs:List Value} {fo:List Nat} (H:Ow h own ok (.sl e kk) xs cs fo):∃b m c,cs=[.slice b m c]/\m=xs.length/\m<=c:=by
  unfold Ow at H
  split at H
  · obtain ⟨b,m,c,e1,e2,e3,_⟩:=H
    exact ⟨b,m,c,e1,e2,e3⟩
  · obtain ⟨_,b,m,c,e1,e2,e3,_⟩:=H
    exact ⟨b,m,c,e1,e2,e3⟩
theorem Ii (hT:eG P T) (H:Rel cx Z J F a w) (hd:o.dst=some d) (hdn:d<cx.nt) {t:TypeId} {x:Operand} {lo hi mx:Option Operand}
    (h:(match T.ty t with
      | some kk=>dU x fun a=>Ew lo fun lo=>Ew hi fun hi=>Ew mx fun mx=>MQ kk a lo hi mx fun u=>.ret [Wr.s d (.one u)]
      | none=>(.fail:Prog (List Wr))).ends Z ws) (ho:o.op=.slice t x lo hi mx):pY P cx o a w (aB ws Z):=by
  cases hty:T.ty t with
  | none=>rw [hty] at h; exact h.elim
  | some k0=>
    rw [hty] at h
    have ht:=hT.ty t k0 hty
    obtain ⟨u,h1,h2,h⟩:=bY H h
    obtain ⟨lo',h,l1,l2⟩:=zl H h
    obtain ⟨hi',h,g1,g2⟩:=zl H h
    obtain ⟨mx',h,m1,m2⟩:=zl H h
    have hl:lo'=none->lo.map a.eval=none:=fun e=>by rw [l1.1 e]; rfl
    have hh:hi'=none->hi.map a.eval=none:=fun e=>by rw [g1.1 e]; rfl
    cases u with
    | ref r g=>
      simp only [MQ] at h
      obtain ⟨R,e,kk,xs,hr,hv,hg,hq,hf,he,h⟩:=su h
      rcases ay h with ⟨hk0,h5⟩ | ⟨_,h5⟩
      · clear h
        have ek:=K.eq_of_beq hk0
        subst ek
        obtain ⟨hka,Au⟩:=h1 R hr hg
        obtain ⟨b,n,c,ev,eh,en,hnc⟩:=Dl H hr hv hq he Au
        cases mx' with
        | none=>
          have hmx:mx.map a.eval=none:=by rw [m1.1 rfl]; rfl
          obtain ⟨⟨c1,c2,c3⟩,h6⟩:=h5
          rw [aD h6]
          have hrun:=A7 (P:=P) (w:=w) (b:=b) (n:=n) (c:=c) ht hl l2 hh g2 c1 (by rw [en]; exact c2) (by rw [en]; omega)
          refine bR (x:=.one (.part r g (lo'.getD 0).toNat (hi'.getD (xs.length:Int)).toNat kk.size)) H hd hdn (v:=.slice (if c=(lo'.getD 0).toNat then b else b.map (·.add ((lo'.getD 0).toNat * kk.size))) ((hi'.getD (n:Int)).toNat - (lo'.getD 0).toNat) (c - (lo'.getD 0).toNat)) ?_ ?_ ⟨R,hr.1, .inr (by omega)⟩
          · simp only [execOp,ho,ev,hmx,anF,hrun,anx,anK]
          · refine ⟨_,b,n,c,by rw [en], ?_,by omega,by rw [en]; omega,hnc, ?_⟩
            · rintro (h0 | h0)
              · rw [h0]; simp [add_zero]
              · rw [aok h0]
            · rw [<-ev]; exact h1
        | some m=>
          obtain ⟨jk,hmx⟩:=m2 m rfl
          simp only at h5
          rcases ay h5 with ⟨hs,h6⟩ | ⟨_,h6⟩
          · obtain ⟨⟨c1,c2,c3,c4⟩,h7⟩:=h6
            rw [aD h7]
            cases hi' with
            | none=>simp at hs
            | some i=>
              obtain ⟨ik,ehi⟩:=g2 i rfl
              simp only [aoj] at c2 c3
              obtain ⟨hu,he',_,_⟩:=ht.sl
              have c5:m<=(c:Int):=by omega
              have hrun:∃v,(Instr.sliceAt t (.slice b n c) (lo.map a.eval) (hi.map a.eval) (mx.map a.eval)).run P w=.ok v w:=by
                unfold Instr.sliceAt Instr.slice Instr.sliceBounds
                rw [hmx,ehi]
                cases lo' with
                | none=>
                  rw [hl rfl]
                  simp only [apL] at c1 c2
                  refine ⟨.slice (if m.toNat=0 then b else b.map (·.add (0 * kk.size))) (i.toNat - 0) (m.toNat - 0), ?_⟩
                  simp [aoR hu,Instr.sliceBound,asIntOf,c5,c3,he'.info.sizeOf w,show 0<=m by omega,show 0<=i by omega,show (i<=max m 0) by omega,Result.andThen]
                | some j=>
                  obtain ⟨lk,elo⟩:=l2 j rfl
                  rw [elo]
                  simp only [aoj] at c1 c2
                  refine ⟨.slice (if m.toNat=j.toNat then b else b.map (·.add (j.toNat * kk.size))) (i.toNat - j.toNat) (m.toNat - j.toNat), ?_⟩
                  simp [aoR hu,Instr.sliceBound,asIntOf,c5,c3,c1,he'.info.sizeOf w,show 0<=m by omega,show 0<=i by omega,show (i<=max m 0) by omega,show (j<=max i 0) by omega,Result.andThen]
              obtain ⟨v,hrun⟩:=hrun
              exact bR (x:=.one .undef) H hd hdn (v:=v) (by simp only [execOp,ho,ev,anF,hrun,anx,anK]) trivial trivial
          · exact h6.elim
      · exact h5.elim
    | part r g l0 h0 sz=>
      simp only [MQ] at h
      obtain ⟨R,e,kk,xs,hr,hv,hg,hq,hf,he,h⟩:=su h
      rcases ay h with ⟨hk0,h5⟩ | ⟨_,h5⟩
      · clear h
        simp only [ank] at hk0
        have ek:=K.eq_of_beq hk0.1.1
        subst ek
        have hsz:kk.size=sz:=ani hk0.1.2
        subst hsz
        cases mx' with
        | some m=>simp at hk0
        | none=>
          have hmx:mx.map a.eval=none:=by rw [m1.1 rfl]; rfl
          obtain ⟨⟨c1,c2,c3⟩,h6⟩:=h5
          rw [aD h6]
          obtain ⟨b',b,n,c,ev,eb,e2,e3,e4,hrf⟩:=h1
          obtain ⟨hka,Au⟩:=hrf R hr hg
          obtain ⟨b2,n2,c2',Zc,eh,en,hnc⟩:=Dl H hr hv hq he Au
          simp only [apM] at Zc
          obtain ⟨rfl,rfl,rfl⟩:=Zc
          have hrun:=A7 (P:=P) (w:=w) (b:=b') (n:=h0 - l0) (c:=c - l0) ht hl l2 hh g2 c1 c2 (by omega)
          refine bR (x:=.one (.part r g (l0+(lo'.getD 0).toNat) (l0+(hi'.getD ((h0 - l0:Nat):Int)).toNat) kk.size)) H hd hdn
            (v:=.slice (if c - l0=(lo'.getD 0).toNat then b' else b'.map (·.add ((lo'.getD 0).toNat * kk.size))) ((hi'.getD ((h0 - l0:Nat):Int)).toNat - (lo'.getD 0).toNat) (c - l0 - (lo'.getD 0).toNat)) ?_ ?_ ⟨R,hr.1, .inr (by omega)⟩
          · simp only [execOp,ho,ev,hmx,anF,hrun,anx,anK]
          · refine ⟨if c - l0=(lo'.getD 0).toNat then b' else b'.map (·.add ((lo'.getD 0).toNat * kk.size)),b,n,c, ?_, ?_,by omega,by rw [en]; omega,e4,hrf⟩
            · rw [show l0+(hi'.getD ((h0 - l0:Nat):Int)).toNat - (l0+(lo'.getD 0).toNat)=(hi'.getD ((h0 - l0:Nat):Int)).toNat - (lo'.getD 0).toNat by omega,show c - (l0+(lo'.getD 0).toNat)=c - l0 - (lo'.getD 0).toNat by omega]
            · rintro (h0' | h0')
              · have z1:l0=0:=by omega
                have z2:(lo'.getD 0).toNat=0:=by omega
                rw [eb (.inl z1),z1,z2]
                simp [add_zero]
              · rw [aok (by omega)]
                rw [eb (by omega),add_add,aoO]
      · exact h5.elim
    | rH r p n=>
      simp only [MQ] at h
      rcases ay h with ⟨hmn,h5⟩ | ⟨_,h5⟩
      · clear h
        cases mx' with
        | some m=>simp at hmn
        | none=>
          have hmx:mx.map a.eval=none:=by rw [m1.1 rfl]; rfl
          unfold agi at h5
          cases k0 with
          | sl e kk=>
            obtain ⟨R,hr,hv,h6⟩:=bU h5
            rcases ay h6 with ⟨CY,h7⟩ | ⟨_,h7⟩
            · clear h5 h6
              cases hg:aR p R.k R.x with
              | none=>rw [hg] at h7; exact h7.elim
              | some dd=>
                rw [hg] at h7
                simp only at h7
                cases hck:bQ dd.1 (.sl e kk) dd.2 with
                | none=>rw [hck] at h7; exact h7.elim
                | some xs=>
                  rw [hck] at h7
                  simp only at h7
                  obtain ⟨ek,ey⟩:=bF hck
                  obtain ⟨dk,dx⟩:=dd
                  simp only at ek ey
                  subst ek
                  simp only at ey
                  subst ey
                  obtain ⟨⟨c1,c2,c3⟩,h8⟩:=h7
                  rw [aD h8]
                  obtain ⟨eZ,hown,cs,wh,hn,Au⟩:=h1 R hr.1 hv (ani CY) _ hg
                  obtain ⟨fT,hO,_⟩:=rC H hr hv hg eZ hown hn
                  obtain ⟨b,m,c,rfl,hm,hmc⟩:=Wz hO
                  have ev:a.eval x=.slice b m c:=by
                    have:=Au.1
                    simpa using this.symm
                  have hm':m=@List.length (El kk) xs:=hm
                  have hrun:=A7 (P:=P) (w:=w) (b:=b) (n:=m) (c:=c) ht hl l2 hh g2 c1 (by rw [hm']; exact c2) (by rw [hm']; omega)
                  refine bR (x:=.one (.sub r p n (lo'.getD 0).toNat (hi'.getD ((@List.length (El kk) xs:Nat):Int)).toNat kk.size)) H hd hdn (v:=.slice (if c=(lo'.getD 0).toNat then b else b.map (·.add ((lo'.getD 0).toNat * kk.size))) ((hi'.getD (m:Int)).toNat - (lo'.getD 0).toNat) (c - (lo'.getD 0).toNat)) ?_ ?_ ⟨R,hr.1, .inr (by have:=ani CY; omega)⟩
                  · simp only [execOp,ho,ev,hmx,anF,hrun,anx,anK]
                  · refine ⟨_,b,m,c,by rw [hm'], ?_,by omega,by rw [hm']; omega,hmc, ?_⟩
                    · rintro (h0 | h0)
                      · rw [h0]; simp [add_zero]
                      · rw [aok h0]
                    · intro R2 hR2 hv2 hn2 d2 hd2
                      have:R2=R:=by rw [hr.1] at hR2; simpa using hR2.symm
                      subst this
                      rw [hg] at hd2
                      simp only [ane] at hd2
                      subst hd2
                      exact ⟨eZ,hown,wh,hn⟩
            · exact h7.elim
          | _=>exact h5.elim
      · exact h5.elim
    | _=>exact h.elim
end
section
variable {P:Program} {T:jh} {cx:Cx} {Z:St} {J:dP} {F:List Nat} {a:Act} {w:World} {o:Oper} {d:Nat} {ws:List Wr} {r:Nat} {R:Root}
theorem QB {c:Call} {u:AV} (h:eD cx Z J F w [u] (c.args.toList.map a.eval)):∃x,c.args.toList=[x]/\bN cx Z J F w u (a.eval x):=by
  revert h
  generalize c.args.toList=l
  intro h
  cases l with
  | nil=>exact h.elim
  | cons x l=>cases l with
    | nil=>exact ⟨x,rfl,h.1⟩
    | cons _ _=>exact h.2.elim
theorem Cm {c:Call} {u v:AV} (h:eD cx Z J F w [u,v] (c.args.toList.map a.eval)):∃x y,c.args.toList=[x,y]/\bN cx Z J F w u (a.eval x)/\bN cx Z J F w v (a.eval y):=by
  revert h
  generalize c.args.toList=l
  intro h
  cases l with
  | nil=>exact h.elim
  | cons x l=>cases l with
    | nil=>exact h.2.elim
    | cons y l=>cases l with
      | nil=>exact ⟨x,y,rfl,h.1,h.2.1⟩
      | cons _ _=>exact h.2.2.elim
theorem Pw {kk:K} {m:Nat} (hk:0<kk.size) (hz:(bS kk).length=kk.size) (hg:eY kk=true):(xI (bS kk).toArray (m * kk.size)).toList.length=m * kk.size/\(∀i,i<m->mF (xI (bS kk).toArray (m * kk.size)).toList kk.size i=bS kk)/\
    ∀v∈(xI (bS kk).toArray (m * kk.size)).toList,v.oneCell'=true:=by
  refine ⟨by simp [xI],fun i hi=>Nj hk hz hi,fun v hv=>?_⟩
  simp only [xI,apG,anQ] at hv
  obtain ⟨i,_,rfl⟩:=hv
  have hlt:i % (bS kk).toArray.size<(bS kk).toArray.size:=Nat.mod_lt _ (by simp [hz,hk])
  have h1:=JQ hg (lU (h:=hp (default:World)) (own:=kk.tys) (ok:=fun _=>False) (fun _=>True) (fun _ _=>trivial) (fun _ _=>trivial) (Cq hg (fun t ht=>aM.2 ht)))
  rw [getElem!_pos (bS kk).toArray _ hlt]
  exact h1 _ (by simp)
theorem RI (hT:eG P T) (H:Rel cx Z J F a w) {c:Call} (ho:o.op=.call c) (hcb:c.callee=.builtin .clear) {u:AV} {e0:TypeId} {k0:K} (hl:eD cx Z J F w [u] (c.args.toList.map a.eval)) (ht0:(c.argTypes[0]?).bind T.ty=some (.sl e0 k0))
    (h:(N9 (.sl e0 k0) u fun ws=>(.ret ws:Prog (List Wr))).ends Z ws):∃v w' J',(execOp a.eval o).run P w=.ok (.value v) w'/\Rel cx (aB ws Z) J' [] a w':=by
  obtain ⟨x,hx,hu⟩:=QB hl
  obtain ⟨t,hat,ht⟩:=sG hT ht0
  cases u with
  | part r g lo hi sz=>
    simp only [N9] at h
    obtain ⟨R,e,kk,xs,hr,hv,hg,hq,hf,he,h⟩:=su h
    rcases ay h with ⟨hsz,h5⟩ | ⟨_,h5⟩
    · clear h
      simp only [ank] at hsz
      have ek:=K.eq_of_beq hsz.1
      have hsz:=ani hsz.2
      subst hsz
      obtain ⟨rfl,rfl⟩:e=e0/\kk=k0:=by simpa using ek
      rw [aD h5]
      obtain ⟨b',b,n,c',ev,eb,e2,e3,e4,hrf⟩:=hu
      obtain ⟨hka,Au⟩:=hrf R hr hg
      obtain ⟨b2,n2,c2',Zc,eh,en,hnc⟩:=Dl H hr hv hq he Au
      simp only [apM] at Zc
      obtain ⟨rfl,rfl,rfl⟩:=Zc
      obtain ⟨hun,hel,hks,_⟩:=ht.sl
      have hng:=hel.eY
      have hzl:(bS kk).length=kk.size:=by
        have:=Cq (h:=hp w) (ok:=fun _=>False) (own:=kk.tys) hng (fun t ht=>aM.2 ht)
        exact cZ this
      obtain ⟨z1,z2,z3⟩:=Pw (m:=hi - lo) hks hzl hng
      obtain ⟨w',r1,r2,r3,r4,_⟩:=O9 (P:=P) (zs:=List.replicate (hi - lo) kk.zero) (s:=lo) H hr hv hka hq hf he hks (by simp; omega) (b:=b) (n:=n) (c:=c') eh (bb:=b') (fun h0=>eb (by
          simp only [apm] at h0
          omega)) (news:=(xI (bS kk).toArray ((hi - lo) * kk.size)).toList) (by rw [z1]; simp) (fun i hi'=>by
          have hi2:i<hi - lo:=by simpa using hi'
          rw [z2 i hi2]
          have:(List.replicate (hi - lo) kk.zero)[i]'hi'=kk.zero:=by simp
          rw [this]
          exact lU (own:=kk.tys) (ok:=fun _=>False) _ (fun _ _=>trivial) (fun _ _=>trivial) (Cq hng (fun t ht=>aM.2 ht))) z3
      have hdrop:lo+(List.replicate (hi - lo) kk.zero).length=hi:=by simp; omega
      rw [hdrop] at r4
      obtain ⟨cc,hcc⟩:=jW (P:=P) (a:=a) (w:=w) ho hcb
      have U5:(c.args.map a.eval)[0]?=some (.slice b' (hi - lo) (c' - lo)):=by
        rw [<-apt,apG,hx]
        simp [ev]
      refine ⟨.tuple #[],w',_, ?_,r4⟩
      rw [hcc]
      have hrun:(Builtin.clear_ c.argTypes o.type (c.args.map a.eval)).run P w=.ok (.tuple #[]) w':=by
        unfold Builtin.clear_
        simp only [hat,U5]
        by_cases h0:hi - lo=0
        · rw [h0]
          rw [r2 (by simp [h0])]
          cases b' <;> simp [aoR hun,Result.andThen]
        · obtain ⟨ad,had⟩:=r3 (by simp; omega)
          subst had
          have hst:=r1 ad rfl
          have hzc:(Builtin.zeroCells (pG kk).cells (hi - lo)).toList=(xI (bS kk).toArray ((hi - lo) * kk.size)).toList:=by
            rw [sJ hel.shape]
            unfold Builtin.zeroCells xI
            simp [hzl]
          obtain ⟨m,hm⟩:∃m,hi - lo=m+1:=⟨hi - lo - 1,by omega⟩
          rw [hm] at hzc hst ⊢
          simp only [anF,aoR hun,anx,hel.info.zero w,hzc,hst,anK]
      simp only [builtin,anF,hrun,anx,anK]
    · exact h5.elim
  | _=>exact h.elim
end
section
variable {P:Program} {T:jh} {cx:Cx} {Z:St} {J:dP} {F:List Nat} {a:Act} {w:World} {o:Oper} {d:Nat} {ws:List Wr} {r:Nat} {R:Root}
theorem RJ (hT:eG P T) (H:Rel cx Z J F a w) (hd:o.dst=some d) (hdn:d<cx.nt) {c:Call} (ho:o.op=.call c) (hcb:c.callee=.builtin .append) {u v:AV} {e0 e1:TypeId} {k0 k1:K} (hl:eD cx Z J F w [u,v] (c.args.toList.map a.eval))
    (ht0:(c.argTypes[0]?).bind T.ty=some (.sl e0 k0)) (ht1:(c.argTypes[1]?).bind T.ty=some (.sl e1 k1)) (h:(Oa (.sl e0 k0) d u v fun ws=>(.ret ws:Prog (List Wr))).ends Z ws):pY P cx o a w (aB ws Z):=by
  obtain ⟨x,y,hxy,hu,hv0⟩:=Cm hl
  obtain ⟨t,hat,ht⟩:=sG hT ht0
  obtain ⟨t2,Km,ht2⟩:=sG hT ht1
  cases u with
  | part r g l0 h0 sz=>
    cases v with
    | part r' g' l1 h1 sz'=>
      simp only [Oa] at h
      obtain ⟨R,e,kk,xs,hr,hv,hg,hq,hf,he,h⟩:=su h
      rcases ay h with ⟨hc,h5⟩ | ⟨_,h5⟩
      · clear h
        simp only [ank] at hc
        obtain ⟨⟨⟨⟨⟨c1,c2⟩,c3⟩,c4⟩,c5⟩,c6⟩:=hc
        have ek:=K.eq_of_beq c1
        have c2:=ani c2
        have c3:=ani c3
        have c4:=ani c4
        have c5:=ani c5
        have c6:=ani c6
        subst c2 c3 c4 c5 c6
        obtain ⟨rfl,rfl⟩:e=e0/\kk=k0:=by simpa using ek
        obtain ⟨hle,h6⟩:=h5
        rw [aD h6]
        obtain ⟨b1,b,n,cp,ev1,eb1,e2,e3,e4,hrf⟩:=hu
        obtain ⟨b2,b',n',cp',Zc,eb2,f2,f3,f4,aj6⟩:=hv0
        obtain ⟨hka,Au⟩:=hrf R hr hg
        obtain ⟨_,ajr⟩:=aj6 R hr hg
        obtain ⟨q1,q2,q3,ev,eh,en,hnc⟩:=Dl H hr hv hq he Au
        simp only [apM] at ev
        obtain ⟨rfl,rfl,rfl⟩:=ev
        obtain ⟨q1,q2,q3,ev,eh',_,_⟩:=Dl H hr hv hq he ajr
        simp only [apM] at ev
        obtain ⟨rfl,rfl,rfl⟩:=ev
        rw [eh] at eh'
        simp only [apr,apM,an9] at eh'
        obtain ⟨rfl,rfl,rfl⟩:=eh'
        have hb1:b1=b:=by rw [eb1 (.inl rfl)]; simp [add_zero]
        subst hb1
        obtain ⟨hun,hel,hks,_⟩:=ht.sl
        have hng:=hel.eY
        have hO:Ow (hp w) R.own (jc cx Z J F w R.tags) (.sl e kk) xs [.slice b1 n cp] (J.fo r):=by
          have:=cast (congrArg (fun q:Dat=>Ow (hp w) R.own (jc cx Z J F w R.tags) q.1 q.2 (J.hdr r) (J.fo r)) hq) ((H.roots r R hr).ow hv)
          simp only at this
          rw [eh] at this
          exact this
        have hV:=lU (fun _=>True) (fun _ _=>trivial) (fun _ _=>trivial) hO
        have hVp:=PY hV f2 (by omega:h1<=n)
        have hlz:((xs.take h1).drop l1).length=h1 - l1:=by
          have:n=xs.length:=en
          simp; omega
        have hVy:Vw (hp w) (fun _=>True) (.sl e kk) (show List (El kk) from (xs.take h1).drop l1) [.slice b2 (h1 - l1) (cp - l1)]:=by
          by_cases hcl:cp=l1
          · refine ⟨_,_,_,rfl,hlz.symm,by omega,fun h=>?_⟩
            omega
          · rw [aok hcl] at hVp
            rw [eb2 (.inr hcl)]
            exact hVp
        obtain ⟨news,hS,hE⟩:=KX (P:=P) (u:=t2) (xs:=(xs.take h1).drop l1) (v:=a.eval y) (.inl ⟨_,ht2.sl.1⟩) hng rfl (cs:=[.slice b2 (h1 - l1) (cp - l1)]) ⟨by rw [Zc],by rw [Zc]; simp⟩ hVy
        have hzl:((show List (El kk) from (xs.take h1).drop l1)).length=h1 - l1:=hlz
        have hroom:h0+((xs.take h1).drop l1).length<=cp:=by omega
        obtain ⟨w',r1,r2,r3,r4,r5⟩:=O9 (P:=P) (zs:=(xs.take h1).drop l1) (s:=h0) H hr hv hka hq hf he hks (by rw [hlz]; have:n=xs.length:=en; omega) (b:=b1) (n:=n) (c:=cp) eh (bb:=b1.map (·.add (h0 * kk.size))) (fun _=>rfl) (news:=news) hS.nl hE hS.one
        rw [hlz] at r4 r5
        have hrun:=tH (P:=P) (ty:=o.type) (t:=t) (u:=t2) ht hS (b:=b1) (n:=h0) (c:=cp) hroom
        have I8:(Builtin.append_ #[t,t2] o.type #[a.eval x,a.eval y]).run P w=.ok (.slice b1 (h0+(h1 - l1)) cp) w':=by
          rw [ev1]
          simp only [Nat.sub_zero]
          rw [hrun,hlz]
          cases hbb:b1 with
          | none=>
            have:((xs.take h1).drop l1).length=0:=by
              refine anC fun hne=>?_
              obtain ⟨ad,had⟩:=r3 (by omega)
              rw [hbb] at had
              simp at had
            rw [r2 this]
            simp [Result.andThen]
          | some ad=>
            have:=r1 (ad.add (h0 * kk.size)) (by rw [hbb]; rfl)
            simp only [this,anx]
        show pY P cx o a w (aB [Wr.s d (.one (.part r g 0 (h0+(h1 - l1)) kk.size))] (au Z r (jV R e kk (xs.take h0++(xs.take h1).drop l1++xs.drop (h0+(h1 - l1))))))
        refine iF (x:=.one (.part r g 0 (h0+(h1 - l1)) kk.size)) (v:=.slice b1 (h0+(h1 - l1)) cp) r4 hd hdn (ku ho hcb hxy hat Km I8) ?_ ⟨_,aI .., .inr (by rw [<-hg]; exact anv _)⟩
        refine ⟨b1,b1,n,cp,by simp,fun _=>by simp [add_zero],by omega,by omega,e4,r5 g (.slice b1 n cp) (by omega) hrf⟩
      · exact h5.elim
    | _=>exact h.elim
  | _=>exact h.elim
theorem LP (hT:eG P T) (H:Rel cx Z J F a w) (hd:o.dst=some d) (hdn:d<cx.nt) {c:Call} (ho:o.op=.call c) (hcb:c.callee=.builtin .len) {r g lo hi sz:Nat} {e0:TypeId} {k0:K} (hl:eD cx Z J F w [.part r g lo hi sz] (c.args.toList.map a.eval))
    (ht0:(c.argTypes[0]?).bind T.ty=some (.sl e0 k0)):pY P cx o a w (aB [.s d (.one (.val (.int .i64) ((hi - lo:Nat):Int) []))] Z):=by
  obtain ⟨x,hx,hu⟩:=QB hl
  obtain ⟨t,hat,ht⟩:=sG hT ht0
  obtain ⟨b',b,n,cp,ev,_⟩:=hu
  have U5:(c.args.map a.eval)[0]?=some (.slice b' (hi - lo) (cp - lo)):=by
    rw [<-apt,apG,hx]
    simp [ev]
  obtain ⟨cc,hcc⟩:=jW (P:=P) (a:=a) (w:=w) ho hcb
  refine bR H hd hdn ?_ (oL .i64 (n:=((hi - lo:Nat):Int)) trivial) yK
  rw [hcc]
  simp only [builtin,anF,QG (ty:=o.type) (w:=w) hat U5 (.inr ⟨⟨_,ht.sl.1⟩,b',cp - lo,rfl⟩),anx,anK]
theorem M3 {t u ty e:TypeId} {k:K} (ht:fM P T t (.sl e k)) {b:Option Addr} {n c m:Nat} {x:Value} {news:List Value} (hs:Src P w k.size u x m news) (hr:m<=n) :
    (Builtin.copy_ #[t,u] ty #[.slice b n c,x]).run P w=(match b with
      | some a=>(storeCells a news).run P w
      | none=>.ok () w).andThen fun _ w'=>.ok (.int .i64 (m:Int)) w':=by
  obtain ⟨hu,he,_,_⟩:=ht.sl
  have e1:=hs.len w
  have e2:=hs.cells.1
  have hm:Nat.min m n=m:=Nat.min_eq_left hr
  cases b <;> simp [Builtin.copy_,aoR hu,he.info.sizeOf w,e1,e2,hm,Result.andThen,goInt]
theorem UG (hT:eG P T) (H:Rel cx Z J F a w) (hd:o.dst=some d) (hdn:d<cx.nt) {c:Call} (ho:o.op=.call c) (hcb:c.callee=.builtin .copy) {u v:AV} {e0 e1:TypeId} {k0 k1:K} (hl:eD cx Z J F w [u,v] (c.args.toList.map a.eval)) (hwv:qM Z v)
    (ht0:(c.argTypes[0]?).bind T.ty=some (.sl e0 k0)) (ht1:(c.argTypes[1]?).bind T.ty=some (.sl e1 k1)) (h:(UD (.sl e0 k0) d u v fun ws=>(.ret ws:Prog (List Wr))).ends Z ws):pY P cx o a w (aB ws Z):=by
  obtain ⟨x,y,hxy,hu,hv0⟩:=Cm hl
  obtain ⟨t,hat,ht⟩:=sG hT ht0
  obtain ⟨t2,Km,ht2⟩:=sG hT ht1
  cases u with
  | ref r g=>
    simp only [UD] at h
    obtain ⟨R,e,kk,xs,hr,hv,hg,hq,hf,he,h⟩:=su h
    rcases ay h with ⟨hc,h5⟩ | ⟨_,h5⟩
    · clear h
      have ek:=K.eq_of_beq hc
      obtain ⟨rfl,rfl⟩:e=e0/\kk=k0:=by simpa using ek
      obtain ⟨hun,hel,hks,_⟩:=ht.sl
      have hng:=hel.eY
      obtain ⟨s,h6,_,_,news,_,_,_,_,_,_,hS,hels⟩:=M8 (P:=P) (u:=t2) H (.inl ⟨_,ht2.sl.1⟩) hng hv0 hwv h5
      obtain ⟨hle,h7⟩:=h6
      rw [aD h7]
      obtain ⟨hka,Au⟩:=hu R hr (by omega)
      obtain ⟨b,n,cp,ev,eh,en,hnc⟩:=Dl H hr hv hq he Au
      obtain ⟨bC,Ae,_,_,_,hE⟩:=hels [] (fun t ht=>by rw [xq hf] at ht; simp at ht)
      have hb0:b.map (·.add (0 * kk.size))=b:=by rw [Nat.zero_mul]; exact add_zero b
      obtain ⟨w',r1,r2,r3,r4,r5⟩:=O9 (P:=P) (zs:=s.xs) (s:=0) H hr hv hka hq hf he hks (by omega) (b:=b) (n:=n) (c:=cp) eh (bb:=b) (fun _=>hb0.symm) (news:=news) hS.nl (fun i hi=>lU (fun _=>True) (fun _ _=>trivial) (fun _ _=>trivial) (hE i hi)) hS.one
      have hxs:xs.take 0++s.xs++xs.drop (0+s.xs.length)=s.xs++xs.drop s.xs.length:=by simp
      rw [hxs] at r4 r5
      have hrun:=M3 (P:=P) (ty:=o.type) (t:=t) (u:=t2) ht hS (b:=b) (n:=n) (c:=cp) (by omega)
      have I8:(Builtin.copy_ #[t,t2] o.type #[a.eval x,a.eval y]).run P w=.ok (.int .i64 (s.xs.length:Int)) w':=by
        rw [ev,hrun]
        cases hbb:b with
        | none=>
          have:s.xs.length=0:=by
            refine anC fun hne=>?_
            obtain ⟨ad,had⟩:=r3 (by omega)
            rw [hbb] at had
            simp at had
          rw [r2 this]
          simp [Result.andThen]
        | some ad=>
          have:=r1 ad hbb
          simp only [this,anx]
      have afF:(execOp a.eval o).run P w=.ok (.value (.int .i64 (s.xs.length:Int))) w':=by
        obtain ⟨cc,hcc⟩:=jW (P:=P) (a:=a) (w:=w) ho hcb
        rw [hcc]
        have h1:c.args.map a.eval=#[a.eval x,a.eval y]:=by
          apply aod
          rw [apG,hxy]
          rfl
        have h2:Builtin.copy_ c.argTypes o.type #[a.eval x,a.eval y]=Builtin.copy_ #[t,t2] o.type #[a.eval x,a.eval y]:=by
          unfold Builtin.copy_
          simp only [hat]
          rfl
        rw [h1]
        simp only [builtin,anF,h2,I8,anx,anK]
      show pY P cx o a w (aB [Wr.s d (.one (.val (.int .i64) (s.xs.length:Int) []))] (au Z r (jV R e kk (s.xs++xs.drop s.xs.length))))
      exact iF (x:=.one (.val (.int .i64) (s.xs.length:Int) [])) r4 hd hdn afF (oL .i64 (n:=((s.xs.length:Nat):Int)) trivial) yK
    · exact h5.elim
  | _=>exact h.elim
theorem Iu {t e:TypeId} (ht:fM P T t (.sl e (.int .u8))) {b q n c:Nat} {arr:Array Value} {e':TypeId} {fr:Nat×Nat} (hb:hp w b=some (.cells arr e' fr)) :
    (convert t t (.slice (some ⟨b,q,none⟩) n c)).run P w=.ok (.slice (some ⟨b,q,none⟩) n c) (w.freeze ⟨b,arr.size,none⟩ 1):=by
  obtain ⟨h1,h2,_⟩:=ht.sl
  have he:P.underlying e=some (.int .u8):=by
    unfold fM j5 at h2
    exact h2.1
  have hsh:w.shape? b=some (e',arr.size):=by
    have:w.heap[b]?=some (.cells arr e' fr):=hb
    unfold World.shape?
    rw [this]
  simp [convert,aoR h1,aoR he,markStringish,hsh]
theorem RX {b:Nat} {arr:Array Value} {e':TypeId} {lo hi:Nat} (hb:hp w b=some (.cells arr e' (lo,hi))) (hf:zY arr.size lo hi) :
    (∀b',b'≠b->hp (w.freeze ⟨b,arr.size,none⟩ 1) b'=hp w b')/\∃lo' hi',hp (w.freeze ⟨b,arr.size,none⟩ 1) b=some (.cells arr e' (lo',hi'))/\zY arr.size lo' hi':=by
  have hb':w.heap[b]?=some (.cells arr e' (lo,hi)):=hb
  have e0:(w.freeze ⟨b,arr.size,none⟩ 1).heap=w.heap.modify b fun
      | .cells c elem (lo,hi)=>.cells c elem (if lo == hi then (arr.size,arr.size+1) else (min lo arr.size,max hi (arr.size+1)))
      | o=>o:=by
    unfold World.freeze
    rw [aok (by decide)]
    rfl
  refine ⟨fun b' hne=>?_, ?_⟩
  · show (w.freeze ⟨b,arr.size,none⟩ 1).heap[b']?=w.heap[b']?
    rw [e0,aoT,aok (Ne.symm hne)]
  · have e1:hp (w.freeze ⟨b,arr.size,none⟩ 1) b=some (.cells arr e' (if lo == hi then (arr.size,arr.size+1) else (min lo arr.size,max hi (arr.size+1)))):=by
      show (w.freeze ⟨b,arr.size,none⟩ 1).heap[b]?=_
      rw [e0,aoT,aoi rfl,hb']
      rfl
    cases hlh:(lo == hi) with
    | true=>rw [hlh] at e1; exact ⟨_,_,e1,by omega,fun i hi=>by omega⟩
    | false=>
      rw [hlh] at e1
      have hne:lo≠hi:=by simpa using hlh
      have hle:=hf.le
      have hs:arr.size<=lo:=anC fun h=>hf.out lo (by omega) ⟨anv _,by omega⟩
      exact ⟨_,_,e1,by omega,fun i hi=>by omega⟩
theorem RH (hT:eG P T) (H:Rel cx Z J F a w) (hd:o.dst=some d) (hdn:d<cx.nt) {t e:TypeId} {x:Operand} {u:AV} (ho:o.op=.convert t t x) (ht0:T.ty t=some (.sl e (.int .u8))) (hu:bN cx Z J F w u (a.eval x))
    (h:(NU e d u fun ws=>(.ret ws:Prog (List Wr))).ends Z ws):pY P cx o a w (aB ws Z):=by
  have ht:=hT.ty t _ ht0
  cases u with
  | ref r g=>
    simp only [NU] at h
    obtain ⟨R,e',kk,xs,hr,hv,hg,hq,hf,he,h⟩:=su h
    rcases ay h with ⟨hc,h5⟩ | ⟨_,h5⟩
    · clear h
      obtain ⟨h6,h7⟩:=h5
      rw [aD h7]
      have ek:=K.eq_of_beq hc
      obtain ⟨rfl,rfl⟩:e'=e/\kk=.int .u8:=by simpa using ek
      obtain ⟨hka,Au⟩:=hu R hr (by omega)
      have hO:=cast (congrArg (fun q:Dat=>Ow (hp w) R.own (jc cx Z J F w R.tags) q.1 q.2 (J.hdr r) (J.fo r)) hq) ((H.roots r R hr).ow hv)
      have hV:VC (.sl e' (.int .u8)) (a.eval x) (J.hdr r):=cast (congrArg (fun q:Dat=>VC q.1 (a.eval x) (J.hdr r)) hq) Au
      simp only at hO
      have hO0:=hO
      unfold Ow at hO
      rw [aoi he] at hO
      obtain ⟨ad,n,c,e1,e2,e3,hO⟩:=hO
      have h6':0<(show List Int from xs).length:=h6
      rcases hO with ⟨hc0,_⟩ | ⟨b,q,arr,lo,hi,ea,hb,hfr,hs,bC,hl,hpm,hE⟩
      · have:n=(show List Int from xs).length:=e2
        omega
      · subst ea
        have ev:a.eval x=.slice (some ⟨b,q,none⟩) n c:=by
          have:=hV.1
          rw [e1] at this
          simpa using this.symm
        have afE:=Iu (P:=P) (w:=w) ht (n:=n) (c:=c) (q:=q) hb
        obtain ⟨g1,lo',hi',g2,g3⟩:=RX hb hfr
        have hcell:∀i,cellAt (hp (w.freeze ⟨b,arr.size,none⟩ 1)) b i=cellAt (hp w) b i:=fun i=>by unfold cellAt; rw [g2,hb]
        have ajw:b∈J.fo r:=hpm.mem_iff.2 (by simp)
        have XX:(w.freeze ⟨b,arr.size,none⟩ 1).os=w.os/\(w.freeze ⟨b,arr.size,none⟩ 1).tape=w.tape/\(w.freeze ⟨b,arr.size,none⟩ 1).output=w.output/\(w.freeze ⟨b,arr.size,none⟩ 1).heap.size=w.heap.size:=by
          unfold World.freeze
          rw [aok (by decide)]
          exact ⟨rfl,rfl,rfl,by simp⟩
        have hE':∀(i:Nat) (hi:i<(show List Int from xs).length),∃ds,Cells (hp w) b (q+i * K.size (.int .u8)) ds/\Ow (hp w) R.own (jc cx Z J F w R.tags) (.int .u8) ((show List Int from xs)[i]) ds (bC.getD i []):=hE
        obtain ⟨r4,r5⟩:=KO (w':=w.freeze ⟨b,arr.size,none⟩ 1) (ys:=xs) H hr hv hka hq hf rfl ⟨XX.1,XX.2.1,XX.2.2.1⟩ (by rw [XX.2.2.2]; exact anv _)
          (fun b' hne=>by
            by_cases hbb:b'=b
            · subst hbb
              exact ⟨ajw,by unfold qm; rw [hb]⟩
            · exact absurd (g1 b' hbb) hne)
          (fun ok=>by
            unfold Ow
            rw [aoi he]
            refine ⟨some ⟨b,q,none⟩,n,c,e1,e2,e3, .inr ⟨b,q,arr,lo',hi',rfl,g2,g3,hs,bC,hl,hpm,fun i hi=>?_⟩⟩
            obtain ⟨ds,k1,k2⟩:=hE' i hi
            exact ⟨ds,fun j hj=>by rw [hcell]; exact k1 j hj,k2⟩)
        have hrun:(execOp a.eval o).run P w=.ok (.value (a.eval x)) (w.freeze ⟨b,arr.size,none⟩ 1):=by
          simp only [execOp,ho,ev,anF,afE,anx,anK]
        show pY P cx o a w (aB [Wr.s d (.one (.ref r g))] (au Z r (jV R e' (.int .u8) xs)))
        exact iF (x:=.one (.ref r g)) r4 hd hdn hrun (r5 g (a.eval x) (by omega) hu) ⟨_,aI .., .inr (by show g<=R.g; omega)⟩
    · exact h5.elim
  | _=>exact h.elim
theorem Kg (hT:eG P T) (H:Rel cx Z J F a w) (hd:o.dst=some d) (hdn:d<cx.nt) (h:(He T o d fun ws=>(.ret ws:Prog (List Wr))).ends Z ws):pY P cx o a w (aB ws Z):=by
  unfold He at h
  split at h
  · rename_i t x lo hi mx ho
    exact Ii hT H hd hdn h ho
  · rename_i c ho
    split at h
    · rename_i hcb
      obtain ⟨vs,h1,h2,h⟩:=jJ H h
      split at h
      · split at h
        · rename_i ht0
          rw [aD h]
          exact LP hT H hd hdn ho hcb h1 ht0
        · exact h.elim
      · exact h.elim
    · rename_i hcb
      obtain ⟨vs,h1,h2,h⟩:=jJ H h
      split at h
      · split at h
        · rename_i ht0 ht1
          exact RJ hT H hd hdn ho hcb h1 ht0 ht1 h
        · exact h.elim
      · exact h.elim
    · rename_i hcb
      obtain ⟨vs,h1,h2,h⟩:=jJ H h
      split at h
      · split at h
        · rename_i ht0 ht1
          exact UG hT H hd hdn ho hcb h1 (h2 _ (by simp)) ht0 ht1 h
        · exact h.elim
      · exact h.elim
    · exact h.elim
  · rename_i t ps ho
    exact XJ hT H hd hdn h ho
  · rename_i s t x ho
    split at h
    · rename_i hty
      rcases ay h with ⟨hst,h9⟩ | ⟨_,h9⟩
      · have hst:=ani hst
        obtain ⟨u,h1,h2,h9⟩:=bY H h9
        exact RH hT H hd hdn (by rw [ho,hst]) hty h1 h9
      · exact h9.elim
    · exact h.elim
  · exact h.elim
end
theorem BN {p:List Stp}:∀{q:List Stp},ug p q=true->Mq p=Mq q->p=q:=by
  induction p with
  | nil=>intro q h _; cases q with
    | nil=>rfl
    | cons s q=>cases s <;> simp [ug] at h
  | cons s p ih=>
    intro q h hi
    cases q with
    | nil=>cases s <;> simp [ug] at h
    | cons u q=>
      cases s with
      | gu n=>
        cases u with
        | gu m=>
          simp only [ug,ank] at h
          rw [ani h.1,ih h.2 hi]
        | idx j=>simp [ug] at h
      | idx i=>
        cases u with
        | gu m=>simp [ug] at h
        | idx j=>
          simp only [Mq,apr] at hi
          rw [hi.1,ih h hi.2]
theorem De {p:List Stp}:∀{q:List Stp},ug p q=true->p.all Stp.lJ=true->q.all Stp.lJ=true:=by
  induction p with
  | nil=>intro q h _; cases q with
    | nil=>rfl
    | cons s q=>cases s <;> simp [ug] at h
  | cons s p ih=>
    intro q h hi
    cases q with
    | nil=>cases s <;> simp [ug] at h
    | cons u q=>
      cases s with
      | idx i=>simp [Stp.lJ] at hi
      | gu n=>
        cases u with
        | idx j=>simp [ug] at h
        | gu m=>
          simp only [ug,ank] at h
          simp only [List.all_cons,ank] at hi ⊢
          exact ⟨rfl,ih h.2 hi.2⟩
theorem uV {p:List Stp}:p.all Stp.lJ=true->Mq p=[]:=by
  induction p with
  | nil=>intro _; rfl
  | cons s p ih=>
    intro h
    simp only [List.all_cons,ank] at h
    cases s with
    | gu n=>exact ih h.2
    | idx i=>exact absurd h.1 (by simp [Stp.lJ])
section
variable {P:Program} {T:jh} {cx:Cx} {Z:St} {J:dP} {F:List Nat} {a:Act} {w:World} {o:Oper} {d:Nat} {ws:List Wr} {r:Nat} {R:Root}
theorem GZ {t e:TypeId} {kk:K} (hT:fM P T t (.sl e kk)) (H:Rel cx Z J F a w) (hr:aQ Z r R) (hv:bB Z R) {p:List Stp} {xs ys:List (El kk)} {z:Dat} (hg:aR p R.k R.x=some ⟨.sl e kk,xs⟩) (hz:eF p R.k R.x ⟨.sl e kk,ys⟩=some z) (eZ:mG p R.k R.x)
    (hown:∀t∈ah p R.k,az t R.own=true) (hall:∀t∈(K.sl e kk).tys,az t R.own=true) {cs1:List Value} {b o:Nat} (hn:bH (hp w) p R.k (J.hdr r) (dY J R r)=some (cs1,some (b,o))) {v:Value} (BJ:∃bv nv cv,v=.slice bv nv cv) {lw:List TypeId} (hlw:eO R p∈lw)
    (how:∀fT ok,Ow (hp w) R.own ok (.sl e kk) xs cs1 fT->fT.Nodup->(∀b∈fT,b∈J.fo r)->∃ft,ft.Nodup/\(∀b∈ft,b∈fT\/b∈F)/\Ow (hp w) R.own (fun _=>False) (.sl e kk) ys [v] ft) :
    ∃w',(Instr.storeAt t (.pointer (some ⟨b,o,none⟩)) v).run P w=.ok () w'/\∃J' F',Rel cx (au Z r (bO R z R.own R.tags lw (K.sl e kk).tys R.keep)) J' F' a w':=by
  have K0:=H.roots r R hr
  have hnt:=H.dG r R hr.1
  obtain ⟨_,_,hbb,⟨arr,te,lo,hi,hb,hf,hs,hlast⟩,_⟩:=pV H hr hv hg eZ hown hn
  have hone:∀u∈[v],u.oneCell'=true:=by
    intro u hu
    simp only [anz] at hu
    subst hu
    obtain ⟨bv,nv,cv,rfl⟩:=BJ
    rfl
  have akc:VC (.sl e kk) v [v]:=by
    obtain ⟨bv,nv,cv,rfl⟩:=BJ
    exact ⟨rfl,by simp⟩
  have hrun:=Ee (o:=o) hT hb hf (show [v].length=(K.sl e kk).size from rfl) hs akc hone
  obtain ⟨s1,s2,kJ,s3,s4,s5,s6⟩:=qF b [v] w arr te (lo,hi) o hb hs
  have s7:=nK b [v] w o
  refine ⟨_,hrun, ?_⟩
  obtain ⟨fd,ok',fT,rest,pz,nG,hn',hpf,hd1,hty,_,yf,hwf,hgo⟩:=H.place hr hv (own':=R.own) hg eZ (fun t h=>h) hown
  rw [hn] at hn'
  simp only [ane,anp] at hn'
  obtain ⟨rfl,rfl⟩:=hn'
  have hnd:=K0.nd
  rw [bX,nD] at hnd
  have Vk:=hpf.nodup hnd.2
  have Qd:∀b∈fT,b∈J.fo r:=fun b hb=>hpf.mem_iff.2 (anj _ (anj _ hb))
  obtain ⟨ft,ajI,Vb,ajJ⟩:=how fT ok' hd1 (anl.1 (anl.1 Vk).1).1 Qd
  have Es:b∉F:=H.iY r R hr b hbb
  have ajx:b∉ft:=fun h=>by
    rcases Vb b h with h | h
    · exact hwf b o rfl h
    · exact Es h
  have hF':∀b',b'∈F.filter (fun b=>!az b ft)↔b'∈F/\b'∉ft:=fun b'=>by rw [anw]; simp [aW]
  have hP:rR cx Z J F w r R p ⟨.sl e kk,xs⟩ R.own cs1 (some (b,o)) fT rest ⟨.sl e kk,ys⟩ z R.tags lw (K.sl e kk).tys R.keep ft (F.filter fun b=>!az b ft) [v] (w.setCells b o [v]):=by
    refine ⟨hz,rfl,fun _ h=>h,⟨s7.1,s7.2.1,s7.2.2⟩,by omega,fun b' _ hne=>?_,fun b' o' e'=>?_,fun h=>by simp at h,rfl, .inl (fun h=>by rw [h] at hlw; simp at hlw),⟨fun _ h=>h,hnt.1,hnt.2.2⟩,fun b' hb'=>(Vb b' hb').imp id .inl,ajI,fun b' hb'=>.inl ((hF' b').1 hb').1,H.xK.filter _,
      fun b' hb' h=>((hF' b').1 h).2 hb', .inl rfl, .inl rfl,fun _ q c0 w0 hpq Sd hnq hqs=>?_,fun J' Tn hblk hval=>?_⟩
    · refine .inr (.inr ?_)
      by_cases e:b'=b
      · subst e; exact ⟨o,rfl,hlw⟩
      · exact absurd (s1 b' e) hne
    · simp only [ane,anp] at e'
      obtain ⟨rfl,rfl⟩:=e'
      refine ⟨fun i hi=>?_,arr,kJ,te,(lo,hi),hb,s3,s4,fun i hi=>s6 i hi⟩
      unfold cellAt
      rw [s3]
      exact s5 i hi
    · cases q with
      | nil=>
        simp only [bH,ane,anp] at hnq
        exact ⟨trivial,[v],by simp only [bH]; rw [hnq.2]⟩
      | cons s q=>
        cases s with
        | gu n=>exact hpq.elim
        | idx i=>exact absurd (show e∈(K.sl e kk).tys by simp [K.tys]) (Sd e (by simp [ah])).2
    · exact gI (dH hall) (bE (fun _ h=>h.elim) (fun _ h=>h) (fun b' hb'=>s1 b' (fun e=>ajx (e▸hb'))) ajJ)
  obtain ⟨J',h,_⟩:=hgo hP
  exact ⟨J',_,h⟩
theorem Ka (hT:eG P T) (H:Rel cx Z J F a w) (hd:o.dst=none) {t:TypeId} {x y:Operand} (ho:o.op=.store t x y) {u:AV} {r n m:Nat} {p:List Stp} {k0:K} (hk0:T.ty t=some k0) (h1:bN cx Z J F w u (a.eval x)) (h2:qM Z u) (h3:bN cx Z J F w (.wT r p n m) (a.eval y))
    (h:(CO k0 u r p n m fun ws=>(.ret ws:Prog (List Wr))).ends Z ws):pY P cx o a w (aB ws Z):=by
  have ht:=hT.ty t k0 hk0
  cases k0 with
  | sl e kk=>
    cases u with
    | ptr r' p' h0=>
      simp only [CO] at h
      rcases ay h with ⟨hc,h5⟩ | ⟨_,h5⟩
      · clear h
        simp only [ank] at hc
        obtain ⟨hix,h6⟩:=h5
        have er:=ani hc.1
        have ep:=BN hc.2 hix
        subst er ep
        obtain ⟨R,hr,hv,h7⟩:=bU h6
        rcases ay h7 with ⟨hc2,h8⟩ | ⟨_,h8⟩
        · simp only [ank] at hc2
          obtain ⟨⟨⟨c1,c2⟩,c3⟩,c4⟩:=hc2
          have hall:=jw c4
          cases hg:aR p R.k R.x with
          | none=>rw [hg] at h8; exact h8.elim
          | some dd=>
            rw [hg] at h8
            simp only at h8
            cases hck:bQ dd.1 (.sl e kk) dd.2 with
            | none=>rw [hck] at h8; exact h8.elim
            | some xs=>
              rw [hck] at h8
              simp only at h8
              obtain ⟨ek,ey⟩:=bF hck
              obtain ⟨dk,dx⟩:=dd
              simp only at ek ey
              subst ek
              simp only at ey
              subst ey
              cases hz:eF p R.k R.x ⟨.sl e kk,(show List (El kk) from xs).take m⟩ with
              | none=>rw [hz] at h8; exact h8.elim
              | some z=>
                rw [hz] at h8
                rw [aD h8]
                obtain ⟨b0,c,ev,h3⟩:=h3
                obtain ⟨eZ,hown,q,wh,hn,hmq⟩:=h3 R hr.1 hv (ani c1) _ hg
                obtain ⟨_,cs,b,o',hn2,ep⟩:=h1.2 R hr.1 hv c3 hown (by rw [hg]; rfl)
                rw [hn] at hn2
                simp only [ane,anp] at hn2
                obtain ⟨rfl,rfl⟩:=hn2
                obtain ⟨w',r1,J',F',r2⟩:=GZ (P:=P) ht H hr hv hg hz eZ hown hall hn (v:=.slice b0 m c) ⟨_,_,_,rfl⟩ (lw:=eO R p :: (K.sl e kk).tys) (by simp) (fun fT ok hO hnd hsub=>by
                  unfold Ow at hO
                  have he:az e R.own=true:=hall e (by simp [K.tys])
                  rw [aoi he] at hO
                  obtain ⟨a0,n',c',e1,e2,e3,hO⟩:=hO
                  simp only [apr,apM,an9] at e1
                  obtain ⟨rfl,rfl,rfl⟩:=e1
                  have e2:q=@List.length (El kk) xs:=e2
                  have hmx:m<=@List.length (El kk) xs:=by omega
                  have hlen:(@List.take (El kk) m xs).length=m:=by rw [aoX]; omega
                  rcases hO with ⟨hc0,hf0⟩ | ⟨bb,o0,arr,lo,hi,ea,hb,hfr,hs,bC,hl,hp0,hO⟩
                  · refine ⟨[],an4,by simp, ?_⟩
                    unfold Ow
                    rw [aoi he]
                    exact ⟨b0,m,c,rfl,hlen.symm,by omega, .inl ⟨hc0,rfl⟩⟩
                  · have hl:bC.length=(show List (El kk) from xs).length:=hl
                    have pQ:=hp0.nodup hnd
                    have Vt:((bC.take m).flatten).Sublist bC.flatten:=by
                      have:(bC.take m++bC.drop m).flatten=bC.flatten:=by rw [aoN]
                      rw [<-this,apx]
                      exact List.sublist_append_left _ _
                    refine ⟨bb :: (bC.take m).flatten,(anN.2 ⟨fun h=>(anN.1 pQ).1 (Vt.subset h),(anN.1 pQ).2.sublist Vt⟩),fun b' hb'=>.inl (hp0.mem_iff.2 (by
                      rcases anq.1 hb' with h | h
                      · rw [h]; exact anM
                      · exact anE _ (Vt.subset h))), ?_⟩
                    have hOO:Ow (hp w) R.own (fun _=>False) (.sl e kk) (show List (El kk) from (show List (El kk) from xs).take m) [.slice b0 m c] (bb :: (bC.take m).flatten):=by
                      unfold Ow
                      rw [aoi he]
                      refine ⟨b0,m,c,rfl,hlen.symm,by omega, .inr ⟨bb,o0,arr,lo,hi,ea,hb,hfr,hs,bC.take m,by show (bC.take m).length=((show List (El kk) from xs).take m).length; simp [hl], .refl _,fun i hi'=>?_⟩⟩
                      have hi2:i<((show List (El kk) from xs).take m).length:=hi'
                      have hi3:i<m/\i < @List.length (El kk) xs:=by
                        have h9:i<(@List.take (El kk) m xs).length:=hi'
                        rw [hlen] at h9; omega
                      obtain ⟨ds,g1,g2⟩:=hO i hi3.2
                      refine ⟨ds,g1, ?_⟩
                      have e1:(show List (El kk) from (show List (El kk) from xs).take m)[i]'hi'=(show List (El kk) from xs)[i]'hi3.2:=by
                        show ((show List (El kk) from xs).take m)[i]=_
                        simp
                      have e2:(bC.take m).getD i []=bC.getD i []:=by simp [anr,apy,hi3.1]
                      rw [e1,e2]
                      exact gI (dH (fun t ht=>hall t (by simp [K.tys,ht]))) g2
                    exact hOO)
                refine ⟨undef,w',J',F', .inr ⟨?_,rfl⟩, ?_⟩
                · simp only [execOp,ho,ep,ev,anF,r1,anx,anK]
                · rw [hd]
                  exact r2
        · exact h8.elim
      · exact h5.elim
    | _=>exact h.elim
  | _=>exact h.elim
end
section
variable {P:Program} {T:jh} {cx:Cx} {Z:St} {J:dP} {F:List Nat} {a:Act} {w:World} {o:Oper} {d:Nat} {ws:List Wr} {r:Nat} {R:Root}
theorem Rj {t u ty e:TypeId} {kk:K} (ht:fM P T t (.sl e kk)) {own:List TypeId} {ok:Nat->Prop} {xs:List (El kk)} {b:Option Addr} {n c:Nat} {x:Value} {wQ:List Nat} {news:List Value}
    (hO:Ow (hp w) own ok (.sl e kk) xs [.slice b n c] wQ) (hown:az e own=true) (hS:Src P w kk.size u x 1 news) (hb:(xs.length+1) * T.bytes e<=140737488355328) :
    ∃w' b1 o1 c1 arr lo hi,(Builtin.append_ #[t,u] ty #[.slice b n c,x]).run P w=.ok (.slice (some ⟨b1,o1,none⟩) (n+1) c1) w'/\(w'.os=w.os/\w'.tape=w.tape/\w'.output=w.output)/\w.heap.size<=w'.heap.size/\n+1<=c1/\n=xs.length/\
      hp w' b1=some (.cells arr e (lo,hi))/\zY arr.size lo hi/\o1+c1 * kk.size<=arr.size/\Cells (hp w') b1 (o1+n * kk.size) news/\(∀b',b'<w.heap.size->b'≠b1->hp w' b'=hp w b')/\
      ((b=some ⟨b1,o1,none⟩/\c=c1/\b1∈wQ/\qm (hp w) b1=some e/\iE (hp w) (hp w') b1 (o1+n * kk.size) kk.size)\/
       (b1=w.heap.size/\w.heap.size<w'.heap.size/\(0<n->∃b0 o0,b=some ⟨b0,o0,none⟩/\b0∈wQ/\∀i,i<n * kk.size->cellAt (hp w') b1 (o1+i)=cellAt (hp w) b0 (o0+i)))):=by
  have hnl:news.length=kk.size:=by simpa using hS.nl
  unfold Ow at hO
  rw [aoi hown] at hO
  obtain ⟨a,n',c',e1,e2,e3,hO⟩:=hO
  simp only [apr,apM,an9] at e1
  obtain ⟨rfl,rfl,rfl⟩:=e1
  have e2':n=xs.length:=e2
  by_cases hr:n+1<=c
  · have hrun:=tH (ty:=ty) ht hS (b:=b) (n:=n) hr
    rcases hO with ⟨hc0,_⟩ | ⟨bb,q,arr,lo,hi,ea,hbk,hf,hs,vX,hl0,hp0,hO⟩
    · omega
    · subst ea
      have hle:(n+1) * kk.size<=c * kk.size:=anL _ hr
      rw [aoO,aoP] at hle
      have hst:=kC (P:=P) (o:=q+n * kk.size) news hbk hf (by rw [hnl]; omega) hS.one
      simp only [Result.andThen,addr_add,hst] at hrun
      obtain ⟨s1,s2,kJ,s3,s4,s5,s6⟩:=qF bb news w arr e (lo,hi) (q+n * kk.size) hbk (by rw [hnl]; omega)
      refine ⟨_,bb,q,c,kJ,lo,hi,hrun,nK bb news w _,by omega,hr,e2',s3,by rw [s4]; exact hf,by rw [s4]; exact hs,fun i hi'=>?_,fun b' _ h=>s1 b' h, .inl ⟨rfl,rfl,hp0.mem_iff.2 (by simp),by unfold qm; rw [hbk],arr,kJ,e,(lo,hi),hbk,s3,s4,fun i hi'=>?_⟩⟩
      · unfold cellAt
        rw [s3]
        exact s5 i hi'
      · exact s6 i (by rw [hnl]; exact hi')
  · obtain ⟨olds,ho1,ho2,ho3⟩:∃olds:List Value,olds.length=n * kk.size/\(Builtin.firstCells kk.size n (.slice b n c)).run P w.drew=.ok olds.toArray w.drew/\(0<n->∃b0 o0,b=some ⟨b0,o0,none⟩/\b0∈wQ/\∀i,i<n * kk.size->olds[i]?=cellAt (hp w) b0 (o0+i)):=by
      rcases hO with ⟨hc0,hf0⟩ | ⟨bb,q,arr,lo,hi,ea,hbk,hf,hs,vX,hl0,hp0,hO⟩
      · have hn0:n=0:=by omega
        subst hn0
        refine ⟨[],by simp, ?_,fun h=>by omega⟩
        cases b with
        | none=>exact apB w.drew kk.size 0 0 c
        | some ad=>exact apC (P:=P) w.drew kk.size 0 ad 0 c [] (by simp) (fun j v hj=>by simp at hj)
      · subst ea
        have hle:n * kk.size<=c * kk.size:=anL _ e3
        have hrow:=wX (n:=n * kk.size) hbk (by omega:q+n * kk.size<=arr.size)
        have hrl:(nL (hp w) bb q (n * kk.size)).length=n * kk.size:=by simp [nL]
        refine ⟨nL (hp w) bb q (n * kk.size),hrl, ?_,fun _=>⟨bb,q,rfl,hp0.mem_iff.2 (by simp),fun i hi'=>(hrow i (by rw [hrl]; exact hi')).symm⟩⟩
        refine apC (P:=P) w.drew kk.size n ⟨bb,q,none⟩ n c _ hrl (fun j v hj=>?_)
        rw [addr_add,wu]
        have:=hrow j (by rw [hrl]; have:=(anZ.1 hj).1; rw [hrl] at this; exact this)
        rw [hj] at this
        exact this
    obtain ⟨nc,hnc,hrun⟩:=vQ (ty:=ty) ht hS ho2 hr (by rw [e2']; exact hb)
    have hnew:=o9 w.drew (.cells (olds.toArray++news.toArray++Builtin.zeroCells (pG kk).cells (nc - (n+1))) e)
    have hold:∀b',b'<w.heap.size->hp (w.drew.alloc (.cells (olds.toArray++news.toArray++Builtin.zeroCells (pG kk).cells (nc - (n+1))) e)) b'=hp w b':=fun b' h=>mW w.drew _ h
    have hws:w.drew.heap.size=w.heap.size:=rfl
    rw [hws] at hnew
    have hsz2:(w.drew.alloc (.cells (olds.toArray++news.toArray++Builtin.zeroCells (pG kk).cells (nc - (n+1))) e)).heap.size=w.heap.size+1:=Array.size_push ..
    have hzl:(pG kk).cells.size=kk.size:=by
      rw [sJ ht.sl.2.1.shape]
      simpa using cZ (vU (h:=hp w) (own:=own) (ok:=ok) ht.sl.2.1.eY)
    have hcell:∀q,q<(olds++news).length->cellAt (hp (w.drew.alloc (.cells (olds.toArray++news.toArray++Builtin.zeroCells (pG kk).cells (nc - (n+1))) e))) w.heap.size (0+q)=(olds++news)[q]?:=by
      intro q hq
      unfold cellAt
      rw [hnew]
      simp only [anY]
      rw [apF (by simpa using hq)]
      simp
    refine ⟨_,w.heap.size,0,nc,_,0,0,hrun,⟨rfl,rfl,rfl⟩,by omega,hnc,e2',hnew,zY.zero, ?_,fun i hi=>?_,fun b' h1 _=>hold b' h1, .inr ⟨rfl,by omega,fun hn=>?_⟩⟩
    · simp only [Array.size_append,apE,size_zeroCells,hzl,ho1,hnl]
      have h9:n * kk.size+kk.size+(nc - (n+1)) * kk.size=(n+1+(nc - (n+1))) * kk.size:=by rw [aoO,aoO,aoP]
      rw [h9]
      have:n+1+(nc - (n+1))=nc:=by omega
      rw [this]
      omega
    · rw [aoK,hcell _ (by rw [anm,ho1]; omega),aoJ (by omega),ho1]
      congr 1
      omega
    · obtain ⟨b0,o0,z1,z2,z3⟩:=ho3 hn
      refine ⟨b0,o0,z1,z2,fun i hi=>?_⟩
      rw [hcell _ (by rw [anm,ho1]; omega),aoI (by rw [ho1]; exact hi)]
      exact z3 i hi
end
section
variable {P:Program} {T:jh} {cx:Cx} {Z:St} {J:dP} {F:List Nat} {a:Act} {w:World} {o:Oper} {d:Nat} {ws:List Wr} {r:Nat} {R:Root}
theorem Q4 {h h':Heap} {own:List TypeId} {ok ok':Nat->Prop} {e:TypeId} {kk:K} {xs:List (El kk)} {b1 o1 n c:Nat} {fo:List Nat} (hall:∀t∈(K.sl e kk).tys,az t own=true) (hnd:fo.Nodup)
    (H:Ow h own ok (.sl e kk) xs [.slice (some ⟨b1,o1,none⟩) n c] fo) (hb1:b1∈fo) (hs:iE h h' b1 (o1+n * kk.size) kk.size) (ho:∀b∈fo,b≠b1->h' b=h b):Ow h' own ok' (.sl e kk) xs [.slice (some ⟨b1,o1,none⟩) n c] fo:=by
  have he:az e own=true:=hall e (by simp [K.tys])
  unfold Ow at H ⊢
  rw [aoi he] at H ⊢
  obtain ⟨a,n',c',e1,e2,e3,H⟩:=H
  simp only [apr,apM,an9] at e1
  obtain ⟨rfl,rfl,rfl⟩:=e1
  have e2':n=xs.length:=e2
  refine ⟨_,n,c,rfl,e2,e3, ?_⟩
  rcases H with ⟨hc0,hf0⟩ | ⟨bb,q,arr,lo,hi,ea,hbk,hf,hsz,bC,hl,hp,H⟩
  · rw [hf0] at hb1; simp at hb1
  · simp only [ane,an8,an9] at ea
    obtain ⟨rfl,rfl⟩:=ea
    obtain ⟨aiX,kJ,te,fr,s1,s2,s3,s4⟩:=hs
    rw [hbk] at s1
    simp only [ane,Obj.cells.injEq] at s1
    obtain ⟨rfl,rfl,rfl⟩:=s1
    have pQ:=hp.nodup hnd
    refine .inr ⟨b1,o1,kJ,lo,hi,rfl,s2,by rw [s3]; exact hf,by rw [s3]; exact hsz,bC,hl,hp,fun i hi'=>?_⟩
    obtain ⟨ds,g1,g2⟩:=H i hi'
    have hds:=cZ g2
    refine ⟨ds,fun j hj=>?_, ?_⟩
    · have:=g1 j hj
      unfold cellAt at this ⊢
      rw [hbk] at this
      rw [s2]
      simp only at this ⊢
      have hlt:(i+1) * kk.size<=n * kk.size:=anL _ (by have:i<xs.length:=hi'; omega)
      rw [aoO,aoP] at hlt
      rw [s4 _ (by omega)]
      exact this
    · refine gI (dH (fun t ht=>hall t (by simp [K.tys,ht]))) (bE (ok:=fun _=>False) (ok':=fun _=>False) (fun _ h=>h.elim) (fun _ h=>h) (fun b' hb'=>?_) (gI (dH (fun t ht=>hall t (by simp [K.tys,ht]))) g2))
      have hm:=rz hb'
      exact ho b' (hp.mem_iff.2 (anE _ hm)) (fun e=>(anN.1 pQ).1 (e▸hm))
end
section
variable {P:Program} {T:jh} {cx:Cx} {Z:St} {J:dP} {F:List Nat} {a:Act} {w:World} {o:Oper} {d:Nat} {ws:List Wr} {r:Nat} {R:Root}
theorem XG (hT:eG P T) (H:Rel cx Z J F a w) (hd:o.dst=some d) (hdn:d<cx.nt) {c:Call} (ho:o.op=.call c) (hcb:c.callee=.builtin .append) {u v:AV} {t:TypeId} {e1:TypeId} {k1:K} (hl:eD cx Z J F w [u,v] (c.args.toList.map a.eval))
    (hat:c.argTypes[0]?=some t) (ht1:(c.argTypes[1]?).bind T.ty=some (.sl e1 k1)) (h:(aaz T d t u v fun ws=>(.ret ws:Prog (List Wr))).ends Z ws):pY P cx o a w (aB ws Z):=by
  obtain ⟨x,y,hxy,hu,hv0⟩:=Cm hl
  obtain ⟨t2,Km,ht2⟩:=sG hT ht1
  unfold aaz at h
  split at h
  · rename_i e kk r p n0 rb gb hty
    have ht:=hT.ty t _ hty
    obtain ⟨B,hrB,hvB,h⟩:=bU h
    rcases ay h with ⟨hc,h5⟩ | ⟨_,h5⟩
    · clear h
      simp only [ank,an7,aW] at hc
      obtain ⟨⟨⟨⟨⟨c1,c2⟩,c3⟩,c4⟩,c5⟩,c6⟩:=hc
      have hne:r≠rb:=fun e=>by rw [e] at c3; simp at c3
      have UZ:=jw c6
      cases hcB:bQ B.k (.sl e kk) B.x with
      | none=>rw [hcB] at h5; exact h5.elim
      | some ys=>
        rw [hcB] at h5
        simp only at h5
        obtain ⟨R,hr,hv,h6⟩:=bU h5
        rcases ay h6 with ⟨hc2,h7⟩ | ⟨_,h7⟩
        · clear h5 h6
          simp only [ank] at hc2
          obtain ⟨⟨⟨q1,q2⟩,q3⟩,q4⟩:=hc2
          have hall:=jw q3
          cases hg:aR p R.k R.x with
          | none=>rw [hg] at h7; exact h7.elim
          | some dd=>
            rw [hg] at h7
            simp only at h7
            cases hck:bQ dd.1 (.sl e kk) dd.2 with
            | none=>rw [hck] at h7; exact h7.elim
            | some xs=>
              rw [hck] at h7
              simp only at h7
              obtain ⟨ek,ey⟩:=bF hck
              obtain ⟨dk,dx⟩:=dd
              simp only at ek ey
              subst ek
              simp only at ey
              subst ey
              cases hz:eF p R.k R.x ⟨.sl e kk,xs⟩ with
              | none=>rw [hz] at h7; exact h7.elim
              | some z=>
                rw [hz] at h7
                simp only at h7
                obtain ⟨⟨hy1,hbd⟩,h8⟩:=h7
                obtain ⟨hfr,h9⟩:=fC h8
                rw [aD h9]
                obtain ⟨hkB,hVB⟩:=hv0 B hrB (ani c1)
                obtain ⟨ekB,eyB⟩:=bF hcB
                obtain ⟨H1,T1,hH,hcl⟩:=kill H hrB hkB hvB
                have hSr:Same Z J (au Z rb bT) (fI J rb) r:=gV hne
                have hr1:=(hSr.live R).2 hr
                have htB:∀n,(rb,n)∉R.tags:=fun n hn=>by
                  have:=anu.1 q4 _ hn
                  simp at this
                have hv1:bB (au Z rb bT) R:=⟨hv.1,by rw [lF htB]; exact hv.2⟩
                obtain ⟨eZ,hown,cs,wh,hn,Au⟩:=hu R hr.1 hv (ani q1) _ hg
                have hn1:bH (hp w) p R.k ((fI J rb).hdr r) (dY (fI J rb) R r)=some (cs,wh):=by rw [hSr.hdr,hSr.wh]; exact hn
                obtain ⟨fd,ok',fT,rest,pz,nG,hn',hpf,hd1,amt,_,yf,hwf,hgo⟩:=H1.place hr1 hv1 (own':=R.own) hg eZ (fun t h=>h) hown
                rw [hn1] at hn'
                simp only [ane,anp] at hn'
                obtain ⟨rfl,rfl⟩:=hn'
                have K1:=H1.roots r R hr1
                have hnd:=K1.nd
                rw [bX,nD] at hnd
                have Vk:=hpf.nodup hnd.2
                have Qd:∀b∈fT,b∈(fI J rb).fo r:=fun b hb=>hpf.mem_iff.2 (anj _ (anj _ hb))
                have Va:=(anl.1 (anl.1 Vk).1).1
                have CU:∀b∈fT,b<w.heap.size:=fun b hb=>(K1.mine b (by rw [bX,dX]; exact .inr (Qd b hb))).1
                have Zl:∀b∈fT,b∉J.fo rb++F:=fun b hb=>H1.iY r R hr1 b (by rw [bX,dX]; exact .inr (Qd b hb))
                have hhd:∃b n c,a.eval x=.slice b n c/\cs=[.slice b n c]:=by
                  have hO:=hd1
                  unfold Ow at hO
                  rw [aoi (hall e (by simp [K.tys]))] at hO
                  obtain ⟨b,n,c,e1,_⟩:=hO
                  have hV1:=Au.1
                  rw [e1] at hV1
                  simp only [apr,an9] at hV1
                  exact ⟨b,n,c,hV1.symm,e1⟩
                obtain ⟨b,n,cp,evx,rfl⟩:=hhd
                have hlen1 : @List.length (El kk) ys=1:=hy1
                have hOB:Ow (hp w) B.own (jc cx (au Z rb bT) (fI J rb) (J.fo rb++F) w B.tags) (.sl e kk) ys (J.hdr rb) (J.fo rb):=by
                  have h0:=hH.ow hcl
                  exact tC ekB eyB h0
                have ajq:VC (.sl e kk) (a.eval y) (J.hdr rb):=ekB▸hVB
                obtain ⟨news,hS,bC,hfl,Kn,afl,hE⟩:=Wd (P:=P) (u:=t2) (.inl ⟨_,ht2.sl.1⟩) ht.sl.2.1.eY ajq (UZ e (by simp [K.tys])) hOB hH.nd
                rw [hlen1] at hS
                have hnl:news.length=kk.size:=by simpa using hS.nl
                have aa5:0 < @List.length (El kk) ys:=by omega
                have hE0:=hE 0 aa5
                have hseg:mF news kk.size 0=news:=by
                  unfold mF
                  simp only [Nat.zero_mul,apf]
                  exact aoW (by omega)
                rw [hseg] at hE0
                generalize hfe:bC.getD 0 []=fe at hE0
                have XW:∀b∈fe,b∈J.fo rb:=fun b hb=>afl b (rz (by rw [hfe]; exact hb))
                have Zk:fe.Nodup:=by
                  have:bC=[fe]:=by
                    cases bC with
                    | nil=>simp [hlen1] at hfl
                    | cons f l=>cases l with
                      | nil=>simp at hfe; rw [hfe]
                      | cons _ _=>simp [hlen1] at hfl
                  rw [this] at Kn
                  simpa using Kn
                obtain ⟨w',b1,o1,c1',arr,lo,hi,hrun,hos,hsz,hnc,hnx,hblk1,afk,hsize,hcells,hoth,hcase⟩:=Rj (P:=P) (u:=t2) (ty:=o.type) (x:=a.eval y) ht hd1 (hall e (by simp [K.tys])) hS hbd
                obtain ⟨F',hF1,hF2,hF3,hF4⟩:∃F':List Nat,(∀b∈F',b∈J.fo rb++F\/(w.heap.size<=b/\b<w'.heap.size))/\F'.Nodup/\(∀b∈J.fo rb++F,b∈F')/\(b1=w.heap.size->w.heap.size<w'.heap.size->b1∈F'):=by
                  by_cases hs:w.heap.size<w'.heap.size
                  · refine ⟨w.heap.size :: (J.fo rb++F),fun b hb=>?_,anN.2 ⟨fun hm=>?_,H1.xK⟩,fun b hb=>anE _ hb,fun e _=>by rw [e]; exact anM⟩
                    · rcases anq.1 hb with h | h
                      · exact .inr ⟨by omega,by omega⟩
                      · exact .inl h
                    · have:=(H1.fl _ hm).1; omega
                  · exact ⟨J.fo rb++F,fun b hb=>.inl hb,H1.xK,fun b hb=>hb,fun _ h=>absurd h hs⟩
                have aaW:∀b∈fT,b∉F':=fun b hb hm=>by
                  rcases hF1 b hm with h | h
                  · exact Zl b hb h
                  · have:=CU b hb; omega
                have Vq:∀b',b'<w.heap.size->b'∉fT->hp w' b'=hp w b':=fun b' hlt hno=>hoth b' hlt (fun e=>by
                  rcases hcase with ⟨_,_,h,_⟩ | ⟨h,_⟩
                  · exact hno (e▸h)
                  · omega)
                have hP:rR cx (au Z rb bT) (fI J rb) (J.fo rb++F) w r R p ⟨.sl e kk,xs⟩ R.own [.slice b n cp] wh fT rest ⟨.sl e kk,xs⟩ z R.tags [e] (K.sl e kk).tys R.keep fT F' [.slice b n cp] w':=by
                  have hnt:=H1.dG r R hr1.1
                  refine ⟨hz,rfl,fun _ h=>h,hos,hsz,fun b' hlt hne'=>?_,fun b' o' e'=>?_,fun _=>rfl,rfl, .inl (by simp),⟨fun _ h=>h,hnt.1,hnt.2.2⟩,fun b' hb'=>.inl hb',Va,fun b' hb'=>(hF1 b' hb').imp id .inl,hF2,aaW, .inl rfl, .inl rfl,fun _ q c0 w0 hpq Sd hnq hqs=>?_,fun J' Tn hblk hval=>?_⟩
                  · refine .inr (.inl ?_)
                    by_cases e':b'=b1
                    · rcases hcase with ⟨_,_,h1,h2,_⟩ | ⟨h,_⟩
                      · exact ⟨e'▸h1,e,by simp,e'▸h2⟩
                      · omega
                    · exact absurd (hoth b' hlt e') hne'
                  · obtain ⟨m1,_,m2,⟨aiX,te,l0,h0,m3,_⟩,_⟩:=pV H1 hr1 hv1 hg eZ hown (by rw [hn1,e'])
                    have hlt:=(K1.mine b' m2).1
                    have hs:=Vq b' hlt (hwf b' o' e')
                    exact ⟨m1.congr hs,iE.of_same _ _ m3 hs⟩
                  · cases q with
                    | nil=>
                      simp only [bH,ane,anp] at hnq
                      exact ⟨trivial,[.slice b n cp],by simp only [bH]; rw [hnq.2]⟩
                    | cons s q=>
                      cases s with
                      | gu n=>exact hpq.elim
                      | idx i=>exact absurd (show e∈(K.sl e kk).tys by simp [K.tys]) (Sd e (by simp [ah])).2
                  · rcases hcase with ⟨hb,_,h1,h2,h3⟩ | ⟨hb,_⟩
                    · rw [hb] at hd1 ⊢
                      refine Q4 hall Va hd1 h1 h3 (fun b' hb' hne'=>hoth b' (CU b' hb') hne')
                    · exact gI (dH hall) (bE (ok:=fun _=>False) (ok':=fun _=>False) (fun _ h=>h.elim) (fun _ h=>h) (fun b' hb'=>hoth b' (CU b' hb') (fun e=>by have:=CU b' hb'; omega)) (gI (dH hall) hd1))
                obtain ⟨Bj,hR2,hT2,hb2,abe,Vb⟩:=hgo hP
                have OH:aY d 0≠r:=fun e=>by have:=hr.1; rw [<-e,hfr] at this; simp at this
                have hqB:aY d 0≠rb:=fun e=>by have:=hrB.1; rw [<-e,hfr] at this; simp at this
                have hq0:(au (au Z rb bT) r (bO R z R.own R.tags [e] (K.sl e kk).tys R.keep)).roots (aY d 0)=none:=by
                  rw [bP _ _ OH,bP _ _ hqB]; exact hfr
                obtain ⟨X3,Kk,aaY,aaZ,aa0,aa1⟩:∃(X3:Value) (Kk:List Nat),(∀b'∈Kk,b'∈F')/\Kk.Nodup/\
                    Ow (hp w') (e :: kk.tys) (fun _=>False) (Lr e kk) ((show List (El kk) from ys).getD 0 kk.zero,(([]:List Unit),())) (news++[X3]) Kk/\
                    ((b=some ⟨b1,o1,none⟩/\b1∈fT/\X3=.slice none 0 0/\cp=c1')\/(X3=.slice (some ⟨b1,o1,none⟩) 0 c1'/\b1∈Kk/\(0<n->∃b0 o0,b=some ⟨b0,o0,none⟩/\b0∈fT/\∀i,i<n * kk.size->cellAt (hp w') b1 (o1+i)=cellAt (hp w') b0 (o0+i)))):=by
                  have Zj:∀b'∈fe,b'<w.heap.size:=fun b' hb'=>(H1.fl b' (anj _ (XW b' hb'))).1
                  have afh:∀b'∈fe,b'∉fT:=fun b' hb' h=>Zl b' h (anj _ (XW b' hb'))
                  have hy0:(show List (El kk) from ys).getD 0 kk.zero=@getElem (List (El kk)) Nat (El kk) _ _ ys 0 aa5:=dh aa5
                  have hOe:Ow (hp w') (e :: kk.tys) (fun _=>False) kk ((show List (El kk) from ys).getD 0 kk.zero) news fe:=by
                    rw [hy0]
                    have h1:=gI (ok':=fun _=>False) (dH (fun t ht=>UZ t (by simp [K.tys,ht]))) hE0
                    have h2:=bE (h':=hp w') (ok':=fun _=>False) (fun _ h=>h.elim) (fun _ h=>h) (fun b' hb'=>Vq b' (Zj b' hb') (afh b' hb')) h1
                    exact qY (fun t ht=>by rw [aM.2 (anE _ ht),UZ t (by simp [K.tys,ht])]) h2
                  rcases hcase with ⟨hb,hcc,h1,h2,h3⟩ | ⟨hb,hlt,hcp⟩
                  · refine ⟨.slice none 0 0,fe,fun b' hb'=>hF3 b' (anj _ (XW b' hb')),Zk, ?_, .inl ⟨hb,h1,rfl,hcc⟩⟩
                    exact ⟨news,[.slice none 0 0],fe,[],rfl,by simp,hOe,[.slice none 0 0],[],[],[],rfl,by simp,zi,rfl,rfl⟩
                  · refine ⟨.slice (some ⟨b1,o1,none⟩) 0 c1',fe++[b1],fun b' hb'=>?_,anl.2 ⟨Zk,by simp,fun b' h1 b2 h2 e=>by
                        simp only [anz] at h2
                        subst h2
                        have:=Zj b' h1
                        omega⟩, ?_, .inr ⟨rfl,by simp,fun hn0=>?_⟩⟩
                    · rcases ann.1 hb' with h | h
                      · exact hF3 b' (anj _ (XW b' h))
                      · simp only [anz] at h
                        rw [h]
                        exact hF4 hb hlt
                    · refine ⟨news,[.slice (some ⟨b1,o1,none⟩) 0 c1'],fe,[b1],rfl, .refl _,hOe,[.slice (some ⟨b1,o1,none⟩) 0 c1'],[],[b1],[],rfl,by simp, ?_,rfl,rfl⟩
                      have hOs:Ow (hp w') (e :: kk.tys) (fun _=>False) (.sl e (.gap kk.size)) (show List (El (.gap kk.size)) from []) [.slice (some ⟨b1,o1,none⟩) 0 c1'] [b1]:=by
                        unfold Ow
                        rw [aoi (aM.2 anM)]
                        exact ⟨_,0,c1',rfl,rfl,anO _, .inr ⟨b1,o1,arr,lo,hi,rfl,hblk1,afk,hsize,[],rfl,by simp,fun i hi'=>absurd hi' (Nat.not_lt_zero _)⟩⟩
                      exact hOs
                    · obtain ⟨b0,o0,z1,z2,z3⟩:=hcp hn0
                      have hs0:hp w' b0=hp w b0:=hoth b0 (CU b0 z2) (fun e=>by have:=CU b0 z2; omega)
                      exact ⟨b0,o0,z1,z2,fun i hi'=>by rw [z3 i hi',mV hs0]⟩
                have hkq:(aK (Lr e kk) ((show List (El kk) from ys).getD 0 kk.zero,(([]:List Unit),())) (e :: kk.tys) [] .anon).kind=.anon:=rfl
                obtain ⟨A1,A2⟩:=IG (R':=aK (Lr e kk) ((show List (El kk) from ys).getD 0 kk.zero,(([]:List Unit),())) (e :: kk.tys) [] .anon) hR2 hq0 (fE d 0) rfl (by simp [aK]) (fun t ht=>by simp [aK] at ht) (0,0) (news++[X3]) Kk []
                  (fun b' hb'=>by rw [gD hkq] at hb'; exact ⟨aaY b' hb',by simp⟩) (by rw [gD hkq]; exact aaZ) (fun b' hb'=>by simp at hb') an4
                  (fun _=>bE (fun _ h=>h.elim) (fun _ h=>h.elim) (fun _ _=>rfl) aa0) (by simp [aK,K.size,hnl]) (fun b' o' hb'=>by rw [uY hkq] at hb'; simp at hb')
                have I9:(Builtin.append_ #[t,t2] o.type #[a.eval x,a.eval y]).run P w=.ok (.slice (some ⟨b1,o1,none⟩) (n+1) c1') w':=by rw [evx]; exact hrun
                refine iF (x:=.one (.app r p (gY (e :: R.w)+gY ((K.sl e kk).tys++R.h)) (aY d 0))) A1 hd hdn (ku ho hcb hxy hat Km I9) ?_ ?_
                · intro R2 aaN afL _ Q2 U0 _
                  rw [bP _ _ OH.symm,aI] at aaN
                  simp only [ane] at aaN
                  subst aaN
                  obtain ⟨rfl,_⟩:=eP U0
                  have hv2:bB (au (au Z rb bT) r (bO R z R.own R.tags [e] (K.sl e kk).tys R.keep)) (bO R z R.own R.tags [e] (K.sl e kk).tys R.keep):=by
                    refine ⟨afL.1, ?_⟩
                    have h0:=afL.2
                    rw [lF] at h0
                    · exact h0
                    · intro m hm
                      have hm':(aY d 0,m)∈R.tags:=hm
                      rcases (H.dG r R hr.1).1 _ hm' with h | ⟨Q,h1,_⟩
                      · simp only [fE] at h; simp at h
                      · simp only at h1; rw [hfr] at h1; simp at h1
                  have yH:=abe c5 hv2
                  have hd2:(aG Bj (aY d 0) (0,0) (news++[X3]) Kk).hdr r=Bj.hdr r:=upd_ne _ _ OH.symm
                  have hw2:dY (aG Bj (aY d 0) (0,0) (news++[X3]) Kk) (bO R z R.own R.tags [e] (K.sl e kk).tys R.keep) r=dY Bj (bO R z R.own R.tags [e] (K.sl e kk).tys R.keep) r:=by
                    unfold dY; simp [aG,upd_ne _ _ OH.symm]
                  have hf2:(aG Bj (aY d 0) (0,0) (news++[X3]) Kk).fo r=Bj.fo r:=upd_ne _ _ OH.symm
                  obtain ⟨g1,g2,g3,g4⟩:=I1 (h:=hp w') p c4 hg hz rfl
                  refine ⟨e,kk,xs,wh,b,n,cp,news,X3,b1,o1,c1',arr,lo,hi,g1,g2,fun t ht=>?_,by rw [hd2,hw2]; exact yH,⟨rfl,rfl⟩,by simp [aG,upd_same],hnl,rfl,hnc,hblk1,afk,hsize,hcells, ?_⟩
                  · have ht':t∈ah p z.1:=ht
                    rw [g3] at ht'
                    simp at ht'
                  · rcases aa1 with ⟨z1,z2,z3⟩ | ⟨z1,z2,z3⟩
                    · exact .inl ⟨z1,by rw [hf2]; exact Vb b1 z2,z3⟩
                    · refine .inr ⟨z1,by simp only [aG,upd_same]; exact z2,fun hn0=>?_⟩
                      obtain ⟨b0,o0,y1,y2,y3⟩:=z3 hn0
                      exact ⟨b0,o0,y1,by rw [hf2]; exact Vb b0 y2,y3⟩
                · refine ⟨⟨bO R z R.own R.tags [e] (K.sl e kk).tys R.keep, ?_, .inr (anv _)⟩,_,aI ..⟩
                  rw [bP _ _ OH.symm,aI]
        · exact h7.elim
    · exact h5.elim
  · exact h.elim
end
section
variable {P:Program} {T:jh} {cx:Cx} {Z:St} {J:dP} {F:List Nat} {a:Act} {w:World} {o:Oper} {d:Nat} {ws:List Wr} {r:Nat} {R:Root}
theorem J9 (hT:eG P T) (H:Rel cx Z J F a w) (hd:o.dst=none) {t:TypeId} {x y:Operand} (ho:o.op=.store t x y) {u:AV} {r n q:Nat} {p:List Stp} {k0:K} (hk0:T.ty t=some k0) (h1:bN cx Z J F w u (a.eval x)) (h2:qM Z u) (h3:bN cx Z J F w (.app r p n q) (a.eval y))
    (h:(CF k0 u r p n q fun ws=>(.ret ws:Prog (List Wr))).ends Z ws):pY P cx o a w (aB ws Z):=by
  have ht:=hT.ty t k0 hk0
  cases k0 with
  | sl e kk=>
    cases u with
    | ptr r' p' h0=>
      simp only [CF] at h
      rcases ay h with ⟨hc,h5⟩ | ⟨_,h5⟩
      · clear h
        simp only [ank,an7] at hc
        obtain ⟨⟨⟨c1,c2⟩,c3⟩,c4⟩:=hc
        have hne:r≠q:=fun e=>by rw [e] at c4; simp at c4
        have er:=ani c1
        have Qe:p'.all Stp.lJ=true:=De c2 c3
        have ep:=BN c2 (by rw [uV c3,uV Qe])
        subst er ep
        obtain ⟨Q,Nn,Kr,h6⟩:=bU h5
        rcases ay h6 with ⟨R4,h7⟩ | ⟨_,h7⟩
        · clear h5 h6
          simp only [ank] at R4
          have U1:=jw R4.2
          cases Av:bQ Q.k (Lr e kk) Q.x with
          | none=>rw [Av] at h7; exact h7.elim
          | some yq=>
            rw [Av] at h7
            simp only at h7
            obtain ⟨R,hr,hv,h8⟩:=bU h7
            rcases ay h8 with ⟨hcR,h9⟩ | ⟨_,h9⟩
            · clear h7 h8
              simp only [ank] at hcR
              obtain ⟨⟨⟨⟨d1,d2⟩,d3⟩,d4⟩,d5⟩:=hcR
              have hall:=jw d4
              cases hg:aR p R.k R.x with
              | none=>rw [hg] at h9; exact h9.elim
              | some dd=>
                rw [hg] at h9
                simp only at h9
                cases hck:bQ dd.1 (.sl e kk) dd.2 with
                | none=>rw [hck] at h9; exact h9.elim
                | some xs=>
                  rw [hck] at h9
                  simp only at h9
                  obtain ⟨ek,ey⟩:=bF hck
                  obtain ⟨dk,dx⟩:=dd
                  simp only at ek ey
                  subst ek
                  simp only at ey
                  subst ey
                  cases hz:eF p R.k R.x ⟨.sl e kk,(show List (El kk) from xs)++[(show El kk from yq.1)]⟩ with
                  | none=>rw [hz] at h9; exact h9.elim
                  | some z=>
                    rw [hz] at h9
                    rw [aD h9]
                    obtain ⟨e',kk',xs',wh,b,n',c,ce,hq,b1,o1,cc,arr,lo,hi,a1,a2,a3,a4,⟨a5,akd⟩,a6,a7,a8,a9,a10,Uo,a12,a13,a14⟩:=h3 R hr.1 hv (ani d1) Q Nn (ani R4.1)
                    rw [hg] at a1
                    simp only [ane,Sigma.mk.injEq,K.sl.injEq] at a1
                    obtain ⟨⟨rfl,rfl⟩,a1⟩:=a1
                    have a1:=eq_of_heq a1
                    subst a1
                    obtain ⟨H1,T1,hH,hcl⟩:=kill H Nn akd Kr
                    have hSr:Same Z J (au Z q bT) (fI J q) r:=gV hne
                    have hr1:=(hSr.live R).2 hr
                    have Sd:∀m,(q,m)∉R.tags:=fun m hm=>by
                      have:=anu.1 d5 _ hm
                      simp at this
                    have hv1:bB (au Z q bT) R:=⟨hv.1,by rw [lF Sd]; exact hv.2⟩
                    obtain ⟨_,cs,bA,oA,hn2,eA⟩:=h1.2 R hr.1 hv d3 a3 (by rw [hg]; rfl)
                    rw [a4] at hn2
                    simp only [ane,anp] at hn2
                    obtain ⟨rfl,rfl⟩:=hn2
                    have hn1:bH (hp w) p R.k ((fI J q).hdr r) (dY (fI J q) R r)=some ([.slice b n' c],some (bA,oA)):=by rw [hSr.hdr,hSr.wh]; exact a4
                    obtain ⟨Zb,eyQ⟩:=bF Av
                    have Il:Ow (hp w) Q.own (jc cx (au Z q bT) (fI J q) (J.fo q++F) w Q.tags) (Lr e kk) yq (ce++[hq]) (J.fo q):=by
                      have h0:=tC Zb eyQ (hH.ow hcl)
                      rw [a6] at h0
                      exact h0
                    obtain ⟨c1',c2',f1,f2,ec,hpq,R3,hO2⟩:=Il
                    have hlc:=cZ R3
                    have hcc:=List.append_inj ec (by rw [a7,hlc])
                    obtain ⟨rfl,rfl⟩:=hcc
                    obtain ⟨c3',c4',f3,f4,ec2,aj2,hO3,hO4⟩:=hO2
                    have hpn:=hpq.nodup hH.nd
                    have afz:=anl.1 hpn
                    have aaU:∀b'∈f1,b'∈J.fo q:=fun b' hb'=>hpq.mem_iff.2 (anj _ hb')
                    have ajl:Ow (hp w) R.own (fun _=>False) kk yq.1 ce f1:=qY (fun t ht=>by rw [hall t (by simp [K.tys,ht]),U1 t (anE _ ht)]) (gI (dH (fun t ht=>U1 t (anE _ ht))) R3)
                    have ae5:b1∉f1\/b1∈J.fo r:=by
                      rcases a14 with ⟨_,z2,_⟩ | ⟨z1,z2,_⟩
                      · exact .inr z2
                      · refine .inl fun hm=>?_
                        have hlen3:=cZ hO3
                        have hc3:c3'=[hq]/\c4'=[]:=by
                          cases c3' with
                          | nil=>simp [K.size] at hlen3
                          | cons a l=>
                            simp only [anW,apr] at ec2
                            obtain ⟨rfl,h⟩:=ec2
                            have:=List.append_eq_nil_iff.1 h.symm
                            rw [this.1,this.2]
                            exact ⟨rfl,rfl⟩
                        rw [hc3.1,z1] at hO3
                        unfold Ow at hO3
                        rw [aoi (U1 e anM)] at hO3
                        obtain ⟨a',m',cm,g1,_,_,g4⟩:=hO3
                        simp only [apr,apM,an9] at g1
                        obtain ⟨rfl,rfl,rfl⟩:=g1
                        rcases g4 with ⟨g4,_⟩ | ⟨bb,q',_,_,_,g5,_,_,_,bC,_,g6,_⟩
                        · omega
                        · simp only [ane,an8,an9] at g5
                          obtain ⟨rfl,rfl⟩:=g5
                          exact afz.2.2 b1 hm b1 (aj2.mem_iff.2 (anj _ (g6.mem_iff.2 anM))) rfl
                    have Mg:∀b'∈(fI J q).fo r,b'∉J.fo q++F:=fun b' hb'=>H1.iY r R hr1 b' (by rw [bX,dX]; exact .inr hb')
                    obtain ⟨w',r1,J',F',r2⟩:=GZ (P:=P) ht H1 hr1 hv1 hg hz a2 a3 hall hn1 (v:=.slice (some ⟨b1,o1,none⟩) (n'+1) cc) ⟨_,_,_,rfl⟩ (lw:=[eO R p,e]) (by simp) (fun fT ok hO hnd hsub=>by
                      have he:az e R.own=true:=hall e (by simp [K.tys])
                      unfold Ow at hO
                      rw [aoi he] at hO
                      obtain ⟨a0,n2,c2,e1,e2,e3,hO⟩:=hO
                      simp only [apr,apM,an9] at e1
                      obtain ⟨rfl,rfl,rfl⟩:=e1
                      have e2:n'=@List.length (El kk) xs:=e2
                      obtain ⟨bC,hfl,hfs,hfn,hfe⟩:∃bC:List (List Nat),bC.length=@List.length (El kk) xs/\(∀b'∈bC.flatten,b'∈fT/\b'≠b1)/\bC.flatten.Nodup/\∀(i:Nat) (hi:i < @List.length (El kk) xs),∃ds,Cells (hp w) b1 (o1+i * kk.size) ds/\Ow (hp w) R.own ok kk (@getElem (List (El kk)) Nat (El kk) _ _ xs i hi) ds (bC.getD i []):=by
                        rcases hO with ⟨hc0,hf0⟩ | ⟨bb,q',kJ,lo',hi',ea,hbk,hfz,hs,bC,hl,hp0,hO⟩
                        · have hx0 : @List.length (El kk) xs=0:=by omega
                          exact ⟨[],by simp [hx0],by simp,by simp,fun i hi=>by omega⟩
                        · have pQ:=hp0.nodup hnd
                          have amr:bb∈(fI J q).fo r:=hsub bb (hp0.mem_iff.2 anM)
                          refine ⟨bC,hl,fun b' hb'=>⟨hp0.mem_iff.2 (anE _ hb'),fun eb=>?_⟩,(anN.1 pQ).2,fun i hi=>?_⟩
                          · subst eb
                            rcases a14 with ⟨z1,_,_⟩ | ⟨_,z2,_⟩
                            · rw [z1] at ea
                              simp only [ane,an8,an9] at ea
                              rw [ea.1] at hb'
                              exact (anN.1 pQ).1 hb'
                            · exact Mg b' (hsub b' (hp0.mem_iff.2 (anE _ hb'))) (anj _ z2)
                          · obtain ⟨ds,g1,g2⟩:=hO i hi
                            refine ⟨ds, ?_,g2⟩
                            rcases a14 with ⟨z1,_,_⟩ | ⟨_,_,z3⟩
                            · rw [z1] at ea
                              simp only [ane,an8,an9] at ea
                              rw [ea.1,ea.2]
                              exact g1
                            · obtain ⟨b0,o0,y1,_,y3⟩:=z3 (by omega)
                              rw [y1] at ea
                              simp only [ane,an8,an9] at ea
                              obtain ⟨rfl,rfl⟩:=ea
                              have hdl:=cZ g2
                              intro j hj
                              rw [<-g1 j hj,aoK,y3 (i * kk.size+j) (by
                                have hb2:(i+1) * kk.size<=n' * kk.size:=anL _ (by omega)
                                rw [aoO,aoP] at hb2
                                omega), <-aoK]
                      have ae6:b1∉f1:=by
                        rcases ae5 with h | h
                        · exact h
                        · intro hm
                          exact Mg b1 (by rw [hSr.fo]; exact h) (anj _ (aaU b1 hm))
                      refine ⟨b1 :: (bC.flatten++f1),anN.2 ⟨fun hm=>?_,anl.2 ⟨hfn,afz.1,fun b' h1' b2 h2' eb=>?_⟩⟩,fun b' hb'=>?_, ?_⟩
                      · rcases ann.1 hm with h | h
                        · exact (hfs b1 h).2 rfl
                        · exact ae6 h
                      · subst eb
                        exact Mg b' (hsub b' (hfs b' h1').1) (anj _ (aaU b' h2'))
                      · rcases anq.1 hb' with h | h
                        · subst h
                          rcases a14 with ⟨z1,_,_,z4⟩ | ⟨_,z2,_⟩
                          · refine .inl ?_
                            rcases hO with ⟨hc0,_⟩ | ⟨bb,q',_,_,_,ea,_,_,_,_,_,hp0,_⟩
                            · omega
                            · rw [z1] at ea
                              simp only [ane,an8,an9] at ea
                              rw [ea.1]
                              exact hp0.mem_iff.2 anM
                          · exact .inr (anj _ z2)
                        · rcases ann.1 h with h | h
                          · exact .inl (hfs b' h).1
                          · exact .inr (anj _ (aaU b' h))
                      · have hOO:Ow (hp w) R.own (fun _=>False) (.sl e kk) (show List (El kk) from (show List (El kk) from xs)++[(show El kk from yq.1)]) [.slice (some ⟨b1,o1,none⟩) (n'+1) cc] (b1 :: (bC.flatten++f1)):=by
                          unfold Ow
                          rw [aoi he]
                          have hlen:(@HAppend.hAppend (List (El kk)) (List (El kk)) (List (El kk)) _ xs [yq.1]).length=n'+1:=by rw [anm,e2]; rfl
                          refine ⟨_,n'+1,cc,rfl,hlen.symm,a9, .inr ⟨b1,o1,arr,lo,hi,rfl,a10,Uo,a12,bC++[f1],by show (bC++[f1]).length=_; rw [anm,hfl,hlen,e2]; rfl,by simp,fun i hi'=>?_⟩⟩
                          have hi2:i<(@HAppend.hAppend (List (El kk)) (List (El kk)) (List (El kk)) _ xs [yq.1]).length:=hi'
                          rw [hlen] at hi2
                          rw [BF]
                          by_cases hi0:i < @List.length (El kk) xs
                          · obtain ⟨ds,g1,g2⟩:=hfe i hi0
                            rw [aoi (by rw [hfl]; exact hi0)]
                            have hx:(show List (El kk) from (show List (El kk) from xs)++[(show El kk from yq.1)])[i]'hi'=@getElem (List (El kk)) Nat (El kk) _ _ xs i hi0:=apz hi0
                            rw [hx]
                            exact ⟨ds,g1,gI (dH (fun t ht=>hall t (by simp [K.tys,ht]))) g2⟩
                          · have hin:i=n':=by omega
                            rw [aok (by rw [hfl]; exact hi0)]
                            have hx:(show List (El kk) from (show List (El kk) from xs)++[(show El kk from yq.1)])[i]'hi'=yq.1:=by
                              have:=@apA (El kk) xs [yq.1] i (by omega) hi'
                              refine this.trans ?_
                              simp
                            rw [hx]
                            have afG:i - bC.length=0:=by omega
                            rw [afG]
                            exact ⟨ce,by rw [hin]; exact a13,ajl⟩
                        exact hOO)
                    refine ⟨undef,w',J',F', .inr ⟨?_,rfl⟩, ?_⟩
                    · simp only [execOp,ho,eA,a8,anF,r1,anx,anK]
                    · rw [hd]
                      exact r2
            · exact h9.elim
        · exact h7.elim
      · exact h5.elim
    | _=>exact h.elim
  | _=>exact h.elim
end
section
variable {P:Program} {T:jh} {cx:Cx} {Z:St} {J:dP} {F:List Nat} {a:Act} {w:World} {o:Oper} {d:Nat} {ws:List Wr} {r:Nat} {R:Root}
theorem SI {h h':Heap}:∀{p:List Stp} {k:K} {cs:List Value} {wh:Option (Nat×Nat)},p.all Stp.lJ=true->bH h' p k cs wh=bH h p k cs wh:=by
  intro p
  induction p with
  | nil=>intro k cs wh _; rfl
  | cons s p ih=>
    intro k cs wh hp
    cases s with
    | idx i=>simp [Stp.lJ] at hp
    | gu n=>
      have hp':p.all Stp.lJ=true:=by simpa [Stp.lJ] using hp
      cases k with
      | st c=>
        simp only [bH]
        cases bG n c with
        | none=>rfl
        | some q=>exact ih hp'
      | _=>rfl
theorem NJ {t u ty e:TypeId} {kk:K} (ht:fM P T t (.sl e kk)) {b:Option Addr} {n c m:Nat} {x:Value} {news:List Value} (hnc:n<=c)
    (hrow:c=0\/∃bb q arr lo hi,b=some ⟨bb,q,none⟩/\hp w bb=some (.cells arr e (lo,hi))/\zY arr.size lo hi/\q+c * kk.size<=arr.size) (hS:Src P w kk.size u x m news) (hb:(n+m) * T.bytes e<=140737488355328) :
    ∃w' b1 c1,(Builtin.append_ #[t,u] ty #[.slice b n c,x]).run P w=.ok (.slice b1 (n+m) c1) w'/\(w'.os=w.os/\w'.tape=w.tape/\w'.output=w.output)/\w.heap.size<=w'.heap.size/\n+m<=c1/\
      (c1=0\/∃bb o1 arr lo hi,b1=some ⟨bb,o1,none⟩/\hp w' bb=some (.cells arr e (lo,hi))/\zY arr.size lo hi/\o1+c1 * kk.size<=arr.size/\Cells (hp w') bb (o1+n * kk.size) news/\
        (∀i,i<n * kk.size->∃b0 o0,b=some ⟨b0,o0,none⟩/\cellAt (hp w') bb (o1+i)=cellAt (hp w) b0 (o0+i))/\((c≠0/\b=some ⟨bb,o1,none⟩)\/(bb=w.heap.size/\w.heap.size<w'.heap.size)))/\
      (∀b',b'<w.heap.size->(c=0\/∀o',b≠some ⟨b',o',none⟩)->hp w' b'=hp w b'):=by
  have hnl:=hS.nl
  by_cases hr:n+m<=c
  · have hrun:=tH (ty:=ty) ht hS (b:=b) (n:=n) hr
    rcases (show c=0\/(c≠0/\∃bb q arr lo hi,b=some ⟨bb,q,none⟩/\hp w bb=some (.cells arr e (lo,hi))/\zY arr.size lo hi/\q+c * kk.size<=arr.size) from by
      by_cases h:c=0
      · exact .inl h
      · exact .inr ⟨h,hrow.resolve_left h⟩) with hc0 | ⟨hc0,bb,q,arr,lo,hi,eb,hbk,hf,hs⟩
    · have hm0:m=0:=by omega
      have hn0:n=0:=by omega
      subst hm0 hn0
      have hnn:news=[]:=aom (by rw [hnl]; simp)
      subst hnn
      refine ⟨w,b,c, ?_,⟨rfl,rfl,rfl⟩,anv _,hr, .inl hc0,fun _ _ _=>rfl⟩
      rw [hrun]
      cases b with
      | none=>rfl
      | some ad=>simp [storeCells,Result.andThen]
    · subst eb
      have hle:(n+m) * kk.size<=c * kk.size:=anL _ hr
      rw [aoO] at hle
      have hst:=kC (P:=P) (o:=q+n * kk.size) news hbk hf (by rw [hnl]; omega) hS.one
      simp only [Result.andThen,addr_add,hst] at hrun
      obtain ⟨s1,s2,kJ,s3,s4,s5,s6⟩:=qF bb news w arr e (lo,hi) (q+n * kk.size) hbk (by rw [hnl]; omega)
      refine ⟨_,_,c,hrun,nK bb news w _,by omega,hr, .inr ⟨bb,q,kJ,lo,hi,rfl,s3,by rw [s4]; exact hf,by rw [s4]; exact hs,fun i hi'=>?_,fun i hi'=>⟨bb,q,rfl, ?_⟩, .inl ⟨hc0,rfl⟩⟩,fun b' _ h=>s1 b' (fun e=>(h.resolve_left hc0) q (by rw [e]))⟩
      · unfold cellAt
        rw [s3]
        exact s5 i hi'
      · unfold cellAt
        rw [s3,hbk]
        exact s6 (q+i) (by omega)
  · obtain ⟨olds,ho1,ho2,ho3⟩:∃olds:List Value,olds.length=n * kk.size/\(Builtin.firstCells kk.size n (.slice b n c)).run P w.drew=.ok olds.toArray w.drew/\∀i,i<n * kk.size->∃b0 o0,b=some ⟨b0,o0,none⟩/\olds[i]?=cellAt (hp w) b0 (o0+i):=by
      rcases hrow with hc0 | ⟨bb,q,arr,lo,hi,ea,hbk,hf,hs⟩
      · have hn0:n=0:=by omega
        subst hn0
        refine ⟨[],by simp, ?_,fun i h=>by simp at h⟩
        cases b with
        | none=>exact apB w.drew kk.size 0 0 c
        | some ad=>exact apC (P:=P) w.drew kk.size 0 ad 0 c [] (by simp) (fun j v hj=>by simp at hj)
      · subst ea
        have hle:n * kk.size<=c * kk.size:=anL _ hnc
        have hrow:=wX (n:=n * kk.size) hbk (by omega:q+n * kk.size<=arr.size)
        have hrl:(nL (hp w) bb q (n * kk.size)).length=n * kk.size:=by simp [nL]
        refine ⟨nL (hp w) bb q (n * kk.size),hrl, ?_,fun i hi'=>⟨bb,q,rfl,(hrow i (by rw [hrl]; exact hi')).symm⟩⟩
        refine apC (P:=P) w.drew kk.size n ⟨bb,q,none⟩ n c _ hrl (fun j v hj=>?_)
        rw [addr_add,wu]
        have:=hrow j (by rw [hrl]; have:=(anZ.1 hj).1; rw [hrl] at this; exact this)
        rw [hj] at this
        exact this
    obtain ⟨nc,hnc',hrun⟩:=vQ (ty:=ty) ht hS ho2 hr hb
    have hnew:=o9 w.drew (.cells (olds.toArray++news.toArray++Builtin.zeroCells (pG kk).cells (nc - (n+m))) e)
    have hold:∀b',b'<w.heap.size->hp (w.drew.alloc (.cells (olds.toArray++news.toArray++Builtin.zeroCells (pG kk).cells (nc - (n+m))) e)) b'=hp w b':=fun b' h=>mW w.drew _ h
    have hws:w.drew.heap.size=w.heap.size:=rfl
    rw [hws] at hnew
    have hsz2:(w.drew.alloc (.cells (olds.toArray++news.toArray++Builtin.zeroCells (pG kk).cells (nc - (n+m))) e)).heap.size=w.heap.size+1:=Array.size_push ..
    have hzl:(pG kk).cells.size=kk.size:=by
      rw [sJ ht.sl.2.1.shape]
      simpa using cZ (vU (h:=hp w) (own:=[]) (ok:=fun _=>True) ht.sl.2.1.eY)
    have hcell:∀q,q<(olds++news).length->cellAt (hp (w.drew.alloc (.cells (olds.toArray++news.toArray++Builtin.zeroCells (pG kk).cells (nc - (n+m))) e))) w.heap.size (0+q)=(olds++news)[q]?:=by
      intro q hq
      unfold cellAt
      rw [hnew]
      simp only [anY]
      rw [apF (by simpa using hq)]
      simp
    refine ⟨_,_,nc,hrun,⟨rfl,rfl,rfl⟩,by omega,hnc', .inr ⟨w.heap.size,0,_,0,0,rfl,hnew,zY.zero, ?_,fun i hi=>?_,fun i hi=>?_, .inr ⟨rfl,by omega⟩⟩,fun b' h1 _=>hold b' h1⟩
    · simp only [Array.size_append,apE,size_zeroCells,hzl,ho1,hnl]
      have h9:n * kk.size+m * kk.size+(nc - (n+m)) * kk.size=(n+m+(nc - (n+m))) * kk.size:=by rw [aoO,aoO]
      rw [h9]
      have:n+m+(nc - (n+m))=nc:=by omega
      rw [this]
      omega
    · rw [aoK,hcell _ (by rw [anm,ho1]; omega),aoJ (by omega),ho1]
      congr 1
      omega
    · obtain ⟨b0,o0,z1,z3⟩:=ho3 i hi
      refine ⟨b0,o0,z1, ?_⟩
      rw [hcell _ (by rw [anm,ho1]; omega),aoI (by rw [ho1]; exact hi)]
      exact z3
theorem M6 (H:Rel cx Z J F a w) (hd:o.dst=some d) (hdn:d<cx.nt) {c:Call} (ho:o.op=.call c) (hcb:c.callee=.builtin .append) {x y:Operand} (hxy:c.args.toList=[x,y]) {t t2 e:TypeId} (hat:c.argTypes[0]?=some t) (Km:c.argTypes[1]?=some t2)
    {kk:K} (ht:fM P T t (.sl e kk)) {p:List Stp} {xs:List (El kk)} {n q:Nat} {Q:Root} (hr:aQ Z r R) (CY:R.qJ=n) (hne:r≠q) (Nn:aQ Z q Q) (Kr:bB Z Q) (hkQ:Q.kind=.anon) (hfl:p.all Stp.lJ=true)
    (hg:aR p R.k R.x=some ⟨.sl e kk,xs⟩) (eZ:mG p R.k R.x) (hown:∀t∈ah p R.k,az t R.own=true) {b:Option Addr} {m cp:Nat} {wh:Option (Nat×Nat)} (hn:bH (hp w) p R.k (J.hdr r) (dY J R r)=some ([.slice b m cp],wh)) (hm:m=xs.length)
    {bx:Option Addr} {a0 RA:Nat} (hx:a.eval x=.slice bx a0 RA) (hxc:a0<=RA)
    (hrow:RA=0\/∃bb q' arr l u,bx=some ⟨bb,q',none⟩/\hp w bb=some (.cells arr e (l,u))/\zY arr.size l u/\q'+RA * kk.size<=arr.size/\bb∈J.fo q)
    (hold:0<a0->∃bb q' b0 o0,bx=some ⟨bb,q',none⟩/\b=some ⟨b0,o0,none⟩/\b0∈J.fo r/\∀j i,j<a0->i<kk.size->cellAt (hp w) bb (q'+(j * kk.size+i))=cellAt (hp w) b0 (o0+(j * kk.size+i)))
    {lo hi:Nat} {news:List Value} (hS:Src P w kk.size t2 (a.eval y) (hi - lo) news)
    (hsc:∀i,i<hi - lo->∃b0 o0,b=some ⟨b0,o0,none⟩/\b0∈J.fo r/\Cells (hp w) b0 (o0+(lo+i) * kk.size) (mF news kk.size i))
    (hbd:(a0+(hi - lo)) * T.bytes e<=140737488355328) (hfr:Z.roots (aY d 0)=none) {A B:Nat} (hAB:A<=B/\B<=m/\a0+(hi - lo)=A+(m - B)) (hidx:∀j,j<a0+(hi - lo)->(if j<A then j else B+(j - A))=(if j<a0 then j else lo+(j - a0))) :
    pY P cx o a w (aB [.r q none, .r (aY d 0) (some (aK (.sl e (.gap kk.size)) (List.replicate (a0+(hi - lo)) ()) [e] [] .anon)), .s d (.one (.sel r p n (aY d 0) A B))] Z):=by
  obtain ⟨H1,T1,hH,_⟩:=kill H Nn hkQ Kr
  have hSr:Same Z J (au Z q bT) (fI J q) r:=gV hne
  have hr1:=(hSr.live R).2 hr
  have aj7:∀b∈J.fo r,b<w.heap.size:=fun b hb=>((H.roots r R hr).mine b (by rw [bX,dX]; exact .inr hb)).1
  have hrF:∀b∈J.fo r,b∉J.fo q++F:=fun b hb=>H1.iY r R hr1 b (by rw [bX,dX,hSr.fo]; exact .inr hb)
  obtain ⟨w',b1,c1,hrun,hos,hsz,hnc,hres,hoth⟩:=NJ (P:=P) (u:=t2) (ty:=o.type) (x:=a.eval y) ht (b:=bx) (n:=a0) (c:=RA) hxc (by
    rcases hrow with h | ⟨bb,q',arr,l,u,h1,h2,h3,h4,_⟩
    · exact .inl h
    · exact .inr ⟨bb,q',arr,l,u,h1,h2,h3,h4⟩) hS hbd
  have ae9:∀b' o',bx=some ⟨b',o',none⟩->RA≠0->b'∈J.fo q:=fun b' o' e' h0=>by
    rcases hrow with h | ⟨bb,q',arr,l,u,h1,_,_,_,h5⟩
    · exact absurd h h0
    · rw [h1] at e'
      simp only [ane,an8,an9] at e'
      rw [<-e'.1]; exact h5
  have BH:∀b',b'<w.heap.size->hp w' b'≠hp w b'->b'∈J.fo q++F:=by
    intro b' hlt hne'
    by_cases h0:RA=0
    · exact absurd (hoth b' hlt (.inl h0)) hne'
    · by_cases he:∃o',bx=some ⟨b',o',none⟩
      · obtain ⟨o',he⟩:=he
        exact anj _ (ae9 b' o' he h0)
      · exact absurd (hoth b' hlt (.inr fun o' he'=>he ⟨o',he'⟩)) hne'
  obtain ⟨F2,hF1,hF2,hF3,hF4⟩:∃F2:List Nat,(∀b∈F2,b∈J.fo q++F\/(w.heap.size<=b/\b<w'.heap.size))/\F2.Nodup/\(∀b∈J.fo q++F,b∈F2)/\(w.heap.size<w'.heap.size->w.heap.size∈F2):=by
    by_cases hs:w.heap.size<w'.heap.size
    · refine ⟨w.heap.size :: (J.fo q++F),fun b hb=>?_,anN.2 ⟨fun hm=>?_,H1.xK⟩,fun b hb=>anE _ hb,fun _=>anM⟩
      · rcases anq.1 hb with h | h
        · exact .inr ⟨by omega,by omega⟩
        · exact .inl h
      · have:=(H1.fl _ hm).1; omega
    · exact ⟨J.fo q++F,fun b hb=>.inl hb,H1.xK,fun b hb=>hb,fun h=>absurd h hs⟩
  have T2:=zM (w':=w') (F':=F2) H1 hos hsz BH hF1 hF2
  have H2:=H1.mem T2
  have OH:aY d 0≠r:=fun e=>by have:=hr.1; rw [<-e,hfr] at this; simp at this
  have hqq:aY d 0≠q:=fun e=>by have:=Nn.1; rw [<-e,hfr] at this; simp at this
  have hq0:(au Z q bT).roots (aY d 0)=none:=by rw [bP _ _ hqq]; exact hfr
  have hsame:∀b∈J.fo r,hp w' b=hp w b:=fun b hb=>anC fun h=>hrF b hb (BH b (aj7 b hb) h)
  obtain ⟨Kk,aaY,aaZ,aa0,aa1⟩:∃Kk:List Nat,(∀b'∈Kk,b'∈F2)/\Kk.Nodup/\
      Ow (hp w') [e] (fun _=>False) (.sl e (.gap kk.size)) (show List (El (.gap kk.size)) from List.replicate (a0+(hi - lo)) ()) [.slice b1 (a0+(hi - lo)) c1] Kk/\
      (c1≠0->∀bb o1,b1=some ⟨bb,o1,none⟩->bb∈Kk):=by
    rcases hres with h0 | ⟨bb,o1,arr,l,u,h1,h2,h3,h4,h5,h6,h7⟩
    · refine ⟨[],by simp,an4, ?_,fun h=>absurd h0 h⟩
      unfold Ow
      rw [aoi (aM.2 (by simp))]
      exact ⟨b1,_,c1,rfl,by show _=(List.replicate _ ()).length; simp,hnc, .inl ⟨h0,rfl⟩⟩
    · by_cases hc1:c1=0
      · refine ⟨[],by simp,an4, ?_,fun h=>absurd hc1 h⟩
        unfold Ow
        rw [aoi (aM.2 (by simp))]
        exact ⟨b1,_,c1,rfl,by show _=(List.replicate _ ()).length; simp,hnc, .inl ⟨hc1,rfl⟩⟩
      · have ajv:bb∈F2:=by
          rcases h7 with ⟨h0,h7⟩ | ⟨h7,h8⟩
          · exact hF3 _ (anj _ (ae9 bb o1 h7 h0))
          · rw [h7]; exact hF4 h8
        refine ⟨[bb],by simpa using ajv,by simp, ?_,fun _ bb' o' e'=>by rw [h1] at e'; simp only [ane,an8,an9] at e'; simp [e'.1]⟩
        unfold Ow
        rw [aoi (aM.2 (by simp))]
        refine ⟨b1,_,c1,rfl,by show _=(List.replicate _ ()).length; simp,hnc, .inr ⟨bb,o1,arr,l,u,h1,h2,h3,h4,List.replicate (a0+(hi - lo)) [],by show (List.replicate _ _).length=(List.replicate _ ()).length; simp,by simp,fun i hi'=>?_⟩⟩
        have hi2:i<a0+(hi - lo):=by
          have h9:i<(List.replicate (a0+(hi - lo)) ()).length:=hi'
          simpa using h9
        have hle:(i+1) * kk.size<=c1 * kk.size:=anL _ (by omega)
        rw [aoO,aoP] at hle
        have hgs:(K.gap kk.size).size=kk.size:=rfl
        rw [hgs]
        refine ⟨nL (hp w') bb (o1+i * kk.size) kk.size,wX h2 (by omega), ?_⟩
        show Ow (hp w') [e] (fun _=>False) (.gap kk.size) () _ _
        exact ⟨by rw [F8],by simp [nL]⟩
  have hkq:(aK (.sl e (.gap kk.size)) (show List (El (.gap kk.size)) from List.replicate (a0+(hi - lo)) ()) [e] [] .anon).kind=.anon:=rfl
  obtain ⟨A1,A2⟩:=IG (R':=aK (.sl e (.gap kk.size)) (show List (El (.gap kk.size)) from List.replicate (a0+(hi - lo)) ()) [e] [] .anon) H2 hq0 (fE d 0) rfl (by simp [aK]) (fun t ht=>by simp [aK] at ht) (0,0) [.slice b1 (a0+(hi - lo)) c1] Kk []
    (fun b' hb'=>by rw [gD hkq] at hb'; exact ⟨aaY b' hb',by simp⟩) (by rw [gD hkq]; exact aaZ) (fun b' hb'=>by simp at hb') an4
    (fun _=>bE (fun _ h=>h.elim) (fun _ h=>h.elim) (fun _ _=>rfl) aa0) rfl (fun b' o' hb'=>by rw [uY hkq] at hb'; simp at hb')
  have I9:(Builtin.append_ #[t,t2] o.type #[a.eval x,a.eval y]).run P w=.ok (.slice b1 (a0+(hi - lo)) c1) w':=by rw [hx]; exact hrun
  refine iF (x:=.one (.sel r p n (aY d 0) A B)) A1 hd hdn (ku ho hcb hxy hat Km I9) ?_ ?_
  · intro R2 hR2 _ _ Q2 U0 _
    rw [bP _ _ OH.symm,bP _ _ hne,hr.1] at hR2
    simp only [ane] at hR2
    subst hR2
    obtain ⟨rfl,_⟩:=eP U0
    have e1:(aG (fI J q) (aY d 0) (0,0) [.slice b1 (a0+(hi - lo)) c1] Kk).hdr r=J.hdr r:=by simp [aG,fI,upd_ne _ _ OH.symm,upd_ne _ _ hne]
    have e2:dY (aG (fI J q) (aY d 0) (0,0) [.slice b1 (a0+(hi - lo)) c1] Kk) R r=dY J R r:=by
      unfold dY
      simp [aG,fI,upd_ne _ _ OH.symm,upd_ne _ _ hne]
    have e3:(aG (fI J q) (aY d 0) (0,0) [.slice b1 (a0+(hi - lo)) c1] Kk).fo r=J.fo r:=by simp [aG,fI,upd_ne _ _ OH.symm,upd_ne _ _ hne]
    refine ⟨e,kk,xs,wh,b,m,cp,b1,a0+(hi - lo),c1,hg,eZ,hown,by rw [e1,e2,SI (h:=hp w) hfl]; exact hn,⟨rfl,rfl⟩,by simp [aG,upd_same],rfl,⟨hAB.1,hAB.2.1,hm,hAB.2.2⟩,fun hm0=>?_⟩
    rcases hres with h0 | ⟨bb,o1,arr,l,u,h1,h2,h3,h4,h5,h6,h7⟩
    · omega
    · obtain ⟨b0,o0,hb0,ae4⟩:∃b0 o0,b=some ⟨b0,o0,none⟩/\b0∈J.fo r:=by
        by_cases ha:0<a0
        · obtain ⟨_,_,b0,o0,_,z2,z3,_⟩:=hold ha
          exact ⟨b0,o0,z2,z3⟩
        · obtain ⟨b0,o0,z1,z2,_⟩:=hsc 0 (by omega)
          exact ⟨b0,o0,z1,z2⟩
      refine ⟨bb,o1,b0,o0,h1,hb0,by simp only [aG,upd_same]; exact aa1 (by omega) bb o1 h1,by rw [e3]; exact ae4,fun j i hj hi'=>?_⟩
      rw [hidx j hj,mV (hsame b0 ae4)]
      by_cases hja:j<a0
      · rw [aoi hja]
        obtain ⟨bb',q',b0',o0',z1,z2,_,z4⟩:=hold (by omega)
        rw [hb0] at z2
        simp only [ane,an8,an9] at z2
        obtain ⟨rfl,rfl⟩:=z2
        have hlt:(j+1) * kk.size<=a0 * kk.size:=anL _ (by omega)
        rw [aoO,aoP] at hlt
        obtain ⟨bx',ox',y1,y2⟩:=h6 (j * kk.size+i) (by omega)
        rw [z1] at y1
        simp only [ane,an8,an9] at y1
        obtain ⟨rfl,rfl⟩:=y1
        rw [y2]
        exact z4 j i hja hi'
      · rw [aok hja]
        have hk:j - a0<hi - lo:=by omega
        obtain ⟨b0',o0',z1,_,z3⟩:=hsc (j - a0) hk
        rw [hb0] at z1
        simp only [ane,an8,an9] at z1
        obtain ⟨rfl,rfl⟩:=z1
        have hsl:=pW hS.nl hk
        have y1:=z3 i (by rw [hsl]; exact hi')
        rw [kZ hi'] at y1
        have hlt:(j - a0+1) * kk.size<=(hi - lo) * kk.size:=anL _ (by omega)
        rw [aoO,aoP] at hlt
        have y2:=h5 ((j - a0) * kk.size+i) (by rw [hS.nl]; omega)
        have hj2:j * kk.size=a0 * kk.size+(j - a0) * kk.size:=by rw [<-aoO]; congr 1; omega
        rw [show o1+(j * kk.size+i)=o1+a0 * kk.size+((j - a0) * kk.size+i) by omega,y2, <-y1,aoK]
  · refine ⟨⟨R, ?_, .inr (by omega)⟩,_,aI ..⟩
    rw [bP _ _ OH.symm,bP _ _ hne]
    exact hr.1
theorem XK (hT:eG P T) (H:Rel cx Z J F a w) (hd:o.dst=some d) (hdn:d<cx.nt) {c:Call} (ho:o.op=.call c) (hcb:c.callee=.builtin .append) {u:AV} {p:List Stp} {n lo hi sz:Nat} {t:TypeId} {e1:TypeId} {k1:K} (hl:eD cx Z J F w [u, .sub r p n lo hi sz] (c.args.toList.map a.eval))
    (hat:c.argTypes[0]?=some t) (ht1:(c.argTypes[1]?).bind T.ty=some (.sl e1 k1)) (h:(abO T d t u r p n lo hi sz fun ws=>(.ret ws:Prog (List Wr))).ends Z ws):pY P cx o a w (aB ws Z):=by
  obtain ⟨x,y,hxy,hu,hv0⟩:=Cm hl
  obtain ⟨t2,Km,ht2⟩:=sG hT ht1
  unfold abO at h
  split at h
  case h_2=>exact h.elim
  case h_1 e kk hty=>
    have ht:=hT.ty t _ hty
    obtain ⟨R,hr,hv,h⟩:=bU h
    rcases ay h with ⟨hc,h5⟩ | ⟨_,h5⟩
    case inr=>exact h5.elim
    clear h
    simp only [ank] at hc
    obtain ⟨⟨⟨c1,c2⟩,c3⟩,c4⟩:=hc
    have hsz:=ani c1
    subst hsz
    have CY:=ani c2
    have hall:=jw c4
    cases hg:aR p R.k R.x with
    | none=>rw [hg] at h5; exact h5.elim
    | some dd=>
      rw [hg] at h5
      simp only at h5
      cases hck:bQ dd.1 (.sl e kk) dd.2 with
      | none=>rw [hck] at h5; exact h5.elim
      | some xs=>
        rw [hck] at h5
        simp only at h5
        obtain ⟨ek,ey⟩:=bF hck
        obtain ⟨dk,dx⟩:=dd
        simp only at ek ey
        subst ek
        simp only at ey
        subst ey
        obtain ⟨b',b,m,cp,evy,eb,e2,e3,e4,hsub⟩:=hv0
        obtain ⟨eZ,hown,wh,hn⟩:=hsub R hr.1 hv CY _ hg
        obtain ⟨fT,hO,afj⟩:=rC H hr hv hg eZ hown hn
        obtain ⟨_,_,_,q1,hm,hmc⟩:=Wz hO
        simp only [apr,apM,an9] at q1
        obtain ⟨rfl,rfl,rfl⟩:=q1
        have hm':m=@List.length (El kk) xs:=hm
        obtain ⟨news,hS,hsc⟩:∃news,Src P w kk.size t2 (a.eval y) (hi - lo) news/\∀i,i<hi - lo->∃b0 o0,b=some ⟨b0,o0,none⟩/\b0∈J.fo r/\Cells (hp w) b0 (o0+(lo+i) * kk.size) (mF news kk.size i):=by
          by_cases h0:0<hi - lo
          · have hO2:=hO
            unfold Ow at hO2
            rw [aoi (hall e (by simp [K.tys]))] at hO2
            obtain ⟨a1,n1,c1',q1,q2,q3,hO2⟩:=hO2
            simp only [apr,apM,an9] at q1
            obtain ⟨rfl,rfl,rfl⟩:=q1
            rcases hO2 with ⟨hc0,_⟩ | ⟨b0,o0,arr,l,u',ea,hbk,hf,hs,bC,hl0,hp0,hE⟩
            · omega
            · subst ea
              have ey':b'=some ⟨b0,o0+lo * kk.size,none⟩:=by rw [eb (.inr (by omega))]; simp [addr_add]
              rw [evy,ey']
              obtain ⟨news,g1,g2⟩:=KP (P:=P) (w:=w) (u:=t2) (size:=kk.size) (n:=hi - lo) (c:=cp - lo) (bb:=b0) (q:=o0+lo * kk.size) (.inl ⟨_,ht2.sl.1⟩) (fun i ds=>Cells (hp w) b0 (o0+(lo+i) * kk.size) ds) (fun i hi'=>by
                obtain ⟨ds,g1,g2⟩:=hE (lo+i) (by show lo+i < @List.length (El kk) xs; omega)
                refine ⟨ds,cZ g2, ?_,JM ht.sl.2.1.eY g2,g1⟩
                rw [aoK, <-aoO]
                exact g1)
              exact ⟨news,g1,fun i hi'=>⟨b0,o0,rfl,afj b0 (hp0.mem_iff.2 anM),g2 i hi'⟩⟩
          · refine ⟨[], ?_,fun i hi'=>by omega⟩
            rw [evy]
            have h1:hi - lo=0:=by omega
            rw [h1]
            exact xD (.inl ⟨_,ht2.sl.1⟩) (by simp) (fun v hv=>by simp at hv) (fun h=>by omega)
        split at h5
        · rename_i q g
          obtain ⟨Q,Nn,Kr,h6⟩:=bU h5
          rcases ay h6 with ⟨R4,h7⟩ | ⟨_,h7⟩
          · clear h5 h6
            simp only [ank,an7] at R4
            obtain ⟨⟨⟨d1,d2⟩,d3⟩,d4⟩:=R4
            have hne:r≠q:=fun e=>by rw [e] at d3; simp at d3
            cases Av:bQ Q.k (.sl e kk) Q.x with
            | none=>rw [Av] at h7; exact h7.elim
            | some ys=>
              rw [Av] at h7
              simp only at h7
              obtain ⟨⟨g1,g2,g3⟩,h8⟩:=h7
              obtain ⟨hfr,h9⟩:=fC h8
              rw [aD h9]
              obtain ⟨hkQ,hVQ⟩:=hu Q Nn (ani d1)
              obtain ⟨Zb,eyQ⟩:=bF Av
              have Il:=tC Zb eyQ ((H.roots q Q Nn).ow Kr)
              have ajs:VC (.sl e kk) (a.eval x) (J.hdr q):=Zb▸hVQ
              unfold Ow at Il
              rw [aoi d4] at Il
              obtain ⟨bx,a0,RA,q1,q2,q3,Il⟩:=Il
              have hx:a.eval x=.slice bx a0 RA:=by
                have:=ajs.1
                rw [q1] at this
                simpa using this.symm
              have g1' : @List.length (El kk) ys=0:=g1
              have ha0:a0=0:=by have:a0=@List.length (El kk) ys:=q2; omega
              subst ha0
              subst g2
              have hfin:=M6 (P:=P) H hd hdn ho hcb hxy hat Km ht hr CY hne Nn Kr hkQ c3 hg eZ hown hn hm hx (anO _) (by
                rcases Il with ⟨h0,_⟩ | ⟨bb,q',arr,l,u',z1,z2,z3,z4,bC,_,z5,_⟩
                · exact .inl h0
                · exact .inr ⟨bb,q',arr,l,u',z1,z2,z3,z4,z5.mem_iff.2 anM⟩) (fun h=>by omega) hS hsc (by simpa using g3) hfr (A:=hi) (B:=m) ⟨by omega,anv _,by omega⟩ (fun j hj=>by
                  have:j<hi:=by omega
                  simp [this])
              simp only [anY,Nat.sub_zero] at hfin
              rw [<-hm']
              exact hfin
          · exact h7.elim
        · rename_i r' p' n' q a' b''
          obtain ⟨Q,Nn,Kr,h6⟩:=bU h5
          rcases ay h6 with ⟨R4,h7⟩ | ⟨_,h7⟩
          · clear h5 h6
            simp only [ank,an7] at R4
            obtain ⟨⟨⟨⟨⟨⟨d1,d2⟩,d3⟩,d4⟩,d5⟩,d6⟩,d7⟩:=R4
            have hne:r≠q:=fun e=>by rw [e] at d6; simp at d6
            have er:=ani d1
            have en:=ani d2
            have ep:=BN d3 (by rw [uV c3,uV (De d3 c3)])
            subst er en ep
            cases Av:bQ Q.k (.sl e (.gap kk.size)) Q.x with
            | none=>rw [Av] at h7; exact h7.elim
            | some ys=>
              rw [Av] at h7
              simp only at h7
              obtain ⟨⟨g1,g2,g3,g4,g5⟩,h8⟩:=h7
              obtain ⟨hfr,h9⟩:=fC h8
              rw [aD h9]
              obtain ⟨e',kk',xs',nG,bb,m',c',bq,m1,c1',s1,s2,s3,s4,⟨s5,skd⟩,s6,s7,⟨s8,s9,s10,s11⟩,s12⟩:=hu R hr.1 hv CY Q Nn (ani d4)
              rw [hg] at s1
              simp only [ane,Sigma.mk.injEq,K.sl.injEq] at s1
              obtain ⟨⟨rfl,rfl⟩,s1⟩:=s1
              have s1:=eq_of_heq s1
              subst s1
              rw [hn] at s4
              simp only [ane,anp,apr,apM,an9] at s4
              obtain ⟨⟨rfl,rfl,rfl⟩,rfl⟩:=s4
              obtain ⟨Zb,eyQ⟩:=bF Av
              have Il:=tC Zb eyQ ((H.roots q Q Nn).ow Kr)
              rw [s6,s7] at Il
              unfold Ow at Il
              rw [aoi d7] at Il
              obtain ⟨bx,a0,RA,q1,q2,q3,Il⟩:=Il
              simp only [apr,apM,an9] at q1
              obtain ⟨rfl,rfl,rfl⟩:=q1
              have g3':hi=@List.length (El kk) xs:=g3
              have g4':b''=@List.length (El kk) xs:=g4
              have ha0:m1=a':=by omega
              subst ha0
              exact M6 (P:=P) H hd hdn ho hcb hxy hat Km ht hr CY hne Nn Kr skd c3 hg eZ hown hn hm s7 q3 (by
                rcases Il with ⟨h0,_⟩ | ⟨bb,q',arr,l,u',z1,z2,z3,z4,bC,_,z5,_⟩
                · exact .inl h0
                · exact .inr ⟨bb,q',arr,l,u',z1,z2,z3,z4,z5.mem_iff.2 anM⟩) (fun h=>by
                  obtain ⟨b1,o1,b0,o0,y1,y2,_,y4,y5⟩:=s12 h
                  exact ⟨b1,o1,b0,o0,y1,y2,y4,fun j i hj hi'=>by have:=y5 j i hj hi'; rw [aoi hj] at this; exact this⟩) hS hsc g5 hfr (A:=m1) (B:=lo) ⟨g1,by omega,by omega⟩ (fun j hj=>rfl)
          · exact h7.elim
        · exact h5.elim
end
section
variable {P:Program} {T:jh} {cx:Cx} {Z:St} {J:dP} {F:List Nat} {a:Act} {w:World} {o:Oper} {d:Nat} {ws:List Wr} {r:Nat} {R:Root}
theorem LQ (hT:eG P T) (H:Rel cx Z J F a w) (hd:o.dst=some d) (hdn:d<cx.nt) (h:(KV T o d fun ws=>(.ret ws:Prog (List Wr))).ends Z ws):pY P cx o a w (aB ws Z):=by
  unfold KV at h
  split at h
  · rename_i t ps ho
    obtain ⟨us,h1,h2⟩:=CJ h
    rw [aD h2]
    exact Ij hT H hd hdn h1 ho
  · rename_i c ho
    split at h
    · rename_i hcb
      obtain ⟨vs,h1,h2,h⟩:=jJ H h
      split at h
      · split at h
        · rename_i hat ht1
          split at h
          · exact XK hT H hd hdn ho hcb h1 hat ht1 h
          · exact XG hT H hd hdn ho hcb h1 hat ht1 h
        · exact h.elim
      · exact h.elim
    · exact h.elim
  · rename_i t x ho
    exact LM hT H hd hdn ho h
  · exact h.elim
theorem Yu {β:Type} {l:List (List β)} {a b:Nat} (h:a<=b):(l.take a++l.drop b).flatten.Sublist l.flatten:=by
  have h1:(l.take a++l.drop b).Sublist l:=by
    have h2:(l.drop b).Sublist (l.drop a):=by
      rw [show b=a+(b - a) by omega, <-aoL]
      exact List.drop_sublist _ _
    have h3:=aoo h2 (l.take a)
    rwa [aoN] at h3
  clear h
  generalize l.take a++l.drop b=l' at h1
  induction h1 with
  | slnil=>exact List.Sublist.refl _
  | cons x h ih=>
    rw [aoa]
    exact ih.trans (List.sublist_append_right _ _)
  | cons_cons x h ih=>
    rw [aoa,aoa]
    exact aoo ih _
theorem P8 {β:Type} {l:List β} {a b j:Nat} (h1:a<=b) (h2:b<=l.length) (hj:j<a+(l.length - b)):(l.take a++l.drop b)[j]?=l[if j<a then j else b+(j - a)]?:=by
  by_cases hja:j<a
  · rw [aoi hja,aoI (by rw [aoX]; omega),apy,aoi hja]
  · rw [aok hja,aoJ (by rw [aoX]; omega),aoX,apo]
    congr 1
    omega
theorem P9 {β:Type} {l:List β} {a b:Nat} (h1:a<=b) (h2:b<=l.length):(l.take a++l.drop b).length=a+(l.length - b):=by
  rw [anm,aoX,ao5]
  omega
theorem Ke (hT:eG P T) (H:Rel cx Z J F a w) (hd:o.dst=none) {t:TypeId} {x y:Operand} (ho:o.op=.store t x y) {u:AV} {r n q a' b':Nat} {p:List Stp} {k0:K} (hk0:T.ty t=some k0) (h1:bN cx Z J F w u (a.eval x)) (h2:qM Z u) (h3:bN cx Z J F w (.sel r p n q a' b') (a.eval y))
    (h:(Dn k0 u r p n q a' b' fun ws=>(.ret ws:Prog (List Wr))).ends Z ws):pY P cx o a w (aB ws Z):=by
  have ht:=hT.ty t k0 hk0
  cases k0 with
  | sl e kk=>
    cases u with
    | ptr r' p' h0=>
      simp only [Dn] at h
      rcases ay h with ⟨hc,h5⟩ | ⟨_,h5⟩
      · clear h
        simp only [ank,an7] at hc
        obtain ⟨⟨⟨c1,c2⟩,c3⟩,c4⟩:=hc
        have hne:r≠q:=fun e=>by rw [e] at c4; simp at c4
        have er:=ani c1
        have Qe:p'.all Stp.lJ=true:=De c2 c3
        have ep:=BN c2 (by rw [uV c3,uV Qe])
        subst er ep
        obtain ⟨Q,Nn,Kr,h6⟩:=bU h5
        rcases ay h6 with ⟨R4,h7⟩ | ⟨_,h7⟩
        · clear h5 h6
          simp only [ank] at R4
          cases Av:bQ Q.k (.sl e (.gap kk.size)) Q.x with
          | none=>rw [Av] at h7; exact h7.elim
          | some yq=>
            rw [Av] at h7
            simp only at h7
            obtain ⟨R,hr,hv,h8⟩:=bU h7
            rcases ay h8 with ⟨hcR,h9⟩ | ⟨_,h9⟩
            · clear h7 h8
              simp only [ank] at hcR
              obtain ⟨⟨⟨⟨d1,d2⟩,d3⟩,d4⟩,d5⟩:=hcR
              have hall:=jw d4
              cases hg:aR p R.k R.x with
              | none=>rw [hg] at h9; exact h9.elim
              | some dd=>
                rw [hg] at h9
                simp only at h9
                cases hck:bQ dd.1 (.sl e kk) dd.2 with
                | none=>rw [hck] at h9; exact h9.elim
                | some xs=>
                  rw [hck] at h9
                  simp only at h9
                  obtain ⟨ek,ey⟩:=bF hck
                  obtain ⟨dk,dx⟩:=dd
                  simp only at ek ey
                  subst ek
                  simp only at ey
                  subst ey
                  cases hz:eF p R.k R.x ⟨.sl e kk,(show List (El kk) from xs).take a'++(show List (El kk) from xs).drop b'⟩ with
                  | none=>rw [hz] at h9; exact h9.elim
                  | some z=>
                    rw [hz] at h9
                    rw [aD h9]
                    obtain ⟨e',kk',xs',wh,b,m,c,bq,m1,cq,s1,s2,s3,s4,⟨s5,skd⟩,s6,s7,⟨s8,s9,s10,s11⟩,s12⟩:=h3 R hr.1 hv (ani d1) Q Nn (ani R4.1)
                    rw [hg] at s1
                    simp only [ane,Sigma.mk.injEq,K.sl.injEq] at s1
                    obtain ⟨⟨rfl,rfl⟩,s1⟩:=s1
                    have s1:=eq_of_heq s1
                    subst s1
                    obtain ⟨H1,T1,hH,hcl⟩:=kill H Nn skd Kr
                    have hSr:Same Z J (au Z q bT) (fI J q) r:=gV hne
                    have hr1:=(hSr.live R).2 hr
                    have Sd:∀m,(q,m)∉R.tags:=fun m hm=>by
                      have:=anu.1 d5 _ hm
                      simp at this
                    have hv1:bB (au Z q bT) R:=⟨hv.1,by rw [lF Sd]; exact hv.2⟩
                    obtain ⟨_,cs,bA,oA,hn2,eA⟩:=h1.2 R hr.1 hv d3 s3 (by rw [hg]; rfl)
                    rw [s4] at hn2
                    simp only [ane,anp] at hn2
                    obtain ⟨rfl,rfl⟩:=hn2
                    have hn1:bH (hp w) p R.k ((fI J q).hdr r) (dY (fI J q) R r)=some ([.slice b m c],some (bA,oA)):=by rw [hSr.hdr,hSr.wh]; exact s4
                    obtain ⟨Zb,eyQ⟩:=bF Av
                    have Il:=tC Zb eyQ (hH.ow hcl)
                    rw [s6,s7] at Il
                    unfold Ow at Il
                    rw [aoi R4.2] at Il
                    obtain ⟨bx,a0,RA,q1,q2,q3,Il⟩:=Il
                    simp only [apr,apM,an9] at q1
                    obtain ⟨rfl,rfl,rfl⟩:=q1
                    have Mg:∀b'∈(fI J q).fo r,b'∉J.fo q++F:=fun b' hb'=>H1.iY r R hr1 b' (by rw [bX,dX]; exact .inr hb')
                    have hxl:m=@List.length (El kk) xs:=s10
                    have Qn:(@HAppend.hAppend (List (El kk)) (List (El kk)) (List (El kk)) _ (@List.take (El kk) a' xs) (@List.drop (El kk) b' xs)).length=m1:=by
                      rw [P9 s8 (by omega),s11,hxl]
                    obtain ⟨w',r1,J',F',r2⟩:=GZ (P:=P) ht H1 hr1 hv1 hg hz s2 s3 hall hn1 (v:=.slice bq m1 cq) ⟨_,_,_,rfl⟩ (lw:=eO R p :: (K.sl e kk).tys) (by simp) (fun fT ok hO hnd hsub=>by
                      have he:az e R.own=true:=hall e (by simp [K.tys])
                      rcases Il with ⟨h0,_⟩ | ⟨bb,o1,arr,l,u',z1,z2,z3,z4,_,_,z5,_⟩
                      · refine ⟨[],an4,by simp, ?_⟩
                        unfold Ow
                        rw [aoi he]
                        exact ⟨bq,m1,cq,rfl,Qn.symm,q3, .inl ⟨h0,rfl⟩⟩
                      · have ae8:bb∈J.fo q:=z5.mem_iff.2 anM
                        unfold Ow at hO
                        rw [aoi he] at hO
                        obtain ⟨b2,m2,c2,e1,e2,e3,hO⟩:=hO
                        simp only [apr,apM,an9] at e1
                        obtain ⟨rfl,rfl,rfl⟩:=e1
                        obtain ⟨bC,hfl,hfs,hfn,hfe⟩:∃bC:List (List Nat),bC.length=@List.length (El kk) xs/\(∀b'∈bC.flatten,b'∈fT)/\bC.flatten.Nodup/\∀(i:Nat) (hi:i < @List.length (El kk) xs),∃b0 o0 ds,b=some ⟨b0,o0,none⟩/\Cells (hp w) b0 (o0+i * kk.size) ds/\Ow (hp w) R.own ok kk (@getElem (List (El kk)) Nat (El kk) _ _ xs i hi) ds (bC.getD i []):=by
                          rcases hO with ⟨hc0,hf0⟩ | ⟨b0,o0,kJ,lo',hi',ea,hbk,hfz,hs,bC,hl,hp0,hO⟩
                          · have hx0 : @List.length (El kk) xs=0:=by omega
                            exact ⟨[],by simp [hx0],by simp,by simp,fun i hi=>by omega⟩
                          · have pQ:=hp0.nodup hnd
                            refine ⟨bC,hl,fun b' hb'=>hp0.mem_iff.2 (anE _ hb'),(anN.1 pQ).2,fun i hi=>?_⟩
                            obtain ⟨ds,g1,g2⟩:=hO i hi
                            exact ⟨b0,o0,ds,ea,g1,g2⟩
                        have hsl:=Yu (l:=bC) (a:=a') (b:=b') s8
                        refine ⟨bb :: (bC.take a'++bC.drop b').flatten,anN.2 ⟨fun hm=>?_,hsl.nodup hfn⟩,fun b'' hb'=>?_, ?_⟩
                        · exact Mg bb (hsub bb (hfs bb (hsl.subset hm))) (anj _ ae8)
                        · rcases anq.1 hb' with h | h
                          · rw [h]; exact .inr (anj _ ae8)
                          · exact .inl (hfs b'' (hsl.subset h))
                        · have hOO:Ow (hp w) R.own (fun _=>False) (.sl e kk) (show List (El kk) from (show List (El kk) from xs).take a'++(show List (El kk) from xs).drop b') [.slice bq m1 cq] (bb :: (bC.take a'++bC.drop b').flatten):=by
                            unfold Ow
                            rw [aoi he]
                            refine ⟨_,m1,cq,rfl,Qn.symm,q3, .inr ⟨bb,o1,arr,l,u',z1,z2,z3,z4,bC.take a'++bC.drop b',by show (bC.take a'++bC.drop b').length=_; rw [Qn,P9 s8 (by rw [hfl]; omega),hfl,s11,hxl],by simp,fun i hi'=>?_⟩⟩
                            have hi2:i<(@HAppend.hAppend (List (El kk)) (List (El kk)) (List (El kk)) _ (@List.take (El kk) a' xs) (@List.drop (El kk) b' xs)).length:=hi'
                            have hi3:=hi2
                            rw [Qn] at hi3
                            obtain ⟨b1,o1',b0,o0,y1,y2,y3,y4,y5⟩:=s12 (by omega)
                            rw [z1] at y1
                            simp only [ane,an8,an9] at y1
                            obtain ⟨rfl,rfl⟩:=y1
                            have hsi:(if i<a' then i else b'+(i - a')) < @List.length (El kk) xs:=by split <;> omega
                            obtain ⟨b0',o0',ds,x1,x2,x3⟩:=hfe _ hsi
                            rw [y2] at x1
                            simp only [ane,an8,an9] at x1
                            obtain ⟨rfl,rfl⟩:=x1
                            have hx:(show List (El kk) from (show List (El kk) from xs).take a'++(show List (El kk) from xs).drop b')[i]'hi'=@getElem (List (El kk)) Nat (El kk) _ _ xs _ hsi:=by
                              have h8:=P8 (l:=(show List (El kk) from xs)) (a:=a') (b:=b') (j:=i) s8 (by show b'<=@List.length (El kk) xs; omega) (by show i<a'+(@List.length (El kk) xs - b'); omega)
                              have h9:=ant (l:=(show List (El kk) from xs)) hsi
                              rw [h9] at h8
                              obtain ⟨_,h8⟩:=anZ.1 h8
                              exact h8
                            rw [hx]
                            have hfo:(bC.take a'++bC.drop b').getD i []=bC.getD (if i<a' then i else b'+(i - a')) []:=by
                              rw [anr,anr,P8 s8 (by omega) (by omega)]
                            rw [hfo]
                            have hdl:=cZ x3
                            refine ⟨ds,fun j hj=>?_,gI (dH (fun t ht=>hall t (by simp [K.tys,ht]))) x3⟩
                            rw [aoK,y5 i j hi3 (by omega), <-aoK]
                            exact x2 j hj
                          exact hOO)
                    refine ⟨undef,w',J',F', .inr ⟨?_,rfl⟩, ?_⟩
                    · simp only [execOp,ho,eA,s7,anF,r1,anx,anK]
                    · rw [hd]
                      exact r2
            · exact h9.elim
        · exact h7.elim
      · exact h5.elim
    | _=>exact h.elim
  | _=>cases u <;> exact h.elim
theorem Oh (hT:eG P T) (H:Rel cx Z J F a w) (hd:o.dst=none) {t:TypeId} {x y:Operand} (ho:o.op=.store t x y)
    (h:(dU x fun u=>dU y fun v=>Pj T t u v fun ws=>(.ret ws:Prog (List Wr))).ends Z ws):pY P cx o a w (aB ws Z):=by
  obtain ⟨u,h1,h2,h⟩:=bY H h
  obtain ⟨v,h3,h4,h⟩:=bY H h
  unfold Pj at h
  split at h
  · split at h
    · rename_i hk0
      exact Ka hT H hd ho hk0 h1 h2 h3 h
    · exact h.elim
  · split at h
    · rename_i hk0
      exact J9 hT H hd ho hk0 h1 h2 h3 h
    · exact h.elim
  · split at h
    · rename_i hk0
      exact Ke hT H hd ho hk0 h1 h2 h3 h
    · exact h.elim
  · exact Oi hT H hd ho h1 h2 h3 h4 h
end
end
section
open Go
variable [Fr]
section
variable {P:Program} {T:jh} {cx:Cx} {Z:St} {J:dP} {F:List Nat} {a:Act} {w:World}
structure Tk (cx:Cx) (Z:St) (J:dP) (F:List Nat) (a:Act) (w:World) (Z1:St) (dR:dP) (F1:List Nat) (ids:List Tag):Prop where
 rel:Rel cx Z1 dR F1 a w
 vws:Views cx Z J F w Z1 dR F1 w
 same:∀t∈ids,Same Z J Z1 dR t.1
theorem Tk.sub {Z1:St} {dR:dP} {F1:List Nat} {ids ids':List Tag} (h:Tk cx Z J F a w Z1 dR F1 ids') (hs:∀t∈ids,t∈ids'):Tk cx Z J F a w Z1 dR F1 ids:=⟨h.rel,h.vws,fun t ht=>h.same t (hs t ht)⟩
def Xv (cx:Cx) (Z:St) (J:dP) (F:List Nat) (a:Act) (w:World) (k:K) (x:El k) (ids:List Tag) (v:Value):Prop:=
 ∃cs,VC k v cs/\∀Z1 dR F1,Tk cx Z J F a w Z1 dR F1 ids->Vw (hp w) (jc cx Z1 dR F1 w ids) k x cs
def PU (cx:Cx) (Z:St) (J:dP) (F:List Nat) (a:Act) (w:World) (k:K) (x:El k) (ids:List Tag) (v:Value):Prop:=
 ∃b o cs,v=.pointer (some ⟨b,o,none⟩)/\Cells (hp w) b o cs/\∀Z1 dR F1,Tk cx Z J F a w Z1 dR F1 ids->Vw (hp w) (jc cx Z1 dR F1 w ids) k x cs/\GH Z1 dR F1 w ids b
def Aa (cx:Cx) (Z:St) (J:dP) (F:List Nat) (a:Act) (w:World) (ids:List Tag):(ks:List K)->Cont ks->List Value->Prop
 | [],_,[]=>True
 | k :: ks,c,v :: vs=>PU cx Z J F a w k c.1 ids v/\Aa cx Z J F a w ids ks c.2 vs
 | _,_,_=>False
structure Y7 (cx:Cx) (Z:St) (J:dP) (w:World) (k:K) (x:El k) (ow:List TypeId) (i:dz) (wt ht:List TypeId) (r:Nat) (R:Root) (p:List Stp):Prop where
 wb:i.wb=some (r,p,wt,ht)
 ws:i.ws=[]
 ids:i.ids=R.tags
 lv:aQ Z r R
 vl:bB Z R
 get:aR p R.k R.x=some ⟨k,x⟩
 pin:mG p R.k R.x
 own:∀t∈ah p R.k,az t R.own=true
 just:oH k R.own ow=true
def PM (cx:Cx) (Z:St) (J:dP) (F:List Nat) (a:Act) (w:World):(ps:List gq)->Cont (kin ps)->List Value->List dz->List (Value×iW)->Prop
 | [],_,[],[],[]=>True
 | .val k _ :: ps,c,v :: vs,i :: is,ts=>(i.wb=none/\i.ws=[]/\i.bt=[]/\Xv cx Z J F a w k c.1 i.ids v)/\PM cx Z J F a w ps c.2 vs is ts
 | .ro k :: ps,c,v :: vs,i :: is,ts=>(i.wb=none/\i.ws=[]/\i.bt=[]/\PU cx Z J F a w k c.1 i.ids v)/\PM cx Z J F a w ps c.2 vs is ts
 | .rw k ow wt ht :: ps,c,v :: vs,i :: is,ts=>(∃r R p,Y7 cx Z J w k c.1 ow i wt ht r R p/\i.bt=[eO R p]/\∃cs b o,bH (hp w) p R.k (J.hdr r) (dY J R r)=some (cs,some (b,o))/\v=.pointer (some ⟨b,o,none⟩))/\PM cx Z J F a w ps c.2 vs is ts
 | .lI k ow wt :: ps,c,v :: vs,i :: is,ts=>(∃r R p,Y7 cx Z J w k c.1 ow i wt k.tys r R p/\i.bt=[]/\∃cs wh,bH (hp w) p R.k (J.hdr r) (dY J R r)=some (cs,wh)/\VC k v cs)/\PM cx Z J F a w ps c.2 vs is ts
 | .own k ow :: ps,c,v :: vs,i :: is,q :: ts=>(q.1=v/\wo cx Z J F w v q.2/\i=⟨q.2.tags,none,q.2.ws,[]⟩/\(∃e:q.2.k=k,c.1=e▸q.2.x)/\oH k q.2.own ow=true)/\PM cx Z J F a w ps c.2 vs is ts
 | .fn f ks :: ps,c,v :: vs,i :: is,ts=>(i.wb=none/\i.ws=[]/\i.bt=[]/\∃us:List Value,v=.func (.func f) #[] us.toArray/\Aa cx Z J F a w i.ids ks (Cont.fst ks (kin ps) c) us)/\PM cx Z J F a w ps (Cont.snd ks (kin ps) c) vs is ts
 | .into _ p :: ps,c,v :: vs,i :: is,ts=>(i.wb=none/\i.ws=[]/\i.bt=[]/\∃b,v=.slice b 0 0)/\PM cx Z J F a w ps (Cont.snd (gq.into 0 p).kin (kin ps) c) vs is ts
 | _,_,_,_,_=>False
theorem BG:∀(ks ls:List K) (c:Cont ks) (d:Cont ls),Cont.fst ks ls (Cont.app ks ls c d)=c
 | [],_,_,_=>rfl
 | _ :: ks,ls,c,d=>by show (c.1,Cont.fst ks ls (Cont.app ks ls c.2 d))=c; rw [BG ks ls c.2 d]; rfl
theorem Ci:∀(ks ls:List K) (c:Cont ks) (d:Cont ls),Cont.snd ks ls (Cont.app ks ls c d)=d
 | [],_,_,_=>rfl
 | _ :: ks,ls,c,d=>Ci ks ls c.2 d
theorem PU.mono {ids ids':List Tag} (h:∀t∈ids,t∈ids') {k:K} {x:El k} {v:Value} (H:PU cx Z J F a w k x ids v):PU cx Z J F a w k x ids' v:=by
 obtain ⟨b,o,cs,h1,h2,h3⟩:=H
 refine ⟨b,o,cs,h1,h2,fun Z1 dR F1 hT=>?_⟩
 obtain ⟨g1,g2⟩:=h3 Z1 dR F1 (hT.sub h)
 exact ⟨gH (fun _ _=>rfl) (fun b hb=>vN hb h) g1,V7 g2 h⟩
theorem Aa.mono {ids ids':List Tag} (h:∀t∈ids,t∈ids'):∀{ks:List K} {c:Cont ks} {vs:List Value},Aa cx Z J F a w ids ks c vs->Aa cx Z J F a w ids' ks c vs
 | [],_,[],_=>trivial
 | _ :: _,_,_ :: _,⟨h1,hh⟩=>⟨h1.mono h,Aa.mono h hh⟩
 | [],_,_ :: _,hh=>hh.elim
 | _ :: _,_,[],hh=>hh.elim
theorem Tk.clean {Z1:St} {dR:dP} {F1:List Nat} {ids:List Tag} (h:Tk cx Z J F a w Z1 dR F1 ids) (tys:List TypeId):bD Z1 tys ids=bD Z tys ids:=fK (fun t ht=>(h.same t ht).root)
theorem PU.Zz {bt:TypeId} {k:K} {x:El k} {T:List Tag} {v:Value} (h:GX cx Z J F w bt k x T v) (hw:fG Z T) (hc:bD Z (bt :: k.tys) T=true):PU cx Z J F a w k x T v:=by
 obtain ⟨b,o,cs,e,h1,h2,h3,h4⟩:=h.2 hc
 refine ⟨b,o,cs,e,h1,fun Z1 dR F1 hT=>?_⟩
 obtain ⟨b',o',cs',e',h1',h2',h3',_⟩:=(hT.vws.ro hw h).2 (by rw [hT.clean]; exact hc)
 have:b'=b/\o'=o:=by rw [e] at e'; simpa using e'.symm
 obtain ⟨rfl,rfl⟩:=this
 have hcs:cs'=cs:=cells_eq h1 h1' ((mh h2').trans (mh h2).symm)
 subst hcs
 exact ⟨h2',h3'⟩
theorem PU.ML (H:Rel cx Z J F a w) {r:Nat} {R:Root} {p:List Stp} {d:Dat} {cs:List Value} {b o:Nat} (hr:aQ Z r R) (hv:bB Z R) (hg:aR p R.k R.x=some d) (eZ:mG p R.k R.x) (hown:∀t∈ah p R.k,az t R.own=true)
  (hn:bH (hp w) p R.k (J.hdr r) (dY J R r)=some (cs,some (b,o))) (n:Nat):PU cx Z J F a w d.1 d.2 ((r,n) :: R.tags) (.pointer (some ⟨b,o,none⟩)):=by
 obtain ⟨hC,_⟩:=pV H hr hv hg eZ hown hn
 refine ⟨b,o,cs,rfl,hC,fun Z1 dR F1 hT=>?_⟩
 have hS:=hT.same (r,n) (by simp)
 have hr1:=(hS.live R).2 hr
 have hv1:bB Z1 R:=⟨hv.1,by rw [fK (fun t ht=>(hT.same t (by simp [ht])).root)]; exact hv.2⟩
 obtain ⟨_,⟨fT,hO,hf⟩,hbb,_,_⟩:=pV hT.rel hr1 hv1 hg eZ hown (by rw [hS.hdr,hS.wh]; exact hn)
 have hq:∀b∈blk dR R r,GH Z1 dR F1 w ((r,n) :: R.tags) b:=fun b hb=>by
  refine ⟨((hT.rel.roots r R hr1).mine b hb).1,hT.rel.iY r R hr1 b hb,fun q Q hq hbq=>?_⟩
  by_cases e:q=r
  ·subst e; exact ⟨n,by simp⟩
  ·exact absurd hb (hT.rel.EK q Q r R hq hr1 e b hbq)
 refine ⟨lU _ (fun b hb=>vN hb (fun t ht=>by simp [ht])) (fun b hb=>?_) hO,hq b hbb⟩
 have hbr:b∈blk dR R r:=ang _ (hf b hb)
 obtain ⟨q1,q2,q3⟩:=hq b hbr
 refine ⟨q1,q2,oq hT.rel hr1 (hf b hb),q3,fun h0=>?_⟩
 rcases ((hT.rel.roots r R hr1).mine b hbr).2 with h | ⟨j,pi,h1,h2⟩
 ·omega
 ·exact .inr ⟨j,pi,h1,h2⟩
theorem Fh {A:Type} {z:A} (H:Rel cx Z J F a w) {x:AV} {v:Value} {k:(kk:K)->El kk->List Tag->Prog A} (hx:bN cx Z J F w x v) (hw:qM Z x) (h:(uB x k).ends Z z) :
  ∃kk y T,Xv cx Z J F a w kk y T v/\(k kk y T).ends Z z:=by
 have key:∀{r:Nat} {R:Root} {p:List Stp} {d:Dat} {cs:List Value} {wh:Option (Nat×Nat)},aQ Z r R->bB Z R->aR p R.k R.x=some d->mG p R.k R.x->(∀t∈ah p R.k,az t R.own=true)->bH (hp w) p R.k (J.hdr r) (dY J R r)=some (cs,wh)->VC d.1 v cs->
   Xv cx Z J F a w d.1 d.2 (R.out r d.1) v:=by
  intro r R p d cs wh hr hv hg h1 h2 h3 h4
  refine ⟨cs,h4,fun Z1 dR F1 hT=>?_⟩
  cases hf:d.1.flat with
  | true=>
   obtain ⟨fT,h5,_⟩:=rC H hr hv hg h1 h2 h3
   exact jA hf (lU (fun _=>True) (fun _ _=>trivial) (fun _ _=>trivial) h5)
  | false=>
   rcases zR R r hf with ho | ⟨ho,hn⟩
   ·rw [ho] at hT
    have hS:=hT.same (r,gY R.w) (by simp)
    have hr1:=(hS.live R).2 hr
    have hv1:bB Z1 R:=⟨hv.1,by rw [fK (fun t ht=>(hT.same t (by simp [ht])).root)]; exact hv.2⟩
    obtain ⟨fT,h5,h6⟩:=rC hT.rel hr1 hv1 hg h1 h2 (by rw [hS.hdr,hS.wh]; exact h3)
    exact oG hT.rel hr1 h5 h6
   ·obtain ⟨fT,h5,h6⟩:=rC H hr hv hg h1 h2 h3
    have hV:=oG H hr h5 h6
    rw [ho] at hT hV ⊢
    exact hT.vws.vw (H.dG r R hr.1).1 (by rw [hT.clean]; exact ql hv.2 (fun _ h=>h) (fun t ht=>wK p hg h2 t ((zF ht).resolve_right (by rw [hn t ht]; exact aph)))) (fun _ h=>h) hV
 cases x with
 | val kk y T=>
  obtain ⟨h1,h2⟩:=gG h
  obtain ⟨cs,h3,h4⟩:=hx (.inr h1)
  exact ⟨kk,y,T,⟨cs,h3,fun Z1 dR F1 hT=>hT.vws.vw hw (by rw [hT.clean]; exact h1) (fun _ h=>h) h4⟩,h2⟩
 | ref r g=>
  obtain ⟨R,hr,hv,h⟩:=bU h
  rcases ay h with ⟨hg,h⟩ | ⟨_,h⟩
  ·obtain ⟨_,h2⟩:=hx R hr (ani hg)
   exact ⟨R.k,R.x,R.out r R.k,key (p:=[]) (d:=⟨R.k,R.x⟩) hr hv rfl trivial (fun t ht=>by simp [ah] at ht) rfl h2,h⟩
  ·exact h.elim
 | rH r p n=>
  obtain ⟨R,hr,hv,h⟩:=bU h
  rcases ay h with ⟨hg,h⟩ | ⟨_,h⟩
  ·cases uu:aR p R.k R.x with
   | none=>rw [uu] at h; exact h.elim
   | some d=>
    rw [uu] at h
    obtain ⟨h1,h2,cs,wh,h3,h4⟩:=hx R hr.1 hv (ani hg) d uu
    exact ⟨d.1,d.2,R.out r d.1,key hr hv uu h1 h2 h3 h4,h⟩
  ·exact h.elim
 | undef=>exact h.elim
 | jy=>exact h.elim
 | ptr r p n=>exact h.elim
 | jE bt k x T=>exact h.elim
 | FM _ _ _ _=>exact h.elim
 | yI _=>exact h.elim
 | part _ _ _ _ _=>exact h.elim
 | wT _ _ _ _=>exact h.elim
 | sub _ _ _ _ _ _=>exact h.elim
 | sel _ _ _ _ _ _=>exact h.elim
 | app _ _ _ _=>exact h.elim
 | rA=>exact h.elim
 | fn f cs=>exact h.elim
theorem Xv.flat {k:K} {x:El k} {ids:List Tag} {v:Value} (hf:k.flat=true) (h:Xv cx Z J F a w k x ids v) (H:Rel cx Z J F a w):Xv cx Z J F a w k x [] v:=by
 obtain ⟨cs,h1,h2⟩:=h
 have h3:=h2 Z J F ⟨H,fun T tys _ h=>⟨h,fun b hb _=>⟨hb,rfl⟩,fun b hb _=>⟨hb,rfl⟩⟩,fun _ _=>mg ..⟩
 exact ⟨cs,h1,fun _ _ _ _=>jA hf h3⟩
theorem Rs {A:Type} {z:A}:∀{ks:List K} {l:List (TypeId×Dat×List Tag)} {vs:List Value} {k:Cont ks->List Tag->Prog A},lD cx Z J F w l vs->(∀c∈l,fG Z c.2.2)->(P6 ks l k).ends Z z->
  ∃c T,Aa cx Z J F a w T ks c vs/\(k c T).ends Z z:=by
 intro ks
 induction ks with
 | nil=>
  intro l vs k h1 h2 h
  cases l with
  | nil=>
   cases vs with
   | nil=>exact ⟨(),[],trivial,h⟩
   | cons v vs=>exact h1.elim
  | cons q l=>exact h.elim
 | cons kk ks ih=>
  intro l vs k h1 h2 h
  cases l with
  | nil=>exact h.elim
  | cons q l=>
   obtain ⟨t,d,tags⟩:=q
   cases vs with
   | nil=>exact h1.elim
   | cons v vs=>
    simp only [P6] at h
    obtain ⟨hc,h⟩:=gG h
    cases hk:bQ d.1 kk d.2 with
    | none=>rw [hk] at h; exact h.elim
    | some x=>
     rw [hk] at h
     simp only at h
     obtain ⟨ek,ey⟩:=bF hk
     obtain ⟨c,T,g1,g2⟩:=ih h1.2 (fun c hc=>h2 c (by simp [hc])) h
     refine ⟨(x,c),jq tags T,⟨?_,g1.mono (fun t ht=>dF.2 (.inr ht))⟩,g2⟩
     obtain ⟨dk,dx⟩:=d
     simp only at ek ey h1
     subst ek
     subst ey
     exact (PU.Zz h1.1 (h2 _ anM) hc).mono (fun t ht=>dF.2 (.inl ht))
theorem OB {A:Type} {z:A} (H:Rel cx Z J F a w):∀{ps:List gq} {IM:List AV} {vs:List Value} {k:Cont (kin ps)->List dz->Prog A},eD cx Z J F w IM vs->(∀v∈IM,qM Z v)->(kI ps IM k).ends Z z->
  ∃c is ts,PM cx Z J F a w ps c vs is ts/\(k c is).ends Z z:=by
 intro ps
 induction ps with
 | nil=>
  intro IM vs k h1 _ h
  cases IM with
  | nil=>
   cases vs with
   | nil=>exact ⟨(),[],[],trivial,h⟩
   | cons v vs=>exact h1.elim
  | cons x IM=>exact h.elim
 | cons p ps ih=>
  intro IM vs k h1 h2 h
  cases IM with
  | nil=>
   cases p with
   | into j q=>cases q <;> exact h.elim
   | _=>exact h.elim
  | cons x IM=>
   cases vs with
   | nil=>exact h1.elim
   | cons v vs=>
    have h2':∀v∈IM,qM Z v:=fun v hv=>h2 v (by simp [hv])
    cases p with
    | val kk iQ=>
     have hgo:∀(y:El kk) (tags:List Tag),Xv cx Z J F a w kk y tags v->
       (kI ps IM fun c is=>k (y,c) (⟨tags,none,[],[]⟩ :: is)).ends Z z->∃c is ts,PM cx Z J F a w (.val kk iQ :: ps) c (v :: vs) is ts/\(k c is).ends Z z:=by
      intro y tags hy h
      obtain ⟨c,is,ts,g1,g2⟩:=ih h1.2 h2' h
      exact ⟨(y,c),⟨tags,none,[],[]⟩ :: is,ts,⟨⟨rfl,rfl,rfl,hy⟩,g1⟩,g2⟩
     have hval:(uB x fun k' x tags=>match bQ k' kk x with
       | some y=>kI ps IM fun c is=>k (y,c) (⟨bif kk.flat then [] else tags,none,[],[]⟩ :: is)
       | none=>.fail).ends Z z->∃c is ts,PM cx Z J F a w (.val kk iQ :: ps) c (v :: vs) is ts/\(k c is).ends Z z:=by
      intro h
      obtain ⟨k',y,Tg,f1,f5⟩:=Fh H h1.1 (h2 x (by simp)) h
      cases hc:bQ k' kk y with
      | none=>rw [hc] at f5; exact f5.elim
      | some y'=>
       rw [hc] at f5
       obtain ⟨ek,ey⟩:=bF hc
       subst ek
       simp only at ey
       subst ey
       cases hf:k'.flat with
       | true=>
        rw [hf] at f5
        exact hgo _ _ (f1.flat hf H) f5
       | false=>
        rw [hf] at f5
        exact hgo _ _ f1 f5
     cases x with
     | jy=>
      cases kk with
      | sl e kk=>
       obtain ⟨b,rfl⟩:=h1.1
       exact hgo [] [] ⟨[.slice b 0 0],Ch,fun _ _ _ _=>⟨b,0,0,rfl,rfl,anv _,fun h=>by omega⟩⟩ h
      | _=>exact h.elim
     | undef=>exact hval h
     | val _ _ _=>exact hval h
     | ref _ _=>exact hval h
     | rH _ _ _=>exact hval h
     | ptr _ _ _=>exact hval h
     | jE _ _ _ _=>exact hval h
     | FM _ _ _ _=>exact hval h
     | yI _=>exact hval h
     | part _ _ _ _ _=>exact hval h
     | wT _ _ _ _=>exact hval h
     | sub _ _ _ _ _ _=>exact hval h
     | sel _ _ _ _ _ _=>exact hval h
     | app _ _ _ _=>exact hval h
     | rA=>exact hval h
     | fn _ _=>exact hval h
    | ro kk=>
     simp only [kI] at h
     have hgo:∀(d:Dat) (tags:List Tag),PU cx Z J F a w d.1 d.2 tags v->(match bQ d.1 kk d.2 with
       | some y=>kI ps IM fun c is=>k (y,c) (⟨tags,none,[],[]⟩ :: is)
       | none=>.fail).ends Z z->∃c is ts,PM cx Z J F a w (.ro kk :: ps) c (v :: vs) is ts/\(k c is).ends Z z:=by
      intro d tags hd h
      cases hc:bQ d.1 kk d.2 with
      | none=>rw [hc] at h; exact h.elim
      | some y=>
       rw [hc] at h
       obtain ⟨ek,ey⟩:=bF hc
       obtain ⟨dk,dx⟩:=d
       simp only at ek ey hd
       subst ek
       subst ey
       obtain ⟨c,is,ts,g1,g2⟩:=ih h1.2 h2' h
       exact ⟨(y,c),⟨tags,none,[],[]⟩ :: is,ts,⟨⟨rfl,rfl,rfl,hd⟩,g1⟩,g2⟩
     cases x with
     | ptr r p n=>
      rcases xO H h1.1 (h2 (.ptr r p n) (by simp)) h with ⟨r',R,p',d,cs,b,o,hr,hv,hg,eZ,hown,hn,e,h5⟩ | ⟨bt,d,Tg,b,o,cs,hw,e,hcs,hV,hok,hb,h5⟩
      ·subst e
       exact hgo d _ (PU.ML H hr hv hg eZ hown hn _) h5
      ·simp only [addrOf] at h
       obtain ⟨R,hr,hv,h⟩:=bU h
       rcases ay h with ⟨hc,h⟩ | ⟨_,h⟩
       ·simp only [ank] at hc
        cases uu:aR p R.k R.x with
        | none=>rw [uu] at h; exact h.elim
        | some d=>
         rw [uu] at h
         have hown:=jw hc.2
         obtain ⟨g1,cs,b,o,g2,g3⟩:=h1.1.2 R hr.1 hv hc.1 hown (by rw [uu]; rfl)
         subst g3
         exact hgo d _ (PU.ML H hr hv uu g1 hown g2 _) h
       ·exact h.elim
     | jE bt kx y Tg=>
      simp only [addrOf] at h
      obtain ⟨hc,h⟩:=gG h
      exact hgo ⟨kx,y⟩ Tg (PU.Zz h1.1 (h2 (.jE bt kx y Tg) (by simp)) hc) h
     | _=>exact h.elim
    | rw kk ow wt ht=>
     simp only [kI] at h
     cases x with
     | ptr r p n=>
      simp only at h
      obtain ⟨R,hr,hv,h⟩:=bU h
      rcases ay h with ⟨hc,h⟩ | ⟨_,h⟩
      ·simp only [ank] at hc
       cases uu:aR p R.k R.x with
       | none=>rw [uu] at h; exact h.elim
       | some d=>
        rw [uu] at h
        simp only at h
        cases hck:bQ d.1 kk d.2 with
        | none=>rw [hck] at h; exact h.elim
        | some y=>
         rw [hck] at h
         obtain ⟨ek,ey⟩:=bF hck
         obtain ⟨dk,dx⟩:=d
         simp only at ek ey h
         subst ek
         subst ey
         rcases ay h with ⟨hj,h⟩ | ⟨_,h⟩
         ·have hown:=jw hc.2
          obtain ⟨g1,cs,b,o,g2,g3⟩:=h1.1.2 R hr.1 hv hc.1 hown (by rw [uu]; rfl)
          obtain ⟨c,is,ts,f1,f2⟩:=ih h1.2 h2' h
          exact ⟨(y,c),⟨R.tags,some (r,p,wt,ht),[],[eO R p]⟩ :: is,ts,⟨⟨r,R,p,⟨rfl,rfl,rfl,hr,hv,uu,g1,hown,hj⟩,rfl,cs,b,o,g2,g3⟩,f1⟩,f2⟩
         ·exact h.elim
      ·exact h.elim
     | _=>exact h.elim
    | lI kk ow wt=>
     simp only [kI] at h
     have hgo:∀(r:Nat) (R:Root) (p:List Stp) (d:Dat),aQ Z r R->bB Z R->aR p R.k R.x=some d->mG p R.k R.x->(∀t∈ah p R.k,az t R.own=true)->(∃cs wh,bH (hp w) p R.k (J.hdr r) (dY J R r)=some (cs,wh)/\VC d.1 v cs)->
       (match bQ d.1 kk d.2 with
       | some y=>bif oH kk R.own ow then kI ps IM fun c is=>k (y,c) (⟨R.tags,some (r,p,wt,kk.tys),[],[]⟩ :: is) else .fail
       | none=>.fail).ends Z z->∃c is ts,PM cx Z J F a w (.lI kk ow wt :: ps) c (v :: vs) is ts/\(k c is).ends Z z:=by
      intro r R p d hr hv hg eZ hown hn h
      cases hck:bQ d.1 kk d.2 with
      | none=>rw [hck] at h; exact h.elim
      | some y=>
       rw [hck] at h
       obtain ⟨ek,ey⟩:=bF hck
       obtain ⟨dk,dx⟩:=d
       simp only at ek ey h hn
       subst ek
       subst ey
       rcases ay h with ⟨hj,h⟩ | ⟨_,h⟩
       ·obtain ⟨c,is,ts,f1,f2⟩:=ih h1.2 h2' h
        exact ⟨(y,c),⟨R.tags,some (r,p,wt,dk.tys),[],[]⟩ :: is,ts,⟨⟨r,R,p,⟨rfl,rfl,rfl,hr,hv,hg,eZ,hown,hj⟩,rfl,hn⟩,f1⟩,f2⟩
       ·exact h.elim
     cases x with
     | rH r p n=>
      simp only at h
      obtain ⟨R,hr,hv,h⟩:=bU h
      rcases ay h with ⟨hc,h⟩ | ⟨_,h⟩
      ·cases uu:aR p R.k R.x with
       | none=>rw [uu] at h; exact h.elim
       | some d=>
        rw [uu] at h
        obtain ⟨g1,g2,cs,wh,g3,g4⟩:=h1.1 R hr.1 hv (ani hc) d uu
        exact hgo r R p d hr hv uu g1 g2 ⟨cs,wh,g3,g4⟩ h
      ·exact h.elim
     | ref r g=>
      simp only at h
      obtain ⟨R,hr,hv,h⟩:=bU h
      rcases ay h with ⟨hc,h⟩ | ⟨_,h⟩
      ·obtain ⟨_,g4⟩:=h1.1 R hr (ani hc)
       exact hgo r R [] ⟨R.k,R.x⟩ hr hv rfl trivial (fun t ht=>by simp [ah] at ht) ⟨_,_,rfl,g4⟩ h
      ·exact h.elim
     | _=>exact h.elim
    | own kk ow=>
     simp only [kI] at h
     obtain ⟨tk,htk,h⟩:=qG H h1.1 (h2 x (by simp)) h
     cases hck:bQ tk.k kk tk.x with
     | none=>rw [hck] at h; exact h.elim
     | some y=>
      rw [hck] at h
      obtain ⟨ek,ey⟩:=bF hck
      simp only at h
      rcases ay h with ⟨hj,h⟩ | ⟨_,h⟩
      ·obtain ⟨c,is,ts,f1,f2⟩:=ih h1.2 h2' h
       exact ⟨(y,c),⟨tk.tags,none,tk.ws,[]⟩ :: is,(v,tk) :: ts,⟨⟨rfl,htk,rfl,⟨ek,ey⟩,hj⟩,f1⟩,f2⟩
      ·exact h.elim
    | fn f ks=>
     simp only [kI] at h
     cases x with
     | fn f' caps=>
      simp only at h
      rcases ay h with ⟨hf,h⟩ | ⟨_,h⟩
      ·obtain ⟨us,e1,e2⟩:=h1.1
       obtain ⟨c0,T0,g1,h⟩:=Rs (a:=a) e2 (fun c hc=>h2 (.fn f' caps) (by simp) c hc) h
       obtain ⟨c,is,ts,f1,f2⟩:=ih h1.2 h2' h
       refine ⟨Cont.app ks (kin ps) c0 c,⟨T0,none,[],[]⟩ :: is,ts,⟨⟨rfl,rfl,rfl,us, ?_, ?_⟩, ?_⟩,f2⟩
       ·rw [e1,ani hf]
       ·rw [BG]; exact g1
       ·rw [Ci]; exact f1
      ·exact h.elim
     | _=>exact h.elim
    | into j q=>
     cases q with
     | cons _ _=>exact h.elim
     | nil=>
      cases x with
      | jy=>
       obtain ⟨b,hb⟩:=h1.1
       obtain ⟨c,is,ts,f1,f2⟩:=ih h1.2 h2' h
       exact ⟨c,⟨[],none,[],[]⟩ :: is,ts,⟨⟨rfl,rfl,rfl,b,hb⟩,f1⟩,f2⟩
      | _=>exact h.elim
end
end
section
open Go
variable [Fr]
structure GA where
 v:Value
 cs:List Value
 fo:List Nat
 base:Option (Nat×Nat)
 ow:Bool
 wb:Bool
def y7 (p:gq) (i:Nat) (c:Cont p.kin):AV:=match p,c with
 | .val k iQ,c=>.val k c.1 (bif k.flat then [] else (pO i,0) :: iQ.map fun j=>(aA j,0))
 | .ro k,c=>.jE SENT k c.1 [(pO i,0)]
 | .rw _ _ _ _,_=>.ptr (aA i) [] 0
 | .lI _ _ _,_=>.ref (aA i) 0
 | .own _ _,_=>.ref (aA i) 0
 | .fn f ks,c=>.fn f (kr.xR i ks c)
 | .into _ _,_=>.jy
def eB (p:gq) (i:Nat) (c:Cont p.kin):Option Root:=match p,c with
 | .rw k ow _ _,c=>some (aK k c.1 ow (bif k.tys.all (fun t=>az t ow) then [] else [(pO i,0)]) .par true)
 | .lI k ow _,c=>some { aK k c.1 ow (bif k.tys.all (fun t=>az t ow) then [] else [(pO i,0)]) .anon true with fixed:=true }
 | .own k ow,c=>some (aK k c.1 ow (bif k.tys.all (fun t=>az t ow) then [] else [(pO i,0)]) .anon)
 | _,_=>none
def U8:(p:gq)->(ps:List gq)->Cont (kin (p :: ps))->Cont p.kin
 | .val _ _,_,c=>(c.1,())
 | .ro _,_,c=>(c.1,())
 | .rw _ _ _ _,_,c=>(c.1,())
 | .lI _ _ _,_,c=>(c.1,())
 | .own _ _,_,c=>(c.1,())
 | .fn _ ks,ps,c=>Cont.fst ks (kin ps) c
 | .into _ p,ps,c=>Cont.fst (gq.into 0 p).kin (kin ps) c
def ZK:(p:gq)->(ps:List gq)->Cont (kin (p :: ps))->Cont (kin ps)
 | .val _ _,_,c=>c.2
 | .ro _,_,c=>c.2
 | .rw _ _ _ _,_,c=>c.2
 | .lI _ _ _,_,c=>c.2
 | .own _ _,_,c=>c.2
 | .fn _ ks,ps,c=>Cont.snd ks (kin ps) c
 | .into _ p,ps,c=>Cont.snd (gq.into 0 p).kin (kin ps) c
theorem AA (p:gq) (ps:List gq) (i:Nat) (c:Cont (kin (p :: ps))):kr (p :: ps) i c=(i,y7 p i (U8 p ps c)) :: kr ps (i+1) (ZK p ps c):=by cases p <;> rfl
theorem vF (p:gq) (ps:List gq) (i:Nat) (c:Cont (kin (p :: ps))):gX (p :: ps) i c=(match eB p i (U8 p ps c) with
 | some R=>[(aA i,R)]
 | none=>[])++gX ps (i+1) (ZK p ps c):=by cases p <;> rfl
theorem MO {i j:Nat} (h:aA i=aA j):i=j:=by unfold aA at h; omega
theorem D9:∀(ps:List gq) (i:Nat) (c:Cont (kin ps)) (s:Nat),ru (kr ps i c) s=.one .undef\/∃j p cj,s=i+j/\ps[j]?=some p/\ru (kr ps i c) s=.one (y7 p s cj)
 | [],i,c,s=>.inl rfl
 | p :: ps,i,c,s=>by
  rw [AA]
  simp only [ru]
  by_cases h:s=i
  ·subst h
   refine .inr ⟨0,p,U8 p ps c,rfl,rfl, ?_⟩
   simp
  ·have:Nat.beq s i=false:=by
    cases hb:Nat.beq s i with
    | true=>exact absurd (ani hb) h
    | false=>rfl
   rw [this]
   simp only [an3]
   rcases D9 ps (i+1) (ZK p ps c) s with h1 | ⟨j,q,cj,h1,h2,h3⟩
   ·exact .inl h1
   ·exact .inr ⟨j+1,q,cj,by omega,by simpa using h2,h3⟩
theorem xx (l m:List (Nat×Root)) (n:Nat):gZ (l++m) n=match gZ l n with
 | some R=>some R
 | none=>gZ m n:=by
 induction l with
 | nil=>rfl
 | cons q l ih=>
  obtain ⟨s,a⟩:=q
  simp only [anW,gZ]
  cases Nat.beq n s with
  | true=>rfl
  | false=>exact ih
theorem Jf:∀(ps:List gq) (i:Nat) (c:Cont (kin ps)) (r:Nat),r<aA i->gZ (gX ps i c) r=none
 | [],_,_,_,_=>rfl
 | p :: ps,i,c,r,h=>by
  rw [vF,xx]
  have h2:=Jf ps (i+1) (ZK p ps c) r (by unfold aA at h ⊢; omega)
  cases eB p i (U8 p ps c) with
  | none=>exact h2
  | some R=>
   have:Nat.beq r (aA i)=false:=by
    cases hb:Nat.beq r (aA i) with
    | true=>have:=ani hb; omega
    | false=>rfl
   simp only [gZ,this,an3]
   exact h2
def JN (cx:Cx) (Z:St) (J:dP) (F:List Nat) (a:Act) (w:World) (r:Nat) (R:Root) (p:List Stp) (d:Dat) (cs1:List Value) (nG:Option (Nat×Nat)) (fT:List Nat):Prop:=
 ∃rest,(J.fo r).Perm (fT++rest)/\(∀b o,nG=some (b,o)->b∈rest\/∃o0,dY J R r=some (b,o0)/\o0<=o/\o+d.1.size<=o0+R.k.size)/\(∀b o,nG=some (b,o)->b∉fT)/\
  ∀{t z:Dat} {tags':List Tag} {lw lh:List TypeId} {kp:Bool} {ft F':List Nat} {cs':List Value} {w':World},rR cx Z J F w r R p d R.own cs1 nG fT rest t z tags' lw lh kp ft F' cs' w'->
    ∃J',Rel cx (au Z r (bO R z R.own tags' lw lh kp)) J' F' a w'/\nA cx Z J F w (au Z r (bO R z R.own tags' lw lh kp)) J' F' w' (sj r lw) (sj r lh)/\(∀b∈blk J' (bO R z R.own tags' lw lh kp) r,(∃o,dY J R r=some (b,o))\/b∈ft\/b∈rest)/\
     (qh∉lh->bB (au Z r (bO R z R.own tags' lw lh kp)) (bO R z R.own tags' lw lh kp)->bH (hp w') p z.1 (J'.hdr r) (dY J' (bO R z R.own tags' lw lh kp) r)=some (cs',nG))/\∀b∈ft,b∈J'.fo r
def Tt (cx:Cx) (Z:St) (J:dP) (F:List Nat) (a:Act) (w:World) (p:gq) (c:Cont p.kin) (v:Value) (i:dz) (g:GA):Prop:=g.v=v/\match p,c with
 | .val k _,c=>g.ow=false/\g.wb=false/\i.wb=none/\g.fo=[]/\g.base=none/\VC k v g.cs/\Vw (hp w) (jc cx Z J F w i.ids) k c.1 g.cs
 | .ro k,c=>g.ow=false/\g.wb=false/\i.wb=none/\g.fo=[]/\g.base=none/\∃b o,v=.pointer (some ⟨b,o,none⟩)/\Cells (hp w) b o g.cs/\Vw (hp w) (jc cx Z J F w i.ids) k c.1 g.cs/\GH Z J F w i.ids b
 | .rw k ow wt ht,c=>g.ow=false/\g.wb=true/\∃r R p b o,Y7 cx Z J w k c.1 ow i wt ht r R p/\i.bt=[eO R p]/\bH (hp w) p R.k (J.hdr r) (dY J R r)=some (g.cs,some (b,o))/\v=.pointer (some ⟨b,o,none⟩)/\g.base=some (b,o)/\
   Ow (hp w) R.own (jc cx Z J F w R.tags) k c.1 g.cs g.fo/\(∀b∈g.fo,b∈J.fo r)/\g.fo.Nodup/\b∉g.fo/\JN cx Z J F a w r R p ⟨k,c.1⟩ g.cs (some (b,o)) g.fo
 | .lI k ow wt,c=>g.ow=false/\g.wb=true/\∃r R p wh,Y7 cx Z J w k c.1 ow i wt k.tys r R p/\i.bt=[]/\bH (hp w) p R.k (J.hdr r) (dY J R r)=some (g.cs,wh)/\VC k v g.cs/\g.base=none/\
   Ow (hp w) R.own (jc cx Z J F w R.tags) k c.1 g.cs g.fo/\(∀b∈g.fo,b∈J.fo r)/\g.fo.Nodup/\JN cx Z J F a w r R p ⟨k,c.1⟩ g.cs wh g.fo
 | .own k ow,c=>g.ow=true/\g.wb=false/\i.wb=none/\g.base=none/\VC k v g.cs/\Ow (hp w) ow (jc cx Z J F w i.ids) k c.1 g.cs g.fo/\(∀b∈g.fo,b∈F)/\g.fo.Nodup
 | .fn f ks,c=>g.ow=false/\g.wb=false/\i.wb=none/\g.fo=[]/\g.base=none/\∃us:List Value,v=.func (.func f) #[] us.toArray/\Py ks c us i.ids
 | .into _ _,_=>g.ow=false/\g.wb=false/\i.wb=none/\g.fo=[]/\g.base=none/\∃b,v=.slice b 0 0
where Py:(ks:List K)->Cont ks->List Value->List Tag->Prop
 | [],_,[],_=>True
 | k :: ks,c,v :: vs,ids=>(∃b o cs,v=.pointer (some ⟨b,o,none⟩)/\Cells (hp w) b o cs/\Vw (hp w) (jc cx Z J F w ids) k c.1 cs/\GH Z J F w ids b)/\Py ks c.2 vs ids
 | _,_,_,_=>False
def WR (cx:Cx) (Z:St) (J:dP) (F:List Nat) (a:Act) (w:World):(ps:List gq)->Cont (kin ps)->List Value->List dz->List GA->Prop
 | [],_,[],[],[]=>True
 | p :: ps,c,v :: vs,i :: is,g :: gs=>Tt cx Z J F a w p (U8 p ps c) v i g/\WR cx Z J F a w ps (ZK p ps c) vs is gs
 | _,_,_,_,_=>False
section
variable {P:Program} {T:jh} {cx:Cx} {Z:St} {J:dP} {F:List Nat} {a:Act} {w:World}
theorem Aa.caps {Z1:St} {dR:dP} {F1:List Nat} {ids:List Tag} (hT:Tk cx Z J F a w Z1 dR F1 ids):∀{ks:List K} {c:Cont ks} {us:List Value},Aa cx Z J F a w ids ks c us->Tt.Py cx Z1 dR F1 w ks c us ids
 | [],_,[],_=>trivial
 | _ :: _,_,_ :: _,⟨⟨b,o,cs,h1,h2,h3⟩,hh⟩=>⟨⟨b,o,cs,h1,h2,h3 Z1 dR F1 hT⟩,Aa.caps hT hh⟩
 | [],_,_ :: _,hh=>hh.elim
 | _ :: _,_,[],hh=>hh.elim
theorem NN {Z1:St} {dR:dP} {F1:List Nat} (H1:Rel cx Z1 dR F1 a w) (hV:Views cx Z J F w Z1 dR F1 w):∀{ps:List gq} {c:Cont (kin ps)} {vs:List Value} {is:List dz} {ts:List (Value×iW)} {hs:List (List Value×List Nat)},
  PM cx Z J F a w ps c vs is ts->qX cx Z1 dR F1 w ts hs->(∀i∈is,∀t∈i.ids,Same Z J Z1 dR t.1)->(∀i∈is,∀r q,i.wb=some (r,q)->Same Z J Z1 dR r)->
  ∃gs,WR cx Z1 dR F1 a w ps c vs is gs/\(gs.flatMap fun g=>bif g.ow then g.fo else [])=hs.flatMap (·.2):=by
 intro ps
 induction ps with
 | nil=>
  intro c vs is ts hs h hh _ _
  cases vs with
  | cons _ _=>exact h.elim
  | nil=>cases is with
   | cons _ _=>exact h.elim
   | nil=>cases ts with
    | cons _ _=>exact h.elim
    | nil=>cases hs with
     | cons _ _=>exact hh.elim
     | nil=>exact ⟨[],trivial,rfl⟩
 | cons p ps ih=>
  intro c vs is ts hs h hh hS hR
  have hpl:∀{k:K} {x:El k} {ow:List TypeId} {i:dz} {wt ht:List TypeId} {r:Nat} {R:Root} {p:List Stp} {cs:List Value} {wh:Option (Nat×Nat)},Y7 cx Z J w k x ow i wt ht r R p->(∀t∈i.ids,Same Z J Z1 dR t.1)->Same Z J Z1 dR r->
    bH (hp w) p R.k (J.hdr r) (dY J R r)=some (cs,wh)->Y7 cx Z1 dR w k x ow i wt ht r R p/\bH (hp w) p R.k (dR.hdr r) (dY dR R r)=some (cs,wh)/\
     ∃fo,Ow (hp w) R.own (jc cx Z1 dR F1 w R.tags) k x cs fo/\(∀b∈fo,b∈dR.fo r)/\fo.Nodup/\(∀b o,wh=some (b,o)->b∉fo)/\JN cx Z1 dR F1 a w r R p ⟨k,x⟩ cs wh fo:=by
   intro k x ow i wt ht r R p cs wh hP hid hr hn
   have hr1:=(hr.live R).2 hP.lv
   have hv1:bB Z1 R:=⟨hP.vl.1,by rw [fK (fun t ht=>(hid t (by rw [hP.ids]; exact ht)).root)]; exact hP.vl.2⟩
   have hn1:bH (hp w) p R.k (dR.hdr r) (dY dR R r)=some (cs,wh):=by rw [hr.hdr,hr.wh]; exact hn
   have K:=H1.roots r R hr1
   have hnd:=K.nd
   rw [bX,nD] at hnd
   obtain ⟨fd,ok',fT,rest,pz,wh2,hn',hpf,hd1,hty,hall,yf,hwf,hgo⟩:=H1.place hr1 hv1 (own':=R.own) hP.get hP.pin (fun _ h=>h) hP.own
   rw [hn1] at hn'
   simp only [ane,anp] at hn'
   obtain ⟨rfl,rfl⟩:=hn'
   obtain ⟨hfd,hO⟩:=hall (fun _ _=>rfl)
   subst hfd
   rw [anJ] at hpf
   have pQ:=hpf.nodup hnd.2
   exact ⟨⟨hP.wb,hP.ws,hP.ids,hr1,hv1,hP.get,hP.pin,hP.own,hP.just⟩,hn1,fT,hO,fun b hb=>hpf.mem_iff.2 (anj _ hb),(anl.1 pQ).1,hwf,rest,hpf,yf,hwf,hgo⟩
  cases vs with
  | nil=>cases p <;> exact h.elim
  | cons v vs=>
   cases is with
   | nil=>cases p <;> exact h.elim
   | cons i is=>
    have hS1:=hS i (by simp)
    have hR1:=hR i (by simp)
    have Qb:Tk cx Z J F a w Z1 dR F1 i.ids:=⟨H1,hV,hS1⟩
    have hS2:∀i∈is,∀t∈i.ids,Same Z J Z1 dR t.1:=fun i hi=>hS i (by simp [hi])
    have hR2:∀i∈is,∀r q,i.wb=some (r,q)->Same Z J Z1 dR r:=fun i hi=>hR i (by simp [hi])
    cases p with
    | val k iQ=>
     obtain ⟨⟨h1,h2,h3,cs,h4,h5⟩,h6⟩:=h
     obtain ⟨gs,g1,g2⟩:=ih h6 hh hS2 hR2
     exact ⟨⟨v,cs,[],none,false,false⟩ :: gs,⟨⟨rfl,rfl,rfl,h1,rfl,rfl,h4,h5 Z1 dR F1 Qb⟩,g1⟩,by simpa using g2⟩
    | ro k=>
     obtain ⟨⟨h1,h2,h3,b,o,cs,h4,h5,h7⟩,h6⟩:=h
     obtain ⟨gs,g1,g2⟩:=ih h6 hh hS2 hR2
     exact ⟨⟨v,cs,[],none,false,false⟩ :: gs,⟨⟨rfl,rfl,rfl,h1,rfl,rfl,b,o,h4,h5,h7 Z1 dR F1 Qb⟩,g1⟩,by simpa using g2⟩
    | rw k ow wt ht=>
     obtain ⟨⟨r,R,p,hP,hbt,cs,b,o,hn,hv⟩,h6⟩:=h
     obtain ⟨gs,g1,g2⟩:=ih h6 hh hS2 hR2
     obtain ⟨q1,q2,fo,q3,q4,q5,q6,q7⟩:=hpl hP hS1 (hR1 r _ hP.wb) hn
     exact ⟨⟨v,cs,fo,some (b,o),false,true⟩ :: gs,⟨⟨rfl,rfl,rfl,r,R,p,b,o,q1,hbt,q2,hv,rfl,q3,q4,q5,q6 b o rfl,q7⟩,g1⟩,by simpa using g2⟩
    | lI k ow wt=>
     obtain ⟨⟨r,R,p,hP,hbt,cs,wh,hn,hv⟩,h6⟩:=h
     obtain ⟨gs,g1,g2⟩:=ih h6 hh hS2 hR2
     obtain ⟨q1,q2,fo,q3,q4,q5,q6,q7⟩:=hpl hP hS1 (hR1 r _ hP.wb) hn
     exact ⟨⟨v,cs,fo,none,false,true⟩ :: gs,⟨⟨rfl,rfl,rfl,r,R,p,wh,q1,hbt,q2,hv,rfl,q3,q4,q5,q7⟩,g1⟩,by simpa using g2⟩
    | own k ow=>
     cases ts with
     | nil=>exact h.elim
     | cons q ts=>
      cases hs with
      | nil=>exact hh.elim
      | cons hd hs=>
       obtain ⟨⟨h1,h2,h3,⟨ek,ey⟩,h5⟩,h6⟩:=h
       obtain ⟨⟨k1,k2,k3⟩,k4⟩:=hh
       obtain ⟨gs,g1,g2⟩:=ih h6 k4 hS2 hR2
       obtain ⟨v',tk⟩:=q
       simp only at h1 h2 h3 ek ey h5 k1 k2 k3
       subst h1
       have hO:Ow (hp w) ow (jc cx Z1 dR F1 w tk.tags) k c.1 hd.1 hd.2:=by
        refine qY (fun t ht=>?_) (tC ek ey (k2.ow k3))
        have:=anu.1 h5 t ht
        exact (by simpa using this:az t tk.own=az t ow).symm
       refine ⟨⟨v',hd.1,hd.2,none,true,false⟩ :: gs,⟨⟨rfl,rfl,rfl,by rw [h3],rfl,ek▸k1,by rw [h3]; exact hO,k2.sub,k2.nd⟩,g1⟩,by simp [g2]⟩
    | fn f ks=>
     obtain ⟨⟨h1,h2,h3,us,h4,h5⟩,h6⟩:=h
     obtain ⟨gs,g1,g2⟩:=ih h6 hh hS2 hR2
     exact ⟨⟨v,[],[],none,false,false⟩ :: gs,⟨⟨rfl,rfl,rfl,h1,rfl,rfl,us,h4,h5.caps Qb⟩,g1⟩,by simpa using g2⟩
    | into j q=>
     obtain ⟨⟨h1,h2,h3,b,h4⟩,h6⟩:=h
     obtain ⟨gs,g1,g2⟩:=ih h6 hh hS2 hR2
     exact ⟨⟨v,[],[],none,false,false⟩ :: gs,⟨⟨rfl,rfl,rfl,h1,rfl,rfl,b,h4⟩,g1⟩,by simpa using g2⟩
theorem WR.at:∀{ps:List gq} {c:Cont (kin ps)} {vs:List Value} {is:List dz} {gs:List GA} {i0:Nat},WR cx Z J F a w ps c vs is gs->
  vs.length=ps.length/\is.length=ps.length/\gs.length=ps.length/\∀j p,ps[j]?=some p->∃cj v i g,vs[j]?=some v/\is[j]?=some i/\gs[j]?=some g/\Tt cx Z J F a w p cj v i g/\
   ru (kr ps i0 c) (i0+j)=.one (y7 p (i0+j) cj)/\gZ (gX ps i0 c) (aA (i0+j))=eB p (i0+j) cj:=by
 intro ps
 induction ps with
 | nil=>
  intro c vs is gs i0 h
  cases vs with
  | cons _ _=>exact h.elim
  | nil=>cases is with
   | cons _ _=>exact h.elim
   | nil=>cases gs with
    | cons _ _=>exact h.elim
    | nil=>exact ⟨rfl,rfl,rfl,fun j p hp=>by simp at hp⟩
 | cons p ps ih=>
  intro c vs is gs i0 h
  cases vs with
  | nil=>exact h.elim
  | cons v vs=>cases is with
   | nil=>exact h.elim
   | cons i is=>cases gs with
    | nil=>exact h.elim
    | cons g gs=>
     obtain ⟨h1,h2⟩:=h
     obtain ⟨l1,l2,l3,h3⟩:=ih (i0:=i0+1) h2
     refine ⟨by simp [l1],by simp [l2],by simp [l3],fun j q hq=>?_⟩
     cases j with
     | zero=>
      simp only [anU,ane] at hq
      subst hq
      refine ⟨U8 p ps c,v,i,g,rfl,rfl,rfl,h1, ?_, ?_⟩
      ·rw [AA]; simp [ru]
      ·rw [vF,xx]
       cases hr:eB p i0 (U8 p ps c) with
       | none=>
        simp only [gZ,aoS]
        rw [Jf ps (i0+1) (ZK p ps c) (aA i0) (by unfold aA; omega)]
       | some R=>simp [gZ]
     | succ j=>
      obtain ⟨cj,v',i',g',e1,e2,e3,e4,e5,e6⟩:=h3 j q (by simpa using hq)
      have ej:i0+(j+1)=i0+1+j:=by omega
      refine ⟨cj,v',i',g',e1,e2,e3,e4, ?_, ?_⟩
      ·rw [AA,ej]
       simp only [ru]
       have:Nat.beq (i0+1+j) i0=false:=by
        cases hb:Nat.beq (i0+1+j) i0 with
        | true=>have:=ani hb; omega
        | false=>rfl
       rw [this]
       exact e5
      ·rw [vF,xx,ej]
       cases hr:eB p i0 (U8 p ps c) with
       | none=>exact e6
       | some R=>
        have:Nat.beq (aA (i0+1+j)) (aA i0)=false:=by
         cases hb:Nat.beq (aA (i0+1+j)) (aA i0) with
         | true=>have:=MO (ani hb); omega
         | false=>rfl
        simp only [gZ,this,an3]
        exact e6
theorem SC:∀{ps:List gq} {c:Cont (kin ps)} {i0 r:Nat} {R:Root},gZ (gX ps i0 c) r=some R->∃j p,r=aA (i0+j)/\ps[j]?=some p:=by
 intro ps
 induction ps with
 | nil=>intro c i0 r R h; simp [gX,gZ] at h
 | cons p ps ih=>
  intro c i0 r R h
  rw [vF,xx] at h
  have hrec:gZ (gX ps (i0+1) (ZK p ps c)) r=some R->∃j q,r=aA (i0+j)/\(p :: ps)[j]?=some q:=by
   intro h
   obtain ⟨j,q,h1,h2⟩:=ih h
   exact ⟨j+1,q,by rw [h1]; congr 1; omega,by simpa using h2⟩
  cases hr:eB p i0 (U8 p ps c) with
  | none=>rw [hr] at h; exact hrec h
  | some Q=>
   rw [hr] at h
   simp only [gZ] at h
   cases hb:Nat.beq r (aA i0) with
   | true=>exact ⟨0,p,ani hb,rfl⟩
   | false=>rw [hb] at h; exact hrec h
end
end
end Go.Proofs.YtailcbngagacaaaGreat.Ow

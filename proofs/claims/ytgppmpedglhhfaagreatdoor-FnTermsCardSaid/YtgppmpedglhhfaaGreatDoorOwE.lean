/- A verified reading of translated code, part E of 7. No condition. -/
import Derived.Test.YtgppmpedglhhfaaGreatDoorOwD
set_option linter.unusedSectionVars false
set_option linter.unusedVariables false
set_option linter.unusedSimpArgs false
namespace Go.Proofs.YtgppmpedglhhfaaGreatDoor.Ow
section
open Go
variable [Fr]
section
variable {P:Program}{T:bK}{cx:Cx}{Z:St}{J:aJ}{F:List Nat}{a:Act}{w:World}{o:Oper}{d:Nat}{ws:List Wr}
def mV(z:Array Value)(n:Nat):Array Value:=(Array.range n).map (z[· % z.size]!)
theorem run_buildSlice{t e:TypeId}{kk:K}(ht:dz P T t (.sl e kk)){len:Nat}{parts:Array (Nat×Value)}{cells:Array Value}(hb:len*kk.size<=16777216)
  (hf:Instr.fill (λi=>some (i*kk.size,kk.size)) (mV (dO kk).toArray (len*kk.size)) parts.toList=some cells) :
  (Instr.buildSlice t len parts).run P w=.ok (.slice (some ⟨w.heap.size,0,none⟩) len len) (w.alloc (.cells cells e)):=by
 obtain⟨hu,he,hk,_⟩:=ht.sl
 have hzc:=FM he.shape
 unfold Instr.buildSlice
 have h1:¬(len*kk.size>2 ^ 24):=by omega
 by_cases h0:len*kk.size=0
 ·have hf':Instr.fill (λi=>some (i*kk.size,kk.size)) #[] parts.toList=some cells:=by
   have e:mV (dO kk).toArray (len*kk.size)=#[]:=by
    apply XJ
    simp[mV,h0]
   rw[e]at hf
   exact hf
  have hr0:∀f:Nat->Value,Array.map f (Array.range 0)=#[]:=λf=>by apply XJ;simp
  simp[gG hu,he.info.sizeOf w,Result.andThen,h0,hr0,hf',newRow]
 ·have hf':Instr.fill (λi=>some (i*kk.size,kk.size)) ((Array.range (len*kk.size)).map λx=>(dO kk).toArray[x%(dO kk).toArray.size]!) parts.toList=some cells:=hf
  simp only[dH,gG hu,eZ,he.info.sizeOf w]
  rw[ah h1,ah h0]
  simp only[dH,eH,eZ,he.info.zero w,hzc,hf']
  simp[newRow,Result.andThen]
theorem ai4{kk:K}{len i:Nat}(hk:0<kk.size)(hz:(dO kk).length=kk.size)(hi:i<len):gP (mV (dO kk).toArray (len*kk.size)).toList kk.size i=dO kk:=by
 have hle:(i+1)*kk.size<=len*kk.size:=jP _ (by omega)
 rw[iB,lT]at hle
 apply Gj
 intro j
 by_cases hj:j<kk.size
 ·rw[qW hj,rX]
  unfold mV
  rw[Array.getElem?_map]
  have hlt:i*kk.size+j<len*kk.size:=by omega
  rw[Array.getElem?_range,aj hlt]
  simp only[gq,CO,hz]
  have hm:(i*kk.size+j)%kk.size=j:=by
   rw[Nat.mul_comm,Nat.mul_add_mod]
   exact Nat.mod_eq_of_lt hj
  rw[hm,getElem!_pos _ _ (by simp;omega)]
  simp[show j<(dO kk).length by omega]
 ·rw[pY (by rw[wE (m:=len) (by simp[mV]) hi];omega),pY (by omega)]
theorem am9{L:K->List TypeId}(hT:eU P T)(H:Rel cx Z J F a w)(hd:o.dst=some d)(hdn:d<cx.nt){t:TypeId}{len:Nat}{ps:Array (Nat×Operand)}
  (h:(match T.ty t with
   |some (.sl e kk)=>vS ps.toList λl=>GQ kk l ⟨[],[],[],[],false,[]⟩ λb=>bif !(qZ b.ws b.all&&Nat.ble (len*kk.size) 16777216)then .fail else bif Nat.beq (dL b.xs) len && !ay e b.bad then
     jS (aK d 0) (.ret (b.ws++[Wr.r (aK d 0) (some (bU (.sl e kk) b.xs (e :: eF (L kk) b.bad) b.tags .anon b.keep)),Wr.s d (.one (.ref (aK d 0) 0))]))
    else bif Nat.beq (dL b.xs) 0 then
     jS (aK d 0) (.ret [Wr.r (aK d 0) (some (bU (.sl e kk) (List.replicate len kk.zero) (e :: kk.tys) [] .anon)),Wr.s d (.one (.ref (aK d 0) 0))])
    else .fail
   |_=>(.fail:Prog (List Wr))).ends Z ws) (ho:o.op=.buildSlice t len ps):dG P cx o a w (aF ws Z):=by
 cases hty:T.ty t with
 |none=>rw[hty]at h;exact h.elim
 |some k0=>
  rw[hty]at h
  cases k0 with
  |sl e kk=>
   have ht:=hT.ty t _ hty
   obtain⟨hu,he,hk,_⟩:=ht.sl
   simp only at h
   obtain⟨vs,e1,h1,h2,h3⟩:=Sb H h
   obtain⟨tks,b',l1,l2,qP,yQ,h4⟩:=anQ H h1 h2 h3
   have hlen:vs.length=tks.length:=l1.symm
   have Hz:(vs.map (·.1)).length=tks.length:=by rw[oq];exact hlen
   have Be:((evs a ps.toList).map (·.2)).length=tks.length:=by rw[l2];exact hlen
   generalize hns:vs.map (·.1)=ns at *
   generalize hvv:(evs a ps.toList).map (·.2)=vals at *
   obtain⟨z1,z2,z3,z4⟩:=XG ns vals tks Hz Be
   obtain⟨f1,f2,f4,_,f6,_,f8,_,f9⟩:=anP _ yQ
   simp only[iA]at f1
   have f9':b'.xs.length=tks.length:=by rw[f9];simp;omega
   have Ib:∀h ok own,Ow h own ok kk kk.zero (dO kk) []:=λh ok own=>Ce he.fD
   have hzl:(dO kk).length=kk.size:=eY (Ib (hp w) (λ_=>True) [])
   have hzs:(mV (dO kk).toArray (len*kk.size)).size=len*kk.size:=by simp[mV]
   have hparts:((ps.map λ(p:Nat×Operand)=>(p.1,a.eval p.2)).toList)=ns.zip vals:=by
    rw[u7,<-hvv,e1]
    have:∀l:List (Nat×Operand),l.map (λp=>(p.1,a.eval p.2))=(l.map (·.1)).zip ((evs a l).map (·.2)):=by
     intro l
     induction l with
     |nil=>rfl
     |cons p l ih=>simp[evs]at ih ⊢;exact ih
    exact this _
   have abB:∀{cells:Array Value},len*kk.size<=16777216->Instr.fill (λi=>some (i*kk.size,kk.size)) (mV (dO kk).toArray (len*kk.size)) (ns.zip vals)=some cells->
     (execOp a.eval o).run P w=.ok (.value (.slice (some ⟨w.heap.size,0,none⟩) len len)) (w.alloc (.cells cells e)):=by
    intro cells hb hf
    have:=run_buildSlice (w:=w) ht (parts:=ps.map λ(p:Nat×Operand)=>(p.1,a.eval p.2)) hb (by rw[hparts];exact hf)
    simp only[execOp,ho,dH,this,eZ,eH]
   rcases bB h4 with⟨_,h5⟩|⟨hws,h5⟩
   ·exact h5.elim
   ·have qh:(qZ b'.ws b'.all&&Nat.ble (len*kk.size) 16777216)=true:=by simpa using hws
    rw[bf]at qh
    have abr:len*kk.size<=16777216:=Lb qh.2
    have DV:=qh.1
    unfold qZ at DV
    simp only[bf]at DV
    have hw1:=Gy.1 DV.1
    have hw2:=LC.1 DV.2
    rw[f1,<-z4]at hw1 hw2
    rcases bB h5 with⟨hc,h6⟩|⟨_,h6⟩
    ·rw[bf]at hc
     have hxl:b'.xs.length=len:=by rw[<-oL];exact bu hc.1
     have hbad:e∉b'.bad:=by have:=hc.2;simp only[jN,gF]at this;exact this
     obtain⟨g1,g2⟩:=oF h6
     rw[bC g2]
     obtain⟨J',F',hs,H',hA,hnd,hnF,Sq,hS,_⟩:=takes (vals.zip tks) H qP hw1 (λtg eD=>hw2 tg (by
      obtain⟨it,hit,h6⟩:=mW.1 eD
      have:it∈(ns.zip (vals.zip tks)).map (·.2):=by rw[z1];exact hit
      obtain⟨q,hq,rfl⟩:=d_.1 this
      exact f2 (q.1,q.2.2) (by rw[<-z2];exact d_.2 ⟨q,hq,rfl⟩) tg h6))
     have sO:=hA
     rw[<-z1]at hA
     have ho2:∀t,ay t (e :: eF (L kk) b'.bad)=true->t∉b'.bad:=λt ht=>by
      rcases bM.1 (fF.1 ht)with h|h
      ·rw[h];exact hbad
      ·exact(oM.1 (fF.2 h)).2
     obtain⟨gU,oC,p1,p2⟩:=WG (own':=e :: eF (L kk) b'.bad) (T:=b'.tags) (ns.zip (vals.zip tks)) hA
      (λit hit tg eD=>by
       cases hm:ay tg (e :: eF (L kk) b'.bad)with
       |false=>rfl
       |true=>exact absurd (f4 (it.1,it.2.2) (by rw[<-z2];exact d_.2 ⟨it,hit,rfl⟩) tg eD) (ho2 tg hm))
      (λit hit tg eD=>f6 (it.1,it.2.2) (by rw[<-z2];exact d_.2 ⟨it,hit,rfl⟩) tg eD)
     rw[z2,z3,z1]at p2
     have hzn:(ns.zip tks).map (·.1)=ns:=by rw[List.map_fst_zip (by omega)]
     obtain⟨cells',c1,c2,c3,c4⟩:=anO (N:=len) (ns.zip tks) (b:=⟨[],[],[],[],false,[]⟩) (cells:=mV (dO kk).toArray (len*kk.size)) (az:=[]) (by simp;omega) hzs rfl (λi hi=>by simp at hi) p2 yQ
     rw[hzn]at c1
     simp only[iA]at c3 c4
     have hrun:=abB abr c1
     have lK:=p1.nodup hnd
     have n2:=dJ.1 lK
     have hin:∀b∈hs.flatMap (·.2),b∈F':=Mg sO
     have hwt:fI (aF (dA (vals.zip tks)) Z) b'.tags:=by
      intro tg eD
      rcases f8 tg eD with h|⟨q,hq,hq2⟩
      ·simp at h
      ·rw[<-z2]at hq
       obtain⟨it,hit,rfl⟩:=d_.1 hq
       have hit2:it.2∈vals.zip tks:=by rw[<-z1];exact d_.2 ⟨it,hit,rfl⟩
       exact FB (Mh sO it.2 hit2) tg hq2
     have hnr:=Xr g1 qP
     have hn1:(aF (dA (vals.zip tks)) Z).roots (aK d 0)=none:=by rw[(hS _ hnr).root];exact g1
     have DW:b'.ws=dA (vals.zip tks):=by rw[f1,z4]
     obtain⟨gB,F2,k1,k2⟩:=ah5 (r:=aK d 0) (e:=e) (k:=kk) (xs:=b'.xs) (own:=e :: eF (L kk) b'.bad) (tags:=b'.tags) (arr:=cells') (lo:=0) (hi:=0) (n:=len) (c:=len) (az:=gU) (F1:=F'.filter λb=>!ay b (gU.flatten++oC)) H' hn1 (oK d 0)
      hwt (fF.2 (by simp)) iU.zero hxl.symm (bZ _) (by rw[c2];exact bZ _) c3 (λb hb=>hin b (p1.mem_iff.2 (by simp[hb]))) n2.1
      (λb hb=>by
       rw[jg]at hb
       have:=hb.2
       simp only[jN,gF,dh,not_or]at this
       exact⟨hb.1,this.1⟩) (H'.gL.filter _)
      (λi hi=>by
       have hsl:(gP cells'.toList kk.size i).length=kk.size:=wE (m:=len) (by rw[PI,c2]) (by omega)
       refine⟨_,hsl,λj hj=>?_,dR (λ_ _=>rfl) (λb hb=>?_) (λ_ _=>rfl) (c4 i hi)⟩
       ·rw[hsl]at hj
        rw[qW hj,rX]
       ·rcases hb with hb|hb
        ·exact .inl hb
        ·refine .inr ⟨hin b (p1.mem_iff.2 (by simp[hb])),λh=>?_,λh=>n2.2.2 b h b hb rfl⟩
         rw[jg]at h
         have:=h.2
         simp only[jN,gF,dh,not_or]at this
         exact this.2 hb) b'.keep w.drawn
     rw[DW,mY]
     exact nR (x:=.one (.ref (aK d 0) 0)) k1 hd hdn hrun k2 ⟨_,fQ ..,.inr (dW _)⟩
    ·rcases bB h6 with⟨hc,h7⟩|⟨_,h7⟩
     ·obtain⟨g1,g2⟩:=oF h7
      rw[bC g2]
      have hxl:b'.xs.length=0:=by rw[<-oL];exact bu hc
      have ht0:tks=[]:=rz (by omega)
      have hv0:vals=[]:=rz (by rw[ht0]at Be;simpa using Be)
      have hrun:=abB (cells:=mV (dO kk).toArray (len*kk.size)) abr (by rw[hv0];simp[Instr.fill])
      obtain⟨gB,F2,k1,k2⟩:=WT (r:=aK d 0) (e:=e) (k:=kk) (xs:=List.replicate len kk.zero) (own:=e :: kk.tys) (arr:=mV (dO kk).toArray (len*kk.size)) (lo:=0) (hi:=0) (n:=len) (c:=len) H g1 (oK d 0)
       (fF.2 (by simp)) iU.zero (by simp) (bZ _) (by rw[hzs];exact bZ _)
       (λi hi=>by
        have hi':i<len:=by simpa using hi
        refine⟨dO kk,hzl,λj hj=>?_,λh ok=>?_⟩
        ·have hs:=congrArg (λl=>l[j]?) (ai4 hk hzl hi')
         rw[qW (by omega),rX]at hs
         exact hs
        ·have:(List.replicate len kk.zero)[i]'hi=kk.zero:=by simp
         rw[this]
         exact Ib h ok _) false w.drawn
      exact nR (x:=.one (.ref (aK d 0) 0)) k1 hd hdn hrun k2 ⟨_,fQ ..,.inr (dW _)⟩
     ·exact h7.elim
  |_=>exact h.elim
end
section
variable {P:Program}{T:bK}{cx:Cx}{Z:St}{J:aJ}{F:List Nat}{a:Act}{w:World}{o:Oper}{d:Nat}{ws:List Wr}{r:Nat}{R:Root}
abbrev rR(R:Root)(e:TypeId)(kk:K)(ys:List (El kk)):Root:={ R with k:=.sl e kk,x:=ys,w:=e :: R.w }
theorem WW(H:Rel cx Z J F a w)(hr:aY Z r R)(hv:cZ Z R)(hk:R.kind=.anon){e:TypeId}{kk:K}{xs ys:List (El kk)}(hq:(⟨R.k,R.x⟩:Dat)=⟨.sl e kk,xs⟩)(hf:kk.flat=true)(hl:ys.length=xs.length){w':World}
  (hos:w'.os=w.os/\w'.tape=w.tape/\w'.output=w.output) (hsize:w.heap.size<=w'.heap.size) (o7:∀b,hp w' b≠hp w b->b∈J.fo r/\iH (hp w) b=some e) (how:∀ok,Ow (hp w') R.own ok (.sl e kk) ys (J.hdr r) (J.fo r)) :
  Rel cx (aO Z r (rR R e kk ys)) (bn J r (J.loc r) (J.hdr r) (J.fo r)) [] a w'/\
   ∀g v,g<=R.g->aW cx Z J F w (.ref r g) v->aW cx (aO Z r (rR R e kk ys)) (bn J r (J.loc r) (J.hdr r) (J.fo r)) [] w' (.ref r g) v:=by
 have hblk:blk J R r=J.fo r:=by simp[blk,aL,hk]
 have hk':(rR R e kk ys).kind=.anon:=hk
 have hRk:R.k=.sl e kk:=congrArg (λq:Dat=>q.1) hq
 have hd':(rR R e kk ys).cu=false:=by simp[Root.cu,hk]
 have K0:=H.roots r R hr
 have hnt:=H.fE r R hr.1
 have rM:∀g v,g<=R.g->aW cx Z J F w (.ref r g) v->aW cx (aO Z r (rR R e kk ys)) (bn J r (J.loc r) (J.hdr r) (J.fo r)) [] w' (.ref r g) v:=by
  intro g v _ hold Q hQ hg
  obtain⟨rfl,_⟩:=nY hQ
  obtain⟨h1,h2⟩:=hold R hr hg
  refine⟨h1,?_⟩
  simp only[bn,upd_same]
  rw[hRk]at h2
  exact h2
 have T1:uu cx Z J F w r R (rR R e kk ys) (J.fo r) [] w' [e] []:=by
  refine⟨.inr ⟨rfl,rfl,bZ _,rfl,λh=>by rw[hk]at h;simp at h,.inl (by simp)⟩,⟨λt ht=>hnt.1 t ht,λn hn=>hnt.2.2 n hn⟩,hos,hsize,λb hb hne=>?_,λ_ b hb=>?_,λb hb=>by simp at hb,mq,λ_ b _ h=>by simp at h,λj pi b o n hj hb DL hne=>?_,λ_=>⟨rfl,rfl⟩⟩
  ·obtain⟨h1,h2⟩:=o7 b hne
   exact .inr ⟨by rw[hblk];exact h1,.inr (.inl ⟨e,by simp,h2⟩)⟩
  ·rw[qb hk']at hb
   rw[hblk]
   exact .inl hb
  ·obtain⟨Q,hQ,hkq,_,_⟩:=H.kG j pi b o n hj hb
   have hQR:Q=R:=by have:=hQ.1;rw[<-DL,hr.1]at this;simpa using this.symm
   rw[hQR,hk]at hkq
   simp at hkq
 refine⟨T1.rel H hr (λ_=>⟨λ_=>how _,by rw[K0.len,hRk],λb o hb=>by rw[FK hk']at hb;simp at hb,by rw[qb hk',<-hblk];exact K0.nd⟩) ?_ (λ_=>rM),rM⟩
 intro _ p n v hn hold
 refine⟨hold.1,λQ hQ lZ hcl hty hs=>?_⟩
 rw[fQ]at hQ
 simp only[ak]at hQ
 subst hQ
 cases p with
 |nil=>
  obtain⟨_,cs,b,o,h1,_⟩:=hold.2 R hr.1 hv (by simp[clean,iR,ay]) (λt ht=>by simp[aC]at ht) rfl
  simp only[aR,ak,bS]at h1
  have:aL J R r=none:=by simp[aL,hk]
  rw[this]at h1
  simp at h1
 |cons s q=>
  have hcl':clean R.h n (iR (s :: q) R.k)=true:=by rw[hRk];exact hcl
  obtain⟨g1,cs,b,o,g2,g3⟩:=hold.2 R hr.1 hv hcl' (λt ht=>hty t (by rw[hRk]at ht;exact ht)) (by
   have h9:(aD (s :: q) (.sl e kk) ys).isSome=true:=hs
   rw[AU (s :: q) (y:=xs)]at h9
   have:=congrArg (λd:Dat=>(aD (s :: q) d.1 d.2).isSome) hq
   exact this.trans h9)
  have g1:=cast (congrArg (λd:Dat=>bW (s :: q) d.1 d.2) hq) g1
  simp only at g1
  cases s with
  |aU m=>exact g1.elim
  |idx i=>
   obtain⟨p1,p2,p3⟩:=g1
   rw[hRk]at g2
   have hwn:aL J R r=none:=by simp[aL,hk]
   have aqt:aL (bn J r (J.loc r) (J.hdr r) (J.fo r)) (rR R e kk ys) r=none:=by
    have hkk:(rR R e kk ys).kind=R.kind:=rfl
    unfold aL
    rw[hkk,hk]
   have hd2:(bn J r (J.loc r) (J.hdr r) (J.fo r)).hdr r=J.hdr r:=by simp[bn,upd_same]
   rw[aqt,hd2]
   simp only[aR]at g2
   split at g2
   ·rename_i ad m c hh
    obtain⟨k1,c1,k2⟩:=JS (h':=hp w') (own:=[]) q (y:=(show List (El kk)from ys).getD i.toNat kk.zero) (cs':=iE (hp w') ad.block (ad.off+i.toNat*kk.size) kk.size) p3 (λt ht=>by
     have:=zw q t ht
     rw[Dm hf]at this
     simp at this) g2
    refine⟨⟨p1,?_,k1⟩,c1,b,o,?_,g3⟩
    ·show i<((ys.length:Nat):Int)
     have:i<((xs.length:Nat):Int):=p2
     omega
    ·show aR (hp w') (.idx i :: q) (.sl e kk) (J.hdr r) none=_
     rw[hh]
     simp only[aR]
     exact k2
   ·simp at g2
theorem alF{own:List TypeId}{ok:Nat->Prop}{e:TypeId}{kk:K}{xs zs:List (El kk)}{b q n c s:Nat}{fo:List Nat}{news:List Value}(hf:kk.flat=true)(he:ay e own=true)(hs:s+zs.length<=xs.length)(hz:0<zs.length)(hkk:0<kk.size)
  (H:Ow (hp w) own ok (.sl e kk) xs [.slice (some ⟨b,q,none⟩) n c] fo) (hnl:news.length=zs.length*kk.size) (hel:∀i (hi:i<zs.length),Vw (hp w) (λ_=>True) kk zs[i] (gP news kk.size i)) (h1:∀v∈news,v.oneCell'=true) :
  (storeCells ⟨b,q+s*kk.size,none⟩ news).run P w=.ok () (w.setCells b (q+s*kk.size) news)/\b∈fo/\iH (hp w) b=some e/\(∀b',b'≠b->hp (w.setCells b (q+s*kk.size) news) b'=hp w b')/\(w.setCells b (q+s*kk.size) news).heap.size=w.heap.size/\
   ∀ok',Ow (hp (w.setCells b (q+s*kk.size) news)) own ok' (.sl e kk) (xs.take s++zs++xs.drop (s+zs.length)) [.slice (some ⟨b,q,none⟩) n c] fo:=by
 unfold Ow at H
 rw[aj he]at H
 obtain⟨a0,n',c',e1,e2,e3,H⟩:=H
 simp only[gW,mX,eO]at e1
 obtain⟨rfl,rfl,rfl⟩:=e1
 have e2:n=xs.length:=e2
 rcases H with⟨hc,_⟩|⟨bb,q',arr,lo,hi,ea,hb,hfr,hsz,az,hl,hp0,H⟩
 ·omega
 ·simp only[ak,pQ,eO]at ea
  obtain⟨rfl,rfl⟩:=ea
  have hm:(s+zs.length)*kk.size<=c*kk.size:=jP _ (by omega)
  rw[iB]at hm
  have hle:q+s*kk.size+news.length<=arr.size:=by rw[hnl];omega
  have hst:=J9 (P:=P) (o:=q+s*kk.size) news hb hfr hle h1
  obtain⟨s1,s2,fK,s3,s4,s5,s6⟩:=Fv b news w arr e (lo,hi) (q+s*kk.size) hb hle
  have h0:∀l∈az,l=[]:=by
   intro l hl'
   obtain⟨i,hi',rfl⟩:=wQ.1 hl'
   have hl:az.length=xs.length:=hl
   obtain⟨ds,_,h2⟩:=H i (by show i<xs.length;omega)
   have:=Zr hf h2
   rw[<-this];simp[eP,hi']
  have hg0:∀i,az.getD i []=[]:=λi=>by
   by_cases hi:i<az.length
   ·have:=h0 (az[i]) (om hi)
    simp[eP,hi,this]
   ·simp[eP,hi]
  refine⟨hst,hp0.mem_iff.2 (by simp),by unfold iH;rw[hb],s1,s2,λok'=>?_⟩
  unfold Ow
  rw[aj he]
  have hlen:(xs.take s++zs++xs.drop (s+zs.length)).length=xs.length:=by simp;omega
  refine⟨_,_,_,rfl,by show n=(xs.take s++zs++xs.drop (s+zs.length)).length;omega,e3,.inr ⟨b,q,fK,lo,hi,rfl,s3,by rw[s4];exact hfr,by rw[s4];exact hsz,az,by show az.length=(xs.take s++zs++xs.drop (s+zs.length)).length;rw[hlen];exact hl,hp0,λi hi=>?_⟩⟩
  rw[hg0]
  have hi':i<xs.length:=by have:i<(xs.take s++zs++xs.drop (s+zs.length)).length:=hi;omega
  have hcell:∀t,cellAt (hp (w.setCells b (q+s*kk.size) news)) b t=fK[t]?:=λt=>by unfold cellAt;rw[s3]
  have hcell0:∀t,cellAt (hp w) b t=arr[t]?:=λt=>by unfold cellAt;rw[hb]
  by_cases hin:s<=i/\i<s+zs.length
  ·have hx:(show List (El kk)from xs.take s++zs++xs.drop (s+zs.length))[i]'hi=zs[i-s]'(by omega):=by
    show(xs.take s++zs++xs.drop (s+zs.length))[i]'hi=_
    rw[CK (by simp;omega),K8 (by simp;omega)]
    congr 1
    simp
    omega
   rw[hx]
   have hlt:i-s<zs.length:=by omega
   have hv:=hel (i-s) hlt
   refine⟨gP news kk.size (i-s),λj hj=>?_,Af (λt ht=>?_) (lC hf hv)⟩
   ·rw[wE hnl hlt]at hj
    rw[hcell,qW hj]
    have hb2:(i-s+1)*kk.size<=zs.length*kk.size:=jP _ (by omega)
    rw[iB,lT]at hb2
    have hi2:i*kk.size=s*kk.size+(i-s)*kk.size:=by rw[<-iB];congr 1;omega
    rw[show q+i*kk.size+j=q+s*kk.size+((i-s)*kk.size+j) by omega]
    exact s5 _ (by rw[hnl];omega)
   ·rw[Dm hf]at ht;simp at ht
  ·have hx:(show List (El kk)from xs.take s++zs++xs.drop (s+zs.length))[i]'hi=xs[i]'hi':=by
    show(xs.take s++zs++xs.drop (s+zs.length))[i]'hi=_
    by_cases hlt:i<s
    ·rw[CK (by simp;omega),CK (by simp;omega)]
     simp
    ·rw[K8 (by simp;omega)]
     simp only[List.getElem_drop]
     congr 1
     simp
     omega
   rw[hx]
   obtain⟨ds,g1,g2⟩:=H i hi'
   have hg:=hg0 i
   rw[hg]at g2
   refine⟨ds,λj hj=>?_,Af (λt ht=>by rw[Dm hf]at ht;simp at ht) (lC hf (oV (λ_=>True) (λ_ _=>trivial) (λ_ _=>trivial) g2))⟩
   rw[hcell]
   have hj':=g1 j hj
   rw[hcell0]at hj'
   rw[<-hj']
   have hds:=eY g2
   refine s6 _ λhc=>hin ?_
   rw[hnl]at hc
   constructor
   ·refine j6 λh=>?_
    have:(i+1)*kk.size<=s*kk.size:=jP _ (by omega)
    rw[iB,lT]at this
    omega
   ·refine j6 λh=>?_
    have:(s+zs.length)*kk.size<=i*kk.size:=jP _ (by omega)
    rw[iB]at this
    omega
end
section
variable {P:Program}{T:bK}{cx:Cx}{Z:St}{J:aJ}{F:List Nat}{a:Act}{w:World}{o:Oper}{d:Nat}{ws:List Wr}{r:Nat}{R:Root}
theorem WU(H:Rel cx Z J F a w)(hr:aY Z r R)(hv:cZ Z R)(hk:R.kind=.anon){e:TypeId}{kk:K}{xs zs:List (El kk)}{s:Nat}(hq:(⟨R.k,R.x⟩:Dat)=⟨.sl e kk,xs⟩)(hf:kk.flat=true)(he:ay e R.own=true)(hkk:0<kk.size)(hs:s+zs.length<=xs.length)
  {b:Option Addr} {n c:Nat} (hh:J.hdr r=[.slice b n c]) {bb:Option Addr} (hbb:0<zs.length->bb=b.map (·.add (s*kk.size)))
  {news:List Value} (hnl:news.length=zs.length*kk.size) (hel:∀i (hi:i<zs.length),Vw (hp w) (λ_=>True) kk zs[i] (gP news kk.size i)) (h1:∀v∈news,v.oneCell'=true) :
  ∃w',(∀ad,bb=some ad->(storeCells ad news).run P w=.ok () w')/\(zs.length=0->w'=w)/\(0<zs.length->∃ad,bb=some ad)/\
   Rel cx (aO Z r (rR R e kk (xs.take s++zs++xs.drop (s+zs.length)))) (bn J r (J.loc r) (J.hdr r) (J.fo r)) [] a w'/\
   ∀g v,g<=R.g->aW cx Z J F w (.ref r g) v->aW cx (aO Z r (rR R e kk (xs.take s++zs++xs.drop (s+zs.length)))) (bn J r (J.loc r) (J.hdr r) (J.fo r)) [] w' (.ref r g) v:=by
 have hRk:R.k=.sl e kk:=congrArg (λq:Dat=>q.1) hq
 have hO:Ow (hp w) R.own (aN cx Z J F w R.tags) (.sl e kk) xs [.slice b n c] (J.fo r):=by
  have:=cast (congrArg (λq:Dat=>Ow (hp w) R.own (aN cx Z J F w R.tags) q.1 q.2 (J.hdr r) (J.fo r)) hq) ((H.roots r R hr).ow hv)
  simp only at this
  rw[hh]at this
  exact this
 by_cases hz:0<zs.length
 ·have hb0:∃bk q,b=some ⟨bk,q,none⟩:=by
   have lX:=hO
   unfold Ow at lX
   rw[aj he]at lX
   obtain⟨a0,n',c',e1,e2,e3,H'⟩:=lX
   simp only[gW,mX,eO]at e1
   obtain⟨rfl,rfl,rfl⟩:=e1
   have e2:n=xs.length:=e2
   rcases H' with⟨hc,_⟩|⟨bk,q,arr,lo,hi,ea,_⟩
   ·omega
   ·exact⟨bk,q,ea⟩
  obtain⟨bk,q,rfl⟩:=hb0
  obtain⟨g1,g2,g3,g4,g5,g6⟩:=alF (P:=P) (w:=w) hf he hs hz hkk hO hnl hel h1
  have hb1:bb=some ⟨bk,q+s*kk.size,none⟩:=by rw[hbb hz];simp[addr_add]
  obtain⟨r1,r2⟩:=WW (w':=w.setCells bk (q+s*kk.size) news) H hr hv hk (ys:=xs.take s++zs++xs.drop (s+zs.length)) hq hf (by simp;omega) (Fw _ _ _ _) (by omega)
   (λb' hb'=>by
    by_cases e:b'=bk
    ·subst e;exact⟨g2,g3⟩
    ·exact absurd (g4 b' e) hb') (λok=>by rw[hh];exact g6 ok)
  exact⟨_,λad ha=>by rw[hb1]at ha;simp only[ak]at ha;subst ha;exact g1,λh=>by omega,λ_=>⟨_,hb1⟩,r1,r2⟩
 ·have hz0:zs=[]:=rz (by omega)
  subst hz0
  have hn0:news=[]:=rz (by simpa using hnl)
  subst hn0
  have hys:xs.take s++[]++xs.drop (s+([]:List (El kk)).length)=xs:=by simp
  obtain⟨r1,r2⟩:=WW (w':=w) H hr hv hk (ys:=xs.take s++[]++xs.drop (s+([]:List (El kk)).length)) hq hf (by simp) ⟨rfl,rfl,rfl⟩ (bZ _) (λb' hb'=>absurd rfl hb') (λok=>by
   rw[hys,hh]
   have hO2:=lU (ok':=ok) (oQ (k:=.sl e kk) (own:=R.own) (λt ht=>by simp only[K.tys,Dm hf,gY]at ht;subst ht;exact he)) hO
   exact hO2)
  exact⟨w,λad _=>by cases ad;rfl,λ_=>rfl,λh=>by simp at h,r1,r2⟩
end
section
variable {P:Program}{T:bK}{cx:Cx}{Z:St}{J:aJ}{F:List Nat}{a:Act}{w:World}{o:Oper}{d:Nat}{ws:List Wr}{r:Nat}{R:Root}
theorem E_{A:Type}{z:A}{g:Nat}{k:Root->(e:TypeId)->(kk:K)->List (El kk)->Prog A}(h:(ownRow r g k).ends Z z) :
  ∃R e kk xs,aY Z r R/\cZ Z R/\R.g=g/\(⟨R.k,R.x⟩:Dat)=⟨.sl e kk,xs⟩/\kk.flat=true/\ay e R.own=true/\(k R e kk xs).ends Z z:=by
 unfold ownRow at h
 obtain⟨R,hr,hv,h⟩:=gH h
 rcases bB h with⟨hg,h⟩|⟨_,h⟩
 ·have hK:∀q:Dat,(⟨R.k,R.x⟩:Dat)=q->(match q.1,q.2 with
    |.sl e kk,xs=>bif kk.flat&&ay e R.own then k R e kk (show List (El kk)from xs)else .fail
    |_,_=>Prog.fail).ends Z z->∃R e kk xs,aY Z r R/\cZ Z R/\R.g=g/\(⟨R.k,R.x⟩:Dat)=⟨.sl e kk,xs⟩/\kk.flat=true/\ay e R.own=true/\(k R e kk xs).ends Z z:=by
   intro q hq hh
   obtain⟨qk,qx⟩:=q
   cases qk with
   |sl e kk=>
    simp only at hh
    rcases bB hh with⟨hc,hh⟩|⟨_,hh⟩
    ·simp only[bf]at hc
     exact⟨R,e,kk,qx,hr,hv,bu hg,hq,hc.1,hc.2,hh⟩
    ·exact hh.elim
   |_=>exact hh.elim
  exact hK _ rfl h
 ·exact h.elim
theorem Fp(H:Rel cx Z J F a w)(hr:aY Z r R)(hv:cZ Z R){e:TypeId}{kk:K}{xs:List (El kk)}(hq:(⟨R.k,R.x⟩:Dat)=⟨.sl e kk,xs⟩)(he:ay e R.own=true){v:Value}(h:VC R.k v (J.hdr r)) :
  ∃b n c,v=.slice b n c/\J.hdr r=[.slice b n c]/\n=xs.length/\n<=c:=by
 have hO:=cast (congrArg (λq:Dat=>Ow (hp w) R.own (aN cx Z J F w R.tags) q.1 q.2 (J.hdr r) (J.fo r)) hq) ((H.roots r R hr).ow hv)
 have hV:VC (.sl e kk) v (J.hdr r):=cast (congrArg (λq:Dat=>VC q.1 v (J.hdr r)) hq) h
 simp only at hO
 unfold Ow at hO
 rw[aj he]at hO
 obtain⟨b,n,c,e1,e2,e3,_⟩:=hO
 rw[hV.1]at e1
 simp only[gW,eO]at e1
 exact⟨b,n,c,e1,by rw[hV.1,e1],e2,e3⟩
theorem axZ{len cap:Nat}{lo hi:Option Int}{l h:Option Value}(hl:lo=none->l=none)(hl':∀j,lo=some j->∃ik,l=some (.int ik j))(hh:hi=none->h=none)(hh':∀j,hi=some j->∃ik,h=some (.int ik j))
  (h0:0<=lo.getD 0) (h1:lo.getD 0<=hi.getD (len:Int)) (h2:hi.getD (len:Int)<=(cap:Int)) :
  (Instr.sliceBounds true len cap l h none).run P w=.ok ((lo.getD 0).toNat,(hi.getD (len:Int)).toNat,cap) w:=by
 unfold Instr.sliceBounds
 cases hi with
 |none=>
  rw[hh rfl]
  simp only[CQ]at h1 h2
  cases lo with
  |none=>rw[hl rfl];simp
  |some j=>
   obtain⟨ik,e⟩:=hl' j rfl
   simp only[su]at h0 h1
   rw[e]
   simp[Instr.sliceBound,asIntOf,h0,h1]
 |some i=>
  obtain⟨ik,e⟩:=hh' i rfl
  simp only[su]at h1 h2
  have f1:0<=i:=by omega
  rw[e]
  cases lo with
  |none=>rw[hl rfl];simp[Instr.sliceBound,asIntOf,f1,h2]
  |some j=>
   obtain⟨ME,e2⟩:=hl' j rfl
   simp only[su]at h0 h1
   have g3:j<=max i 0:=by omega
   rw[e2]
   simp[Instr.sliceBound,asIntOf,f1,h2,h0]
   omega
theorem W_{t e:TypeId}{k:K}(ht:dz P T t (.sl e k)){b:Option Addr}{n c:Nat}{lo hi:Option Int}{l h:Option Value}(hl:lo=none->l=none)(hl':∀j,lo=some j->∃ik,l=some (.int ik j))(hh:hi=none->h=none)(hh':∀j,hi=some j->∃ik,h=some (.int ik j))
  (h0:0<=lo.getD 0) (h1:lo.getD 0<=hi.getD (n:Int)) (h2:hi.getD (n:Int)<=(c:Int)) :
  (Instr.sliceAt t (.slice b n c) l h none).run P w=.ok (.slice (if c=(lo.getD 0).toNat then b else b.map (·.add ((lo.getD 0).toNat*k.size))) ((hi.getD (n:Int)).toNat-(lo.getD 0).toNat) (c-(lo.getD 0).toNat)) w:=by
 obtain⟨hu,he,_,_⟩:=ht.sl
 unfold Instr.sliceAt Instr.slice
 simp only[dH,gG hu,Result.andThen,axZ (w:=w) hl hl' hh hh' h0 h1 h2,he.info.sizeOf w,eH]
theorem add_add(b:Option Addr)(m n:Nat):(b.map (·.add m)).map (·.add n)=b.map (·.add (m+n)):=by
 cases b with
 |none=>rfl
 |some ad=>obtain⟨x,y,z⟩:=ad;by_cases hm:m=0<;>by_cases hn:n=0<;>simp[Addr.add,hm,hn,ou]
theorem add_zero(b:Option Addr):b.map (·.add 0)=b:=by
 cases b with
 |none=>rfl
 |some ad=>obtain⟨x,y,z⟩:=ad;simp[Addr.add]
theorem ait{h:Heap}{own:List TypeId}{ok:Nat->Prop}{e:TypeId}{kk:K}{xs:List (El kk)}{cs:List Value}{fo:List Nat}(H:Ow h own ok (.sl e kk) xs cs fo):∃b m c,cs=[.slice b m c]/\m=xs.length/\m<=c:=by
 unfold Ow at H
 split at H
 ·obtain⟨b,m,c,e1,e2,e3,_⟩:=H
  exact⟨b,m,c,e1,e2,e3⟩
 ·obtain⟨_,b,m,c,e1,e2,e3,_⟩:=H
  exact⟨b,m,c,e1,e2,e3⟩
theorem anv(hT:eU P T)(H:Rel cx Z J F a w)(hd:o.dst=some d)(hdn:d<cx.nt){t:TypeId}{x:Operand}{lo hi mx:Option Operand}
  (h:(match T.ty t with
   |some kk=>dY x λa=>tH lo λlo=>tH hi λhi=>tH mx λmx=>J5 kk a lo hi mx λu=>.ret [Wr.s d (.one u)]
   |none=>(.fail:Prog (List Wr))).ends Z ws) (ho:o.op=.slice t x lo hi mx):dG P cx o a w (aF ws Z):=by
 cases hty:T.ty t with
 |none=>rw[hty]at h;exact h.elim
 |some k0=>
  rw[hty]at h
  have ht:=hT.ty t k0 hty
  obtain⟨u,h1,h2,h⟩:=jh H h
  obtain⟨lo',h,l1,l2⟩:=J3 H h
  obtain⟨hi',h,g1,g2⟩:=J3 H h
  obtain⟨mx',h,m1,m2⟩:=J3 H h
  have hl:lo'=none->lo.map a.eval=none:=λe=>by rw[l1.1 e];rfl
  have hh:hi'=none->hi.map a.eval=none:=λe=>by rw[g1.1 e];rfl
  cases u with
  |ref r g=>
   simp only[J5]at h
   obtain⟨R,e,kk,xs,hr,hv,hg,hq,hf,he,h⟩:=E_ h
   rcases bB h with⟨hk0,h5⟩|⟨_,h5⟩
   ·clear h
    have ek:=K.eq_of_beq hk0
    subst ek
    obtain⟨hka,ji⟩:=h1 R hr hg
    obtain⟨b,n,c,ev,eh,en,hnc⟩:=Fp H hr hv hq he ji
    cases mx' with
    |none=>
     have hmx:mx.map a.eval=none:=by rw[m1.1 rfl];rfl
     obtain⟨⟨c1,c2,c3⟩,h6⟩:=h5
     rw[bC h6]
     have hrun:=W_ (P:=P) (w:=w) (b:=b) (n:=n) (c:=c) ht hl l2 hh g2 c1 (by rw[en];exact c2) (by rw[en];omega)
     refine fq (x:=.one (.part r g (lo'.getD 0).toNat (hi'.getD (xs.length:Int)).toNat kk.size)) H hd hdn (v:=.slice (if c=(lo'.getD 0).toNat then b else b.map (·.add ((lo'.getD 0).toNat*kk.size))) ((hi'.getD (n:Int)).toNat-(lo'.getD 0).toNat) (c-(lo'.getD 0).toNat)) ?_ ?_ ⟨R,hr.1,.inr (by omega)⟩
     ·simp only[execOp,ho,ev,hmx,dH,hrun,eZ,eH]
     ·refine⟨_,b,n,c,by rw[en],?_,by omega,by rw[en];omega,hnc,?_⟩
      ·rintro(h0|h0)
       ·rw[h0];simp[add_zero]
       ·rw[ah h0]
      ·rw[<-ev];exact h1
    |some m=>
     obtain⟨jk,hmx⟩:=m2 m rfl
     simp only at h5
     rcases bB h5 with⟨hs,h6⟩|⟨_,h6⟩
     ·obtain⟨⟨c1,c2,c3,c4⟩,h7⟩:=h6
      rw[bC h7]
      cases hi' with
      |none=>simp at hs
      |some i=>
       obtain⟨ik,ehi⟩:=g2 i rfl
       simp only[su]at c2 c3
       obtain⟨hu,he',_,_⟩:=ht.sl
       have c5:m<=(c:Int):=by omega
       have hrun:∃v,(Instr.sliceAt t (.slice b n c) (lo.map a.eval) (hi.map a.eval) (mx.map a.eval)).run P w=.ok v w:=by
        unfold Instr.sliceAt Instr.slice Instr.sliceBounds
        rw[hmx,ehi]
        cases lo' with
        |none=>
         rw[hl rfl]
         simp only[CQ]at c1 c2
         refine⟨.slice (if m.toNat=0 then b else b.map (·.add (0*kk.size))) (i.toNat-0) (m.toNat-0),?_⟩
         simp[gG hu,Instr.sliceBound,asIntOf,c5,c3,he'.info.sizeOf w,show 0<=m by omega,show 0<=i by omega,show(i<=max m 0) by omega,Result.andThen]
        |some j=>
         obtain⟨lk,elo⟩:=l2 j rfl
         rw[elo]
         simp only[su]at c1 c2
         refine⟨.slice (if m.toNat=j.toNat then b else b.map (·.add (j.toNat*kk.size))) (i.toNat-j.toNat) (m.toNat-j.toNat),?_⟩
         simp[gG hu,Instr.sliceBound,asIntOf,c5,c3,c1,he'.info.sizeOf w,show 0<=m by omega,show 0<=i by omega,show(i<=max m 0) by omega,show(j<=max i 0) by omega,Result.andThen]
       obtain⟨v,hrun⟩:=hrun
       exact fq (x:=.one .undef) H hd hdn (v:=v) (by simp only[execOp,ho,ev,dH,hrun,eZ,eH]) trivial trivial
     ·exact h6.elim
   ·exact h5.elim
  |part r g l0 h0 sz=>
   simp only[J5]at h
   obtain⟨R,e,kk,xs,hr,hv,hg,hq,hf,he,h⟩:=E_ h
   rcases bB h with⟨hk0,h5⟩|⟨_,h5⟩
   ·clear h
    simp only[bf]at hk0
    have ek:=K.eq_of_beq hk0.1.1
    subst ek
    have hsz:kk.size=sz:=bu hk0.1.2
    subst hsz
    cases mx' with
    |some m=>simp at hk0
    |none=>
     have hmx:mx.map a.eval=none:=by rw[m1.1 rfl];rfl
     obtain⟨⟨c1,c2,c3⟩,h6⟩:=h5
     rw[bC h6]
     obtain⟨b',b,n,c,ev,eb,e2,e3,e4,hrf⟩:=h1
     obtain⟨hka,ji⟩:=hrf R hr hg
     obtain⟨b2,n2,c2',sM,eh,en,hnc⟩:=Fp H hr hv hq he ji
     simp only[mX]at sM
     obtain⟨rfl,rfl,rfl⟩:=sM
     have hrun:=W_ (P:=P) (w:=w) (b:=b') (n:=h0-l0) (c:=c-l0) ht hl l2 hh g2 c1 c2 (by omega)
     refine fq (x:=.one (.part r g (l0+(lo'.getD 0).toNat) (l0+(hi'.getD ((h0-l0:Nat):Int)).toNat) kk.size)) H hd hdn
      (v:=.slice (if c-l0=(lo'.getD 0).toNat then b' else b'.map (·.add ((lo'.getD 0).toNat*kk.size))) ((hi'.getD ((h0-l0:Nat):Int)).toNat-(lo'.getD 0).toNat) (c-l0-(lo'.getD 0).toNat)) ?_ ?_ ⟨R,hr.1,.inr (by omega)⟩
     ·simp only[execOp,ho,ev,hmx,dH,hrun,eZ,eH]
     ·refine⟨if c-l0=(lo'.getD 0).toNat then b' else b'.map (·.add ((lo'.getD 0).toNat*kk.size)),b,n,c,?_,?_,by omega,by rw[en];omega,e4,hrf⟩
      ·rw[show l0+(hi'.getD ((h0-l0:Nat):Int)).toNat-(l0+(lo'.getD 0).toNat)=(hi'.getD ((h0-l0:Nat):Int)).toNat-(lo'.getD 0).toNat by omega,show c-(l0+(lo'.getD 0).toNat)=c-l0-(lo'.getD 0).toNat by omega]
      ·rintro(h0'|h0')
       ·have z1:l0=0:=by omega
        have z2:(lo'.getD 0).toNat=0:=by omega
        rw[eb (.inl z1),z1,z2]
        simp[add_zero]
       ·rw[ah (by omega)]
        rw[eb (by omega),add_add,iB]
   ·exact h5.elim
  |dP r p n=>
   simp only[J5]at h
   rcases bB h with⟨hmn,h5⟩|⟨_,h5⟩
   ·clear h
    cases mx' with
    |some m=>simp at hmn
    |none=>
     have hmx:mx.map a.eval=none:=by rw[m1.1 rfl];rfl
     unfold aiB at h5
     cases k0 with
     |sl e kk=>
      obtain⟨R,hr,hv,h6⟩:=gH h5
      rcases bB h6 with⟨rP,h7⟩|⟨_,h7⟩
      ·clear h5 h6
       cases hg:aD p R.k R.x with
       |none=>rw[hg]at h7;exact h7.elim
       |some dd=>
        rw[hg]at h7
        simp only at h7
        cases hck:b_ dd.1 (.sl e kk) dd.2 with
        |none=>rw[hck]at h7;exact h7.elim
        |some xs=>
         rw[hck]at h7
         simp only at h7
         obtain⟨ek,ey⟩:=iJ hck
         obtain⟨dk,dx⟩:=dd
         simp only at ek ey
         subst ek
         simp only at ey
         subst ey
         obtain⟨⟨c1,c2,c3⟩,h8⟩:=h7
         rw[bC h8]
         obtain⟨cK,hown,cs,wh,hn,ji⟩:=h1 R hr.1 hv (bu rP) _ hg
         obtain⟨aT,hO,_⟩:=tL H hr hv hg cK hown hn
         obtain⟨b,m,c,rfl,hm,hmc⟩:=ait hO
         have ev:a.eval x=.slice b m c:=by
          have:=ji.1
          simpa using this.symm
         have hm':m=@List.length (El kk) xs:=hm
         have hrun:=W_ (P:=P) (w:=w) (b:=b) (n:=m) (c:=c) ht hl l2 hh g2 c1 (by rw[hm'];exact c2) (by rw[hm'];omega)
         refine fq (x:=.one (.sub r p n (lo'.getD 0).toNat (hi'.getD ((@List.length (El kk) xs:Nat):Int)).toNat kk.size)) H hd hdn (v:=.slice (if c=(lo'.getD 0).toNat then b else b.map (·.add ((lo'.getD 0).toNat*kk.size))) ((hi'.getD (m:Int)).toNat-(lo'.getD 0).toNat) (c-(lo'.getD 0).toNat)) ?_ ?_ ⟨R,hr.1,.inr (by have:=bu rP;omega)⟩
         ·simp only[execOp,ho,ev,hmx,dH,hrun,eZ,eH]
         ·refine⟨_,b,m,c,by rw[hm'],?_,by omega,by rw[hm'];omega,hmc,?_⟩
          ·rintro(h0|h0)
           ·rw[h0];simp[add_zero]
           ·rw[ah h0]
          ·intro R2 hR2 hv2 hn2 d2 hd2
           have:R2=R:=by rw[hr.1]at hR2;simpa using hR2.symm
           subst this
           rw[hg]at hd2
           simp only[ak]at hd2
           subst hd2
           exact⟨cK,hown,wh,hn⟩
      ·exact h7.elim
     |_=>exact h5.elim
   ·exact h5.elim
  |_=>exact h.elim
end
section
variable {P:Program}{T:bK}{cx:Cx}{Z:St}{J:aJ}{F:List Nat}{a:Act}{w:World}{o:Oper}{d:Nat}{ws:List Wr}{r:Nat}{R:Root}
theorem ahg{c:Call}{u:AV}(h:h_ cx Z J F w [u] (c.args.toList.map a.eval)):∃x,c.args.toList=[x]/\aW cx Z J F w u (a.eval x):=by
 revert h
 generalize c.args.toList=l
 intro h
 cases l with
 |nil=>exact h.elim
 |cons x l=>cases l with
  |nil=>exact⟨x,rfl,h.1⟩
  |cons _ _=>exact h.2.elim
theorem Pp{c:Call}{u v:AV}(h:h_ cx Z J F w [u,v] (c.args.toList.map a.eval)):∃x y,c.args.toList=[x,y]/\aW cx Z J F w u (a.eval x)/\aW cx Z J F w v (a.eval y):=by
 revert h
 generalize c.args.toList=l
 intro h
 cases l with
 |nil=>exact h.elim
 |cons x l=>cases l with
  |nil=>exact h.2.elim
  |cons y l=>cases l with
   |nil=>exact⟨x,y,rfl,h.1,h.2.1⟩
   |cons _ _=>exact h.2.2.elim
theorem ayT{kk:K}{m:Nat}(hk:0<kk.size)(hz:(dO kk).length=kk.size)(hg:fD kk=true):(mV (dO kk).toArray (m*kk.size)).toList.length=m*kk.size/\(∀i,i<m->gP (mV (dO kk).toArray (m*kk.size)).toList kk.size i=dO kk)/\
  ∀v∈(mV (dO kk).toArray (m*kk.size)).toList,v.oneCell'=true:=by
 refine⟨by simp[mV],λi hi=>ai4 hk hz hi,λv hv=>?_⟩
 simp only[mV,u7,d_]at hv
 obtain⟨i,_,rfl⟩:=hv
 have hlt:i%(dO kk).toArray.size<(dO kk).toArray.size:=Nat.mod_lt _ (by simp[hz,hk])
 have h1:=Lp hg (oV (h:=hp (default:World)) (own:=kk.tys) (ok:=λ_=>False) (λ_=>True) (λ_ _=>trivial) (λ_ _=>trivial) (Kn hg (λt ht=>fF.2 ht)))
 rw[getElem!_pos (dO kk).toArray _ hlt]
 exact h1 _ (by simp)
theorem ana(hT:eU P T)(H:Rel cx Z J F a w){c:Call}(ho:o.op=.call c)(hcb:c.callee=.builtin .clear){u:AV}{e0:TypeId}{k0:K}(hl:h_ cx Z J F w [u] (c.args.toList.map a.eval))(ht0:(c.argTypes[0]?).bind T.ty=some (.sl e0 k0))
  (h:(RG (.sl e0 k0) u λws=>(.ret ws:Prog (List Wr))).ends Z ws):∃v w' J',(execOp a.eval o).run P w=.ok (.value v) w'/\Rel cx (aF ws Z) J' [] a w':=by
 obtain⟨x,hx,hu⟩:=ahg hl
 obtain⟨t,hat,ht⟩:=rU hT ht0
 cases u with
 |part r g lo hi sz=>
  simp only[RG]at h
  obtain⟨R,e,kk,xs,hr,hv,hg,hq,hf,he,h⟩:=E_ h
  rcases bB h with⟨hsz,h5⟩|⟨_,h5⟩
  ·clear h
   simp only[bf]at hsz
   have ek:=K.eq_of_beq hsz.1
   have hsz:=bu hsz.2
   subst hsz
   obtain⟨rfl,rfl⟩:e=e0/\kk=k0:=by simpa using ek
   rw[bC h5]
   obtain⟨b',b,n,c',ev,eb,e2,e3,e4,hrf⟩:=hu
   obtain⟨hka,ji⟩:=hrf R hr hg
   obtain⟨b2,n2,c2',sM,eh,en,hnc⟩:=Fp H hr hv hq he ji
   simp only[mX]at sM
   obtain⟨rfl,rfl,rfl⟩:=sM
   obtain⟨hun,hel,hks,_⟩:=ht.sl
   have A_:=hel.fD
   have hzl:(dO kk).length=kk.size:=by
    have:=Kn (h:=hp w) (ok:=λ_=>False) (own:=kk.tys) A_ (λt ht=>fF.2 ht)
    exact eY this
   obtain⟨z1,z2,z3⟩:=ayT (m:=hi-lo) hks hzl A_
   obtain⟨w',r1,r2,r3,r4,_⟩:=WU (P:=P) (zs:=List.replicate (hi-lo) kk.zero) (s:=lo) H hr hv hka hq hf he hks (by simp;omega) (b:=b) (n:=n) (c:=c') eh (bb:=b') (λh0=>eb (by
     simp only[List.length_replicate]at h0
     omega)) (news:=(mV (dO kk).toArray ((hi-lo)*kk.size)).toList) (by rw[z1];simp) (λi hi'=>by
     have hi2:i<hi-lo:=by simpa using hi'
     rw[z2 i hi2]
     have:(List.replicate (hi-lo) kk.zero)[i]'hi'=kk.zero:=by simp
     rw[this]
     exact oV (own:=kk.tys) (ok:=λ_=>False) _ (λ_ _=>trivial) (λ_ _=>trivial) (Kn A_ (λt ht=>fF.2 ht))) z3
   have hdrop:lo+(List.replicate (hi-lo) kk.zero).length=hi:=by simp;omega
   rw[hdrop]at r4
   obtain⟨cc,hcc⟩:=Fq (P:=P) (a:=a) (w:=w) ho hcb
   have xg:(c.args.map a.eval)[0]?=some (.slice b' (hi-lo) (c'-lo)):=by
    rw[<-rX,u7,hx]
    simp[ev]
   refine⟨.tuple #[],w',_,?_,r4⟩
   rw[hcc]
   have hrun:(Builtin.clear_ c.argTypes o.type (c.args.map a.eval)).run P w=.ok (.tuple #[]) w':=by
    unfold Builtin.clear_
    simp only[hat,xg]
    by_cases h0:hi-lo=0
    ·rw[h0]
     rw[r2 (by simp[h0])]
     cases b'<;>simp[gG hun,Result.andThen]
    ·obtain⟨ad,had⟩:=r3 (by simp;omega)
     subst had
     have hst:=r1 ad rfl
     have hzc:(Builtin.zeroCells (iY kk).cells (hi-lo)).toList=(mV (dO kk).toArray ((hi-lo)*kk.size)).toList:=by
      rw[FM hel.shape]
      unfold Builtin.zeroCells mV
      simp[hzl]
     obtain⟨m,hm⟩:∃m,hi-lo=m+1:=⟨hi-lo-1,by omega⟩
     rw[hm]at hzc hst ⊢
     simp only[dH,gG hun,eZ,hel.info.zero w,hzc,hst,eH]
   simp only[builtin,dH,hrun,eZ,eH]
  ·exact h5.elim
 |_=>exact h.elim
end
section
variable {P:Program}{T:bK}{cx:Cx}{Z:St}{J:aJ}{F:List Nat}{a:Act}{w:World}{o:Oper}{d:Nat}{ws:List Wr}{r:Nat}{R:Root}
theorem anb(hT:eU P T)(H:Rel cx Z J F a w)(hd:o.dst=some d)(hdn:d<cx.nt){c:Call}(ho:o.op=.call c)(hcb:c.callee=.builtin .append){u v:AV}{e0 e1:TypeId}{k0 k1:K}(hl:h_ cx Z J F w [u,v] (c.args.toList.map a.eval))
  (ht0:(c.argTypes[0]?).bind T.ty=some (.sl e0 k0)) (ht1:(c.argTypes[1]?).bind T.ty=some (.sl e1 k1)) (h:(RH (.sl e0 k0) d u v λws=>(.ret ws:Prog (List Wr))).ends Z ws):dG P cx o a w (aF ws Z):=by
 obtain⟨x,y,hxy,hu,hv0⟩:=Pp hl
 obtain⟨t,hat,ht⟩:=rU hT ht0
 obtain⟨t2,xe,ht2⟩:=rU hT ht1
 cases u with
 |part r g l0 h0 sz=>
  cases v with
  |part r' g' l1 h1 sz'=>
   simp only[RH]at h
   obtain⟨R,e,kk,xs,hr,hv,hg,hq,hf,he,h⟩:=E_ h
   rcases bB h with⟨hc,h5⟩|⟨_,h5⟩
   ·clear h
    simp only[bf]at hc
    obtain⟨⟨⟨⟨⟨c1,c2⟩,c3⟩,c4⟩,c5⟩,c6⟩:=hc
    have ek:=K.eq_of_beq c1
    have c2:=bu c2
    have c3:=bu c3
    have c4:=bu c4
    have c5:=bu c5
    have c6:=bu c6
    subst c2 c3 c4 c5 c6
    obtain⟨rfl,rfl⟩:e=e0/\kk=k0:=by simpa using ek
    obtain⟨hle,h6⟩:=h5
    rw[bC h6]
    obtain⟨b1,b,n,cp,ev1,eb1,e2,e3,e4,hrf⟩:=hu
    obtain⟨b2,b',n',cp',sM,eb2,f2,f3,f4,ap4⟩:=hv0
    obtain⟨hka,ji⟩:=hrf R hr hg
    obtain⟨_,aoW⟩:=ap4 R hr hg
    obtain⟨q1,q2,q3,ev,eh,en,hnc⟩:=Fp H hr hv hq he ji
    simp only[mX]at ev
    obtain⟨rfl,rfl,rfl⟩:=ev
    obtain⟨q1,q2,q3,ev,eh',_,_⟩:=Fp H hr hv hq he aoW
    simp only[mX]at ev
    obtain⟨rfl,rfl,rfl⟩:=ev
    rw[eh]at eh'
    simp only[gW,mX,eO]at eh'
    obtain⟨rfl,rfl,rfl⟩:=eh'
    have hb1:b1=b:=by rw[eb1 (.inl rfl)];simp[add_zero]
    subst hb1
    obtain⟨hun,hel,hks,_⟩:=ht.sl
    have A_:=hel.fD
    have hO:Ow (hp w) R.own (aN cx Z J F w R.tags) (.sl e kk) xs [.slice b1 n cp] (J.fo r):=by
     have:=cast (congrArg (λq:Dat=>Ow (hp w) R.own (aN cx Z J F w R.tags) q.1 q.2 (J.hdr r) (J.fo r)) hq) ((H.roots r R hr).ow hv)
     simp only at this
     rw[eh]at this
     exact this
    have hV:=oV (λ_=>True) (λ_ _=>trivial) (λ_ _=>trivial) hO
    have hVp:=ZF hV f2 (by omega:h1<=n)
    have hlz:((xs.take h1).drop l1).length=h1-l1:=by
     have:n=xs.length:=en
     simp;omega
    have hVy:Vw (hp w) (λ_=>True) (.sl e kk) (show List (El kk)from(xs.take h1).drop l1) [.slice b2 (h1-l1) (cp-l1)]:=by
     by_cases hcl:cp=l1
     ·refine⟨_,_,_,rfl,hlz.symm,by omega,λh=>?_⟩
      omega
     ·rw[ah hcl]at hVp
      rw[eb2 (.inr hcl)]
      exact hVp
    obtain⟨news,hS,hE⟩:=Pw (P:=P) (u:=t2) (xs:=(xs.take h1).drop l1) (v:=a.eval y) (.inl ⟨_,ht2.sl.1⟩) A_ rfl (cs:=[.slice b2 (h1-l1) (cp-l1)]) ⟨by rw[sM],by rw[sM];simp⟩ hVy
    have hzl:((show List (El kk)from(xs.take h1).drop l1)).length=h1-l1:=hlz
    have hroom:h0+((xs.take h1).drop l1).length<=cp:=by omega
    obtain⟨w',r1,r2,r3,r4,r5⟩:=WU (P:=P) (zs:=(xs.take h1).drop l1) (s:=h0) H hr hv hka hq hf he hks (by rw[hlz];have:n=xs.length:=en;omega) (b:=b1) (n:=n) (c:=cp) eh (bb:=b1.map (·.add (h0*kk.size))) (λ_=>rfl) (news:=news) hS.nl hE hS.one
    rw[hlz]at r4 r5
    have hrun:=O_ (P:=P) (ty:=o.type) (t:=t) (u:=t2) ht hS (b:=b1) (n:=h0) (c:=cp) hroom
    have DN:(Builtin.append_ #[t,t2] o.type #[a.eval x,a.eval y]).run P w=.ok (.slice b1 (h0+(h1-l1)) cp) w':=by
     rw[ev1]
     simp only[Nat.sub_zero]
     rw[hrun,hlz]
     cases hbb:b1 with
     |none=>
      have:((xs.take h1).drop l1).length=0:=by
       refine j6 λhne=>?_
       obtain⟨ad,had⟩:=r3 (by omega)
       rw[hbb]at had
       simp at had
      rw[r2 this]
      simp[Result.andThen]
     |some ad=>
      have:=r1 (ad.add (h0*kk.size)) (by rw[hbb];rfl)
      simp only[this,eZ]
    show dG P cx o a w (aF [Wr.s d (.one (.part r g 0 (h0+(h1-l1)) kk.size))] (aO Z r (rR R e kk (xs.take h0++(xs.take h1).drop l1++xs.drop (h0+(h1-l1))))))
    refine nR (x:=.one (.part r g 0 (h0+(h1-l1)) kk.size)) (v:=.slice b1 (h0+(h1-l1)) cp) r4 hd hdn (J8 ho hcb hxy hat xe DN) ?_ ⟨_,fQ ..,.inr (by rw[<-hg];exact bZ _)⟩
    refine⟨b1,b1,n,cp,by simp,λ_=>by simp[add_zero],by omega,by omega,e4,r5 g (.slice b1 n cp) (by omega) hrf⟩
   ·exact h5.elim
  |_=>exact h.elim
 |_=>exact h.elim
theorem anu(hT:eU P T)(H:Rel cx Z J F a w)(hd:o.dst=some d)(hdn:d<cx.nt){c:Call}(ho:o.op=.call c)(hcb:c.callee=.builtin .len){r g lo hi sz:Nat}{e0:TypeId}{k0:K}(hl:h_ cx Z J F w [.part r g lo hi sz] (c.args.toList.map a.eval))
  (ht0:(c.argTypes[0]?).bind T.ty=some (.sl e0 k0)):dG P cx o a w (aF [.s d (.one (.val (.int .i64) ((hi-lo:Nat):Int) []))] Z):=by
 obtain⟨x,hx,hu⟩:=ahg hl
 obtain⟨t,hat,ht⟩:=rU hT ht0
 obtain⟨b',b,n,cp,ev,_⟩:=hu
 have xg:(c.args.map a.eval)[0]?=some (.slice b' (hi-lo) (cp-lo)):=by
  rw[<-rX,u7,hx]
  simp[ev]
 obtain⟨cc,hcc⟩:=Fq (P:=P) (a:=a) (w:=w) ho hcb
 refine fq H hd hdn ?_ (oP .i64 (n:=((hi-lo:Nat):Int)) trivial) n_
 rw[hcc]
 simp only[builtin,dH,aii (ty:=o.type) (w:=w) hat xg (.inr ⟨⟨_,ht.sl.1⟩,b',cp-lo,rfl⟩),eZ,eH]
theorem ax1{t u ty e:TypeId}{k:K}(ht:dz P T t (.sl e k)){b:Option Addr}{n c m:Nat}{x:Value}{news:List Value}(hs:Src P w k.size u x m news)(hr:m<=n) :
  (Builtin.copy_ #[t,u] ty #[.slice b n c,x]).run P w=(match b with
   |some a=>(storeCells a news).run P w
   |none=>.ok () w).andThen λ_ w'=>.ok (.int .i64 (m:Int)) w':=by
 obtain⟨hu,he,_,_⟩:=ht.sl
 have e1:=hs.len w
 have e2:=hs.cells.1
 have hm:Nat.min m n=m:=Nat.min_eq_left hr
 cases b<;>simp[Builtin.copy_,gG hu,he.info.sizeOf w,e1,e2,hm,Result.andThen,goInt]
theorem ane(hT:eU P T)(H:Rel cx Z J F a w)(hd:o.dst=some d)(hdn:d<cx.nt){c:Call}(ho:o.op=.call c)(hcb:c.callee=.builtin .copy){u v:AV}{e0 e1:TypeId}{k0 k1:K}(hl:h_ cx Z J F w [u,v] (c.args.toList.map a.eval))(hwv:dK Z v)
  (ht0:(c.argTypes[0]?).bind T.ty=some (.sl e0 k0)) (ht1:(c.argTypes[1]?).bind T.ty=some (.sl e1 k1)) (h:(RN (.sl e0 k0) d u v λws=>(.ret ws:Prog (List Wr))).ends Z ws):dG P cx o a w (aF ws Z):=by
 obtain⟨x,y,hxy,hu,hv0⟩:=Pp hl
 obtain⟨t,hat,ht⟩:=rU hT ht0
 obtain⟨t2,xe,ht2⟩:=rU hT ht1
 cases u with
 |ref r g=>
  simp only[RN]at h
  obtain⟨R,e,kk,xs,hr,hv,hg,hq,hf,he,h⟩:=E_ h
  rcases bB h with⟨hc,h5⟩|⟨_,h5⟩
  ·clear h
   have ek:=K.eq_of_beq hc
   obtain⟨rfl,rfl⟩:e=e0/\kk=k0:=by simpa using ek
   obtain⟨hun,hel,hks,_⟩:=ht.sl
   have A_:=hel.fD
   obtain⟨s,h6,_,_,news,_,_,_,_,_,_,hS,hels⟩:=aiv (P:=P) (u:=t2) H (.inl ⟨_,ht2.sl.1⟩) A_ hv0 hwv h5
   obtain⟨hle,h7⟩:=h6
   rw[bC h7]
   obtain⟨hka,ji⟩:=hu R hr (by omega)
   obtain⟨b,n,cp,ev,eh,en,hnc⟩:=Fp H hr hv hq he ji
   obtain⟨az,je,_,_,_,hE⟩:=hels [] (λt ht=>by rw[Dm hf]at ht;simp at ht)
   have hb0:b.map (·.add (0*kk.size))=b:=by rw[Nat.zero_mul];exact add_zero b
   obtain⟨w',r1,r2,r3,r4,r5⟩:=WU (P:=P) (zs:=s.xs) (s:=0) H hr hv hka hq hf he hks (by omega) (b:=b) (n:=n) (c:=cp) eh (bb:=b) (λ_=>hb0.symm) (news:=news) hS.nl (λi hi=>oV (λ_=>True) (λ_ _=>trivial) (λ_ _=>trivial) (hE i hi)) hS.one
   have hxs:xs.take 0++s.xs++xs.drop (0+s.xs.length)=s.xs++xs.drop s.xs.length:=by simp
   rw[hxs]at r4 r5
   have hrun:=ax1 (P:=P) (ty:=o.type) (t:=t) (u:=t2) ht hS (b:=b) (n:=n) (c:=cp) (by omega)
   have DN:(Builtin.copy_ #[t,t2] o.type #[a.eval x,a.eval y]).run P w=.ok (.int .i64 (s.xs.length:Int)) w':=by
    rw[ev,hrun]
    cases hbb:b with
    |none=>
     have:s.xs.length=0:=by
      refine j6 λhne=>?_
      obtain⟨ad,had⟩:=r3 (by omega)
      rw[hbb]at had
      simp at had
     rw[r2 this]
     simp[Result.andThen]
    |some ad=>
     have:=r1 ad hbb
     simp only[this,eZ]
   have aqa:(execOp a.eval o).run P w=.ok (.value (.int .i64 (s.xs.length:Int))) w':=by
    obtain⟨cc,hcc⟩:=Fq (P:=P) (a:=a) (w:=w) ho hcb
    rw[hcc]
    have h1:c.args.map a.eval=#[a.eval x,a.eval y]:=by
     apply rW
     rw[u7,hxy]
     rfl
    have h2:Builtin.copy_ c.argTypes o.type #[a.eval x,a.eval y]=Builtin.copy_ #[t,t2] o.type #[a.eval x,a.eval y]:=by
     unfold Builtin.copy_
     simp only[hat]
     rfl
    rw[h1]
    simp only[builtin,dH,h2,DN,eZ,eH]
   show dG P cx o a w (aF [Wr.s d (.one (.val (.int .i64) (s.xs.length:Int) []))] (aO Z r (rR R e kk (s.xs++xs.drop s.xs.length))))
   exact nR (x:=.one (.val (.int .i64) (s.xs.length:Int) [])) r4 hd hdn aqa (oP .i64 (n:=((s.xs.length:Nat):Int)) trivial) n_
  ·exact h5.elim
 |_=>exact h.elim
theorem ax0{t e:TypeId}(ht:dz P T t (.sl e (.int .u8))){b q n c:Nat}{arr:Array Value}{e':TypeId}{fr:Nat×Nat}(hb:hp w b=some (.cells arr e' fr)) :
  (convert t t (.slice (some ⟨b,q,none⟩) n c)).run P w=.ok (.slice (some ⟨b,q,none⟩) n c) (w.freeze ⟨b,arr.size,none⟩ 1):=by
 obtain⟨h1,h2,_⟩:=ht.sl
 have he:P.underlying e=some (.int .u8):=by
  unfold dz jc at h2
  exact h2.1
 have hsh:w.shape? b=some (e',arr.size):=by
  have:w.heap[b]?=some (.cells arr e' fr):=hb
  unfold World.shape?
  rw[this]
 simp[convert,gG h1,gG he,markStringish,hsh]
theorem aot{b:Nat}{arr:Array Value}{e':TypeId}{lo hi:Nat}(hb:hp w b=some (.cells arr e' (lo,hi)))(hf:iU arr.size lo hi) :
  (∀b',b'≠b->hp (w.freeze ⟨b,arr.size,none⟩ 1) b'=hp w b')/\∃lo' hi',hp (w.freeze ⟨b,arr.size,none⟩ 1) b=some (.cells arr e' (lo',hi'))/\iU arr.size lo' hi':=by
 have hb':w.heap[b]?=some (.cells arr e' (lo,hi)):=hb
 have e0:(w.freeze ⟨b,arr.size,none⟩ 1).heap=w.heap.modify b fun
   |.cells c elem (lo,hi)=>.cells c elem (if lo==hi then(arr.size,arr.size+1)else(min lo arr.size,max hi (arr.size+1)))
   |o=>o:=by
  unfold World.freeze
  rw[ah (by decide)]
  rfl
 refine⟨λb' hne=>?_,?_⟩
 ·show(w.freeze ⟨b,arr.size,none⟩ 1).heap[b']?=w.heap[b']?
  rw[e0,PG,ah (Ne.symm hne)]
 ·have e1:hp (w.freeze ⟨b,arr.size,none⟩ 1) b=some (.cells arr e' (if lo==hi then(arr.size,arr.size+1)else(min lo arr.size,max hi (arr.size+1)))):=by
   show(w.freeze ⟨b,arr.size,none⟩ 1).heap[b]?=_
   rw[e0,PG,aj rfl,hb']
   rfl
  cases hlh:(lo==hi)with
  |true=>rw[hlh]at e1;exact⟨_,_,e1,by omega,λi hi=>by omega⟩
  |false=>
   rw[hlh]at e1
   have hne:lo≠hi:=by simpa using hlh
   have hle:=hf.le
   have hs:arr.size<=lo:=j6 λh=>hf.out lo (by omega) ⟨bZ _,by omega⟩
   exact⟨_,_,e1,by omega,λi hi=>by omega⟩
theorem am_(hT:eU P T)(H:Rel cx Z J F a w)(hd:o.dst=some d)(hdn:d<cx.nt){t e:TypeId}{x:Operand}{u:AV}(ho:o.op=.convert t t x)(ht0:T.ty t=some (.sl e (.int .u8)))(hu:aW cx Z J F w u (a.eval x))
  (h:(Rs e d u λws=>(.ret ws:Prog (List Wr))).ends Z ws):dG P cx o a w (aF ws Z):=by
 have ht:=hT.ty t _ ht0
 cases u with
 |ref r g=>
  simp only[Rs]at h
  obtain⟨R,e',kk,xs,hr,hv,hg,hq,hf,he,h⟩:=E_ h
  rcases bB h with⟨hc,h5⟩|⟨_,h5⟩
  ·clear h
   obtain⟨h6,h7⟩:=h5
   rw[bC h7]
   have ek:=K.eq_of_beq hc
   obtain⟨rfl,rfl⟩:e'=e/\kk=.int .u8:=by simpa using ek
   obtain⟨hka,ji⟩:=hu R hr (by omega)
   have hO:=cast (congrArg (λq:Dat=>Ow (hp w) R.own (aN cx Z J F w R.tags) q.1 q.2 (J.hdr r) (J.fo r)) hq) ((H.roots r R hr).ow hv)
   have hV:VC (.sl e' (.int .u8)) (a.eval x) (J.hdr r):=cast (congrArg (λq:Dat=>VC q.1 (a.eval x) (J.hdr r)) hq) ji
   simp only at hO
   have Mc:=hO
   unfold Ow at hO
   rw[aj he]at hO
   obtain⟨ad,n,c,e1,e2,e3,hO⟩:=hO
   have h6':0<(show List Int from xs).length:=h6
   rcases hO with⟨hc0,_⟩|⟨b,q,arr,lo,hi,ea,hb,hfr,hs,az,hl,hpm,hE⟩
   ·have:n=(show List Int from xs).length:=e2
    omega
   ·subst ea
    have ev:a.eval x=.slice (some ⟨b,q,none⟩) n c:=by
     have:=hV.1
     rw[e1]at this
     simpa using this.symm
    have ap_:=ax0 (P:=P) (w:=w) ht (n:=n) (c:=c) (q:=q) hb
    obtain⟨g1,lo',hi',g2,g3⟩:=aot hb hfr
    have hcell:∀i,cellAt (hp (w.freeze ⟨b,arr.size,none⟩ 1)) b i=cellAt (hp w) b i:=λi=>by unfold cellAt;rw[g2,hb]
    have ao7:b∈J.fo r:=hpm.mem_iff.2 (by simp)
    have Mm:(w.freeze ⟨b,arr.size,none⟩ 1).os=w.os/\(w.freeze ⟨b,arr.size,none⟩ 1).tape=w.tape/\(w.freeze ⟨b,arr.size,none⟩ 1).output=w.output/\(w.freeze ⟨b,arr.size,none⟩ 1).heap.size=w.heap.size:=by
     unfold World.freeze
     rw[ah (by decide)]
     exact⟨rfl,rfl,rfl,by simp⟩
    have hE':∀(i:Nat) (hi:i<(show List Int from xs).length),∃ds,Cells (hp w) b (q+i*K.size (.int .u8)) ds/\Ow (hp w) R.own (aN cx Z J F w R.tags) (.int .u8) ((show List Int from xs)[i]) ds (az.getD i []):=hE
    obtain⟨r4,r5⟩:=WW (w':=w.freeze ⟨b,arr.size,none⟩ 1) (ys:=xs) H hr hv hka hq hf rfl ⟨Mm.1,Mm.2.1,Mm.2.2.1⟩ (by rw[Mm.2.2.2];exact bZ _)
     (λb' hne=>by
      by_cases hbb:b'=b
      ·subst hbb
       exact⟨ao7,by unfold iH;rw[hb]⟩
      ·exact absurd (g1 b' hbb) hne)
     (λok=>by
      unfold Ow
      rw[aj he]
      refine⟨some ⟨b,q,none⟩,n,c,e1,e2,e3,.inr ⟨b,q,arr,lo',hi',rfl,g2,g3,hs,az,hl,hpm,λi hi=>?_⟩⟩
      obtain⟨ds,k1,k2⟩:=hE' i hi
      exact⟨ds,λj hj=>by rw[hcell];exact k1 j hj,k2⟩)
    have hrun:(execOp a.eval o).run P w=.ok (.value (a.eval x)) (w.freeze ⟨b,arr.size,none⟩ 1):=by
     simp only[execOp,ho,ev,dH,ap_,eZ,eH]
    show dG P cx o a w (aF [Wr.s d (.one (.ref r g))] (aO Z r (rR R e' (.int .u8) xs)))
    exact nR (x:=.one (.ref r g)) r4 hd hdn hrun (r5 g (a.eval x) (by omega) hu) ⟨_,fQ ..,.inr (by show g<=R.g;omega)⟩
  ·exact h5.elim
 |_=>exact h.elim
theorem anD(hT:eU P T)(H:Rel cx Z J F a w)(hd:o.dst=some d)(hdn:d<cx.nt)(h:(Xm T o d λws=>(.ret ws:Prog (List Wr))).ends Z ws):dG P cx o a w (aF ws Z):=by
 unfold Xm at h
 split at h
 ·rename_i t x lo hi mx ho
  exact anv hT H hd hdn h ho
 ·rename_i c ho
  split at h
  ·rename_i hcb
   obtain⟨vs,h1,h2,h⟩:=vR H h
   split at h
   ·split at h
    ·rename_i ht0
     rw[bC h]
     exact anu hT H hd hdn ho hcb h1 ht0
    ·exact h.elim
   ·exact h.elim
  ·rename_i hcb
   obtain⟨vs,h1,h2,h⟩:=vR H h
   split at h
   ·split at h
    ·rename_i ht0 ht1
     exact anb hT H hd hdn ho hcb h1 ht0 ht1 h
    ·exact h.elim
   ·exact h.elim
  ·rename_i hcb
   obtain⟨vs,h1,h2,h⟩:=vR H h
   split at h
   ·split at h
    ·rename_i ht0 ht1
     exact ane hT H hd hdn ho hcb h1 (h2 _ (by simp)) ht0 ht1 h
    ·exact h.elim
   ·exact h.elim
  ·exact h.elim
 ·rename_i t ps ho
  exact anm hT H hd hdn h ho
 ·rename_i s t x ho
  split at h
  ·rename_i hty
   rcases bB h with⟨hst,h9⟩|⟨_,h9⟩
   ·have hst:=bu hst
    obtain⟨u,h1,h2,h9⟩:=jh H h9
    exact am_ hT H hd hdn (by rw[ho,hst]) hty h1 h9
   ·exact h9.elim
  ·exact h.elim
 ·exact h.elim
end
theorem JJ{p:List Stp}:∀{q:List Stp},nX p q=true->yV p=yV q->p=q:=by
 induction p with
 |nil=>intro q h _;cases q with
  |nil=>rfl
  |cons s q=>cases s<;>simp[nX]at h
 |cons s p ih=>
  intro q h hi
  cases q with
  |nil=>cases s<;>simp[nX]at h
  |cons u q=>
   cases s with
   |aU n=>
    cases u with
    |aU m=>
     simp only[nX,bf]at h
     rw[bu h.1,ih h.2 hi]
    |idx j=>simp[nX]at h
   |idx i=>
    cases u with
    |aU m=>simp[nX]at h
    |idx j=>
     simp only[yV,gW]at hi
     rw[hi.1,ih h hi.2]
theorem OI{p:List Stp}:∀{q:List Stp},nX p q=true->p.all Stp.jw=true->q.all Stp.jw=true:=by
 induction p with
 |nil=>intro q h _;cases q with
  |nil=>rfl
  |cons s q=>cases s<;>simp[nX]at h
 |cons s p ih=>
  intro q h hi
  cases q with
  |nil=>cases s<;>simp[nX]at h
  |cons u q=>
   cases s with
   |idx i=>simp[Stp.jw]at hi
   |aU n=>
    cases u with
    |idx j=>simp[nX]at h
    |aU m=>
     simp only[nX,bf]at h
     simp only[List.all_cons,bf]at hi ⊢
     exact⟨rfl,ih h.2 hi.2⟩
theorem yX{p:List Stp}:p.all Stp.jw=true->yV p=[]:=by
 induction p with
 |nil=>intro _;rfl
 |cons s p ih=>
  intro h
  simp only[List.all_cons,bf]at h
  cases s with
  |aU n=>exact ih h.2
  |idx i=>exact absurd h.1 (by simp[Stp.jw])
section
variable {P:Program}{T:bK}{cx:Cx}{Z:St}{J:aJ}{F:List Nat}{a:Act}{w:World}{o:Oper}{d:Nat}{ws:List Wr}{r:Nat}{R:Root}
theorem WV{t e:TypeId}{kk:K}(hT:dz P T t (.sl e kk))(H:Rel cx Z J F a w)(hr:aY Z r R)(hv:cZ Z R){p:List Stp}{xs ys:List (El kk)}{z:Dat}(hg:aD p R.k R.x=some ⟨.sl e kk,xs⟩)(hz:bO p R.k R.x ⟨.sl e kk,ys⟩=some z)(cK:bW p R.k R.x)
  (hown:∀t∈aC p R.k,ay t R.own=true) (hall:∀t∈(K.sl e kk).tys,ay t R.own=true) {cs1:List Value} {b o:Nat} (hn:aR (hp w) p R.k (J.hdr r) (aL J R r)=some (cs1,some (b,o))) {v:Value} (jF:∃bv nv cv,v=.slice bv nv cv) {lw:List TypeId} (Hy:gy R p∈lw)
  (how:∀aT ok,Ow (hp w) R.own ok (.sl e kk) xs cs1 aT->aT.Nodup->(∀b∈aT,b∈J.fo r)->∃ft,ft.Nodup/\(∀b∈ft,b∈aT\/b∈F)/\Ow (hp w) R.own (λ_=>False) (.sl e kk) ys [v] ft) :
  ∃w',(Instr.storeAt t (.pointer (some ⟨b,o,none⟩)) v).run P w=.ok () w'/\∃J' F',Rel cx (aO Z r (gz R z R.own R.tags lw (K.sl e kk).tys R.keep)) J' F' a w':=by
 have K0:=H.roots r R hr
 have hnt:=H.fE r R hr.1
 obtain⟨_,_,hbb,⟨arr,te,lo,hi,hb,hf,hs,hlast⟩,_⟩:=uU H hr hv hg cK hown hn
 have hone:∀u∈[v],u.oneCell'=true:=by
  intro u hu
  simp only[gY]at hu
  subst hu
  obtain⟨bv,nv,cv,rfl⟩:=jF
  rfl
 have aqm:VC (.sl e kk) v [v]:=by
  obtain⟨bv,nv,cv,rfl⟩:=jF
  exact⟨rfl,by simp⟩
 have hrun:=aik (o:=o) hT hb hf (show [v].length=(K.sl e kk).size from rfl) hs aqm hone
 obtain⟨s1,s2,fK,s3,s4,s5,s6⟩:=Fv b [v] w arr te (lo,hi) o hb hs
 have s7:=Fw b [v] w o
 refine⟨_,hrun,?_⟩
 obtain⟨fd,ok',aT,rest,iO,cB,hn',hpf,hd1,hty,_,fM,hwf,hgo⟩:=H.place hr hv (own':=R.own) hg cK (λt h=>h) hown
 rw[hn]at hn'
 simp only[ak,bS]at hn'
 obtain⟨rfl,rfl⟩:=hn'
 have hnd:=K0.nd
 rw[jd,tq]at hnd
 have HY:=hpf.nodup hnd.2
 have Ml:∀b∈aT,b∈J.fo r:=λb hb=>hpf.mem_iff.2 (bV _ (bV _ hb))
 obtain⟨ft,apv,Hw,apw⟩:=how aT ok' hd1 (dJ.1 (dJ.1 HY).1).1 Ml
 have lJ:b∉F:=H.dU r R hr b hbb
 have ao8:b∉ft:=λh=>by
  rcases Hw b h with h|h
  ·exact hwf b o rfl h
  ·exact lJ h
 have hF':∀b',b'∈F.filter (λb=>!ay b ft)↔b'∈F/\b'∉ft:=λb'=>by rw[jg];simp[gF]
 have hP:Ah cx Z J F w r R p ⟨.sl e kk,xs⟩ R.own cs1 (some (b,o)) aT rest ⟨.sl e kk,ys⟩ z R.tags lw (K.sl e kk).tys R.keep ft (F.filter λb=>!ay b ft) [v] (w.setCells b o [v]):=by
  refine⟨hz,rfl,λ_ h=>h,⟨s7.1,s7.2.1,s7.2.2⟩,by omega,λb' _ hne=>?_,λb' o' e'=>?_,λh=>by simp at h,rfl,.inl (λh=>by rw[h]at Hy;simp at Hy),⟨λ_ h=>h,hnt.1,hnt.2.2⟩,λb' hb'=>(Hw b' hb').imp id .inl,apv,λb' hb'=>.inl ((hF' b').1 hb').1,H.gL.filter _,
   λb' hb' h=>((hF' b').1 h).2 hb',.inl rfl,.inl rfl,λ_ q c0 w0 hpq rO hnq DJ=>?_,λJ' Tn hblk hval=>?_⟩
  ·refine .inr (.inr ?_)
   by_cases e:b'=b
   ·subst e;exact⟨o,rfl,Hy⟩
   ·exact absurd (s1 b' e) hne
  ·simp only[ak,bS]at e'
   obtain⟨rfl,rfl⟩:=e'
   refine⟨λi hi=>?_,arr,fK,te,(lo,hi),hb,s3,s4,λi hi=>s6 i hi⟩
   unfold cellAt
   rw[s3]
   exact s5 i hi
  ·cases q with
   |nil=>
    simp only[aR,ak,bS]at hnq
    exact⟨trivial,[v],by simp only[aR];rw[hnq.2]⟩
   |cons s q=>
    cases s with
    |aU n=>exact hpq.elim
    |idx i=>exact absurd (show e∈(K.sl e kk).tys by simp[K.tys]) (rO e (by simp[aC])).2
  ·exact lU (oQ hall) (dR (λ_ h=>h.elim) (λ_ h=>h) (λb' hb'=>s1 b' (λe=>ao8 (e▸hb'))) apw)
 obtain⟨J',h,_⟩:=hgo hP
 exact⟨J',_,h⟩
theorem anf(hT:eU P T)(H:Rel cx Z J F a w)(hd:o.dst=none){t:TypeId}{x y:Operand}(ho:o.op=.store t x y){u:AV}{r n m:Nat}{p:List Stp}{k0:K}(hk0:T.ty t=some k0)(h1:aW cx Z J F w u (a.eval x))(h2:dK Z u)(h3:aW cx Z J F w (.l9 r p n m) (a.eval y))
  (h:(RU k0 u r p n m λws=>(.ret ws:Prog (List Wr))).ends Z ws):dG P cx o a w (aF ws Z):=by
 have ht:=hT.ty t k0 hk0
 cases k0 with
 |sl e kk=>
  cases u with
  |ptr r' p' h0=>
   simp only[RU]at h
   rcases bB h with⟨hc,h5⟩|⟨_,h5⟩
   ·clear h
    simp only[bf]at hc
    obtain⟨hix,h6⟩:=h5
    have er:=bu hc.1
    have ep:=JJ hc.2 hix
    subst er ep
    obtain⟨R,hr,hv,h7⟩:=gH h6
    rcases bB h7 with⟨hc2,h8⟩|⟨_,h8⟩
    ·simp only[bf]at hc2
     obtain⟨⟨⟨c1,c2⟩,c3⟩,c4⟩:=hc2
     have hall:=nA c4
     cases hg:aD p R.k R.x with
     |none=>rw[hg]at h8;exact h8.elim
     |some dd=>
      rw[hg]at h8
      simp only at h8
      cases hck:b_ dd.1 (.sl e kk) dd.2 with
      |none=>rw[hck]at h8;exact h8.elim
      |some xs=>
       rw[hck]at h8
       simp only at h8
       obtain⟨ek,ey⟩:=iJ hck
       obtain⟨dk,dx⟩:=dd
       simp only at ek ey
       subst ek
       simp only at ey
       subst ey
       cases hz:bO p R.k R.x ⟨.sl e kk,(show List (El kk)from xs).take m⟩with
       |none=>rw[hz]at h8;exact h8.elim
       |some z=>
        rw[hz]at h8
        rw[bC h8]
        obtain⟨b0,c,ev,h3⟩:=h3
        obtain⟨cK,hown,q,wh,hn,hmq⟩:=h3 R hr.1 hv (bu c1) _ hg
        obtain⟨_,cs,b,o',hn2,ep⟩:=h1.2 R hr.1 hv c3 hown (by rw[hg];rfl)
        rw[hn]at hn2
        simp only[ak,bS]at hn2
        obtain⟨rfl,rfl⟩:=hn2
        obtain⟨w',r1,J',F',r2⟩:=WV (P:=P) ht H hr hv hg hz cK hown hall hn (v:=.slice b0 m c) ⟨_,_,_,rfl⟩ (lw:=gy R p :: (K.sl e kk).tys) (by simp) (λaT ok hO hnd hsub=>by
         unfold Ow at hO
         have he:ay e R.own=true:=hall e (by simp[K.tys])
         rw[aj he]at hO
         obtain⟨a0,n',c',e1,e2,e3,hO⟩:=hO
         simp only[gW,mX,eO]at e1
         obtain⟨rfl,rfl,rfl⟩:=e1
         have e2:q=@List.length (El kk) xs:=e2
         have hmx:m<=@List.length (El kk) xs:=by omega
         have hlen:(@List.take (El kk) m xs).length=m:=by rw[wP];omega
         rcases hO with⟨hc0,hf0⟩|⟨bb,o0,arr,lo,hi,ea,hb,hfr,hs,az,hl,hp0,hO⟩
         ·refine⟨[],mq,by simp,?_⟩
          unfold Ow
          rw[aj he]
          exact⟨b0,m,c,rfl,hlen.symm,by omega,.inl ⟨hc0,rfl⟩⟩
         ·have hl:az.length=(show List (El kk)from xs).length:=hl
          have lK:=hp0.nodup hnd
          have Ty:((az.take m).flatten).Sublist az.flatten:=by
           have:(az.take m++az.drop m).flatten=az.flatten:=by rw[Ab]
           rw[<-this,Zk]
           exact List.sublist_append_left _ _
          refine⟨bb :: (az.take m).flatten,(jO.2 ⟨λh=>(jO.1 lK).1 (Ty.subset h),(jO.1 lK).2.sublist Ty⟩),λb' hb'=>.inl (hp0.mem_iff.2 (by
           rcases bM.1 hb' with h|h
           ·rw[h];exact jE
           ·exact jD _ (Ty.subset h))),?_⟩
          have He:Ow (hp w) R.own (λ_=>False) (.sl e kk) (show List (El kk)from(show List (El kk)from xs).take m) [.slice b0 m c] (bb :: (az.take m).flatten):=by
           unfold Ow
           rw[aj he]
           refine⟨b0,m,c,rfl,hlen.symm,by omega,.inr ⟨bb,o0,arr,lo,hi,ea,hb,hfr,hs,az.take m,by show(az.take m).length=((show List (El kk)from xs).take m).length;simp[hl],.refl _,λi hi'=>?_⟩⟩
           have hi2:i<((show List (El kk)from xs).take m).length:=hi'
           have hi3:i<m/\i < @List.length (El kk) xs:=by
            have h9:i<(@List.take (El kk) m xs).length:=hi'
            rw[hlen]at h9;omega
           obtain⟨ds,g1,g2⟩:=hO i hi3.2
           refine⟨ds,g1,?_⟩
           have e1:(show List (El kk)from(show List (El kk)from xs).take m)[i]'hi'=(show List (El kk)from xs)[i]'hi3.2:=by
            show((show List (El kk)from xs).take m)[i]=_
            simp
           have e2:(az.take m).getD i []=az.getD i []:=by simp[eP,QE,hi3.1]
           rw[e1,e2]
           exact lU (oQ (λt ht=>hall t (by simp[K.tys,ht]))) g2
          exact He)
        refine⟨undef,w',J',F',.inr ⟨?_,rfl⟩,?_⟩
        ·simp only[execOp,ho,ep,ev,dH,r1,eZ,eH]
        ·rw[hd]
         exact r2
    ·exact h8.elim
   ·exact h5.elim
  |_=>exact h.elim
 |_=>exact h.elim
end
section
variable {P:Program}{T:bK}{cx:Cx}{Z:St}{J:aJ}{F:List Nat}{a:Act}{w:World}{o:Oper}{d:Nat}{ws:List Wr}{r:Nat}{R:Root}
theorem alX{t u ty e:TypeId}{kk:K}(ht:dz P T t (.sl e kk)){own:List TypeId}{ok:Nat->Prop}{xs:List (El kk)}{b:Option Addr}{n c:Nat}{x:Value}{fU:List Nat}{news:List Value}
  (hO:Ow (hp w) own ok (.sl e kk) xs [.slice b n c] fU) (hown:ay e own=true) (hS:Src P w kk.size u x 1 news) (hb:(xs.length+1)*T.bytes e<=140737488355328) :
  ∃w' b1 o1 c1 arr lo hi,(Builtin.append_ #[t,u] ty #[.slice b n c,x]).run P w=.ok (.slice (some ⟨b1,o1,none⟩) (n+1) c1) w'/\(w'.os=w.os/\w'.tape=w.tape/\w'.output=w.output)/\w.heap.size<=w'.heap.size/\n+1<=c1/\n=xs.length/\
   hp w' b1=some (.cells arr e (lo,hi))/\iU arr.size lo hi/\o1+c1*kk.size<=arr.size/\Cells (hp w') b1 (o1+n*kk.size) news/\(∀b',b'<w.heap.size->b'≠b1->hp w' b'=hp w b')/\
   ((b=some ⟨b1,o1,none⟩/\c=c1/\b1∈fU/\iH (hp w) b1=some e/\kQ (hp w) (hp w') b1 (o1+n*kk.size) kk.size)\/
    (b1=w.heap.size/\w.heap.size<w'.heap.size/\(0<n->∃b0 o0,b=some ⟨b0,o0,none⟩/\b0∈fU/\∀i,i<n*kk.size->cellAt (hp w') b1 (o1+i)=cellAt (hp w) b0 (o0+i)))):=by
 have hnl:news.length=kk.size:=by simpa using hS.nl
 unfold Ow at hO
 rw[aj hown]at hO
 obtain⟨a,n',c',e1,e2,e3,hO⟩:=hO
 simp only[gW,mX,eO]at e1
 obtain⟨rfl,rfl,rfl⟩:=e1
 have e2':n=xs.length:=e2
 by_cases hr:n+1<=c
 ·have hrun:=O_ (ty:=ty) ht hS (b:=b) (n:=n) hr
  rcases hO with⟨hc0,_⟩|⟨bb,q,arr,lo,hi,ea,hbk,hf,hs,lI,hl0,hp0,hO⟩
  ·omega
  ·subst ea
   have hle:(n+1)*kk.size<=c*kk.size:=jP _ hr
   rw[iB,lT]at hle
   have hst:=J9 (P:=P) (o:=q+n*kk.size) news hbk hf (by rw[hnl];omega) hS.one
   simp only[Result.andThen,addr_add,hst]at hrun
   obtain⟨s1,s2,fK,s3,s4,s5,s6⟩:=Fv bb news w arr e (lo,hi) (q+n*kk.size) hbk (by rw[hnl];omega)
   refine⟨_,bb,q,c,fK,lo,hi,hrun,Fw bb news w _,by omega,hr,e2',s3,by rw[s4];exact hf,by rw[s4];exact hs,λi hi'=>?_,λb' _ h=>s1 b' h,.inl ⟨rfl,rfl,hp0.mem_iff.2 (by simp),by unfold iH;rw[hbk],arr,fK,e,(lo,hi),hbk,s3,s4,λi hi'=>?_⟩⟩
   ·unfold cellAt
    rw[s3]
    exact s5 i hi'
   ·exact s6 i (by rw[hnl];exact hi')
 ·obtain⟨olds,ho1,ho2,ho3⟩:∃olds:List Value,olds.length=n*kk.size/\(Builtin.firstCells kk.size n (.slice b n c)).run P w.drew=.ok olds.toArray w.drew/\(0<n->∃b0 o0,b=some ⟨b0,o0,none⟩/\b0∈fU/\∀i,i<n*kk.size->olds[i]?=cellAt (hp w) b0 (o0+i)):=by
   rcases hO with⟨hc0,hf0⟩|⟨bb,q,arr,lo,hi,ea,hbk,hf,hs,lI,hl0,hp0,hO⟩
   ·have hn0:n=0:=by omega
    subst hn0
    refine⟨[],by simp,?_,λh=>by omega⟩
    cases b with
    |none=>exact WZ w.drew kk.size 0 0 c
    |some ad=>exact BU (P:=P) w.drew kk.size 0 ad 0 c [] (by simp) (λj v hj=>by simp at hj)
   ·subst ea
    have hle:n*kk.size<=c*kk.size:=jP _ e3
    have hrow:=FN (n:=n*kk.size) hbk (by omega:q+n*kk.size<=arr.size)
    have hrl:(iE (hp w) bb q (n*kk.size)).length=n*kk.size:=by simp[iE]
    refine⟨iE (hp w) bb q (n*kk.size),hrl,?_,λ_=>⟨bb,q,rfl,hp0.mem_iff.2 (by simp),λi hi'=>(hrow i (by rw[hrl];exact hi')).symm⟩⟩
    refine BU (P:=P) w.drew kk.size n ⟨bb,q,none⟩ n c _ hrl (λj v hj=>?_)
    rw[addr_add,vN]
    have:=hrow j (by rw[hrl];have:=(oh.1 hj).1;rw[hrl]at this;exact this)
    rw[hj]at this
    exact this
  obtain⟨nc,hnc,hrun⟩:=WY (ty:=ty) ht hS ho2 hr (by rw[e2'];exact hb)
  have hnew:=DI w.drew (.cells (olds.toArray++news.toArray++Builtin.zeroCells (iY kk).cells (nc-(n+1))) e)
  have hold:∀b',b'<w.heap.size->hp (w.drew.alloc (.cells (olds.toArray++news.toArray++Builtin.zeroCells (iY kk).cells (nc-(n+1))) e)) b'=hp w b':=λb' h=>Bc w.drew _ h
  have hws:w.drew.heap.size=w.heap.size:=rfl
  rw[hws]at hnew
  have hsz2:(w.drew.alloc (.cells (olds.toArray++news.toArray++Builtin.zeroCells (iY kk).cells (nc-(n+1))) e)).heap.size=w.heap.size+1:=Array.size_push ..
  have hzl:(iY kk).cells.size=kk.size:=by
   rw[FM ht.sl.2.1.shape]
   simpa using eY (Ce (h:=hp w) (own:=own) (ok:=ok) ht.sl.2.1.fD)
  have hcell:∀q,q<(olds++news).length->cellAt (hp (w.drew.alloc (.cells (olds.toArray++news.toArray++Builtin.zeroCells (iY kk).cells (nc-(n+1))) e))) w.heap.size (0+q)=(olds++news)[q]?:=by
   intro q hq
   unfold cellAt
   rw[hnew]
   simp only[jq]
   rw[PE (by simpa using hq)]
   simp
  refine⟨_,w.heap.size,0,nc,_,0,0,hrun,⟨rfl,rfl,rfl⟩,by omega,hnc,e2',hnew,iU.zero,?_,λi hi=>?_,λb' h1 _=>hold b' h1,.inr ⟨rfl,by omega,λhn=>?_⟩⟩
  ·simp only[Array.size_append,CO,size_zeroCells,hzl,ho1,hnl]
   have h9:n*kk.size+kk.size+(nc-(n+1))*kk.size=(n+1+(nc-(n+1)))*kk.size:=by rw[iB,iB,lT]
   rw[h9]
   have:n+1+(nc-(n+1))=nc:=by omega
   rw[this]
   omega
  ·rw[ou,hcell _ (by rw[dI,ho1];omega),yc (by omega),ho1]
   congr 1
   omega
  ·obtain⟨b0,o0,z1,z2,z3⟩:=ho3 hn
   refine⟨b0,o0,z1,z2,λi hi=>?_⟩
   rw[hcell _ (by rw[dI,ho1];omega),vE (by rw[ho1];exact hi)]
   exact z3 i hi
end
section
variable {P:Program}{T:bK}{cx:Cx}{Z:St}{J:aJ}{F:List Nat}{a:Act}{w:World}{o:Oper}{d:Nat}{ws:List Wr}{r:Nat}{R:Root}
theorem alB{h h':Heap}{own:List TypeId}{ok ok':Nat->Prop}{e:TypeId}{kk:K}{xs:List (El kk)}{b1 o1 n c:Nat}{fo:List Nat}(hall:∀t∈(K.sl e kk).tys,ay t own=true)(hnd:fo.Nodup)
  (H:Ow h own ok (.sl e kk) xs [.slice (some ⟨b1,o1,none⟩) n c] fo) (hb1:b1∈fo) (hs:kQ h h' b1 (o1+n*kk.size) kk.size) (ho:∀b∈fo,b≠b1->h' b=h b):Ow h' own ok' (.sl e kk) xs [.slice (some ⟨b1,o1,none⟩) n c] fo:=by
 have he:ay e own=true:=hall e (by simp[K.tys])
 unfold Ow at H ⊢
 rw[aj he]at H ⊢
 obtain⟨a,n',c',e1,e2,e3,H⟩:=H
 simp only[gW,mX,eO]at e1
 obtain⟨rfl,rfl,rfl⟩:=e1
 have e2':n=xs.length:=e2
 refine⟨_,n,c,rfl,e2,e3,?_⟩
 rcases H with⟨hc0,hf0⟩|⟨bb,q,arr,lo,hi,ea,hbk,hf,hsz,az,hl,hp,H⟩
 ·rw[hf0]at hb1;simp at hb1
 ·simp only[ak,pQ,eO]at ea
  obtain⟨rfl,rfl⟩:=ea
  obtain⟨ZW,fK,te,fr,s1,s2,s3,s4⟩:=hs
  rw[hbk]at s1
  simp only[ak,Obj.cells.injEq]at s1
  obtain⟨rfl,rfl,rfl⟩:=s1
  have lK:=hp.nodup hnd
  refine .inr ⟨b1,o1,fK,lo,hi,rfl,s2,by rw[s3];exact hf,by rw[s3];exact hsz,az,hl,hp,λi hi'=>?_⟩
  obtain⟨ds,g1,g2⟩:=H i hi'
  have hds:=eY g2
  refine⟨ds,λj hj=>?_,?_⟩
  ·have:=g1 j hj
   unfold cellAt at this ⊢
   rw[hbk]at this
   rw[s2]
   simp only at this ⊢
   have hlt:(i+1)*kk.size<=n*kk.size:=jP _ (by have:i<xs.length:=hi';omega)
   rw[iB,lT]at hlt
   rw[s4 _ (by omega)]
   exact this
  ·refine lU (oQ (λt ht=>hall t (by simp[K.tys,ht]))) (dR (ok:=λ_=>False) (ok':=λ_=>False) (λ_ h=>h.elim) (λ_ h=>h) (λb' hb'=>?_) (lU (oQ (λt ht=>hall t (by simp[K.tys,ht]))) g2))
   have hm:=uN hb'
   exact ho b' (hp.mem_iff.2 (jD _ hm)) (λe=>(jO.1 lK).1 (e▸hm))
end
section
variable {P:Program}{T:bK}{cx:Cx}{Z:St}{J:aJ}{F:List Nat}{a:Act}{w:World}{o:Oper}{d:Nat}{ws:List Wr}{r:Nat}{R:Root}
theorem am2(hT:eU P T)(H:Rel cx Z J F a w)(hd:o.dst=some d)(hdn:d<cx.nt){c:Call}(ho:o.op=.call c)(hcb:c.callee=.builtin .append){u v:AV}{t:TypeId}{e1:TypeId}{k1:K}(hl:h_ cx Z J F w [u,v] (c.args.toList.map a.eval))
  (hat:c.argTypes[0]?=some t) (ht1:(c.argTypes[1]?).bind T.ty=some (.sl e1 k1)) (h:(Q6 T d t u v λws=>(.ret ws:Prog (List Wr))).ends Z ws):dG P cx o a w (aF ws Z):=by
 obtain⟨x,y,hxy,hu,hv0⟩:=Pp hl
 obtain⟨t2,xe,ht2⟩:=rU hT ht1
 unfold Q6 at h
 split at h
 ·rename_i e kk r p n0 rb gb hty
  have ht:=hT.ty t _ hty
  obtain⟨B,Tt,hvB,h⟩:=gH h
  rcases bB h with⟨hc,h5⟩|⟨_,h5⟩
  ·clear h
   simp only[bf,jN,gF]at hc
   obtain⟨⟨⟨⟨⟨c1,c2⟩,c3⟩,c4⟩,c5⟩,c6⟩:=hc
   have hne:r≠rb:=λe=>by rw[e]at c3;simp at c3
   have Sm:=nA c6
   cases hcB:b_ B.k (.sl e kk) B.x with
   |none=>rw[hcB]at h5;exact h5.elim
   |some ys=>
    rw[hcB]at h5
    simp only at h5
    obtain⟨R,hr,hv,h6⟩:=gH h5
    rcases bB h6 with⟨hc2,h7⟩|⟨_,h7⟩
    ·clear h5 h6
     simp only[bf]at hc2
     obtain⟨⟨⟨q1,q2⟩,q3⟩,q4⟩:=hc2
     have hall:=nA q3
     cases hg:aD p R.k R.x with
     |none=>rw[hg]at h7;exact h7.elim
     |some dd=>
      rw[hg]at h7
      simp only at h7
      cases hck:b_ dd.1 (.sl e kk) dd.2 with
      |none=>rw[hck]at h7;exact h7.elim
      |some xs=>
       rw[hck]at h7
       simp only at h7
       obtain⟨ek,ey⟩:=iJ hck
       obtain⟨dk,dx⟩:=dd
       simp only at ek ey
       subst ek
       simp only at ey
       subst ey
       cases hz:bO p R.k R.x ⟨.sl e kk,xs⟩with
       |none=>rw[hz]at h7;exact h7.elim
       |some z=>
        rw[hz]at h7
        simp only at h7
        obtain⟨⟨hy1,hbd⟩,h8⟩:=h7
        obtain⟨hfr,h9⟩:=oF h8
        rw[bC h9]
        obtain⟨hkB,hVB⟩:=hv0 B Tt (bu c1)
        obtain⟨ekB,eyB⟩:=iJ hcB
        obtain⟨H1,T1,hH,hcl⟩:=kill H Tt hkB hvB
        have hSr:Same Z J (aO Z rb g_) (iQ J rb) r:=kR hne
        have hr1:=(hSr.live R).2 hr
        have htB:∀n,(rb,n)∉R.tags:=λn hn=>by
         have:=dV.1 q4 _ hn
         simp at this
        have hv1:cZ (aO Z rb g_) R:=⟨hv.1,by rw[vO htB];exact hv.2⟩
        obtain⟨cK,hown,cs,wh,hn,ji⟩:=hu R hr.1 hv (bu q1) _ hg
        have hn1:aR (hp w) p R.k ((iQ J rb).hdr r) (aL (iQ J rb) R r)=some (cs,wh):=by rw[hSr.hdr,hSr.wh];exact hn
        obtain⟨fd,ok',aT,rest,iO,cB,hn',hpf,hd1,ay7,_,fM,hwf,hgo⟩:=H1.place hr1 hv1 (own':=R.own) hg cK (λt h=>h) hown
        rw[hn1]at hn'
        simp only[ak,bS]at hn'
        obtain⟨rfl,rfl⟩:=hn'
        have K1:=H1.roots r R hr1
        have hnd:=K1.nd
        rw[jd,tq]at hnd
        have HY:=hpf.nodup hnd.2
        have Ml:∀b∈aT,b∈(iQ J rb).fo r:=λb hb=>hpf.mem_iff.2 (bV _ (bV _ hb))
        have abG:=(dJ.1 (dJ.1 HY).1).1
        have Dv:∀b∈aT,b<w.heap.size:=λb hb=>(K1.mine b (by rw[jd,lN];exact .inr (Ml b hb))).1
        have abF:∀b∈aT,b∉J.fo rb++F:=λb hb=>H1.dU r R hr1 b (by rw[jd,lN];exact .inr (Ml b hb))
        have hhd:∃b n c,a.eval x=.slice b n c/\cs=[.slice b n c]:=by
         have hO:=hd1
         unfold Ow at hO
         rw[aj (hall e (by simp[K.tys]))]at hO
         obtain⟨b,n,c,e1,_⟩:=hO
         have hV1:=ji.1
         rw[e1]at hV1
         simp only[gW,eO]at hV1
         exact⟨b,n,c,hV1.symm,e1⟩
        obtain⟨b,n,cp,evx,rfl⟩:=hhd
        have hlen1 : @List.length (El kk) ys=1:=hy1
        have hOB:Ow (hp w) B.own (aN cx (aO Z rb g_) (iQ J rb) (J.fo rb++F) w B.tags) (.sl e kk) ys (J.hdr rb) (J.fo rb):=by
         have h0:=hH.ow hcl
         exact vI ekB eyB h0
        have aoV:VC (.sl e kk) (a.eval y) (J.hdr rb):=ekB▸hVB
        obtain⟨news,hS,az,hfl,xh,apu,hE⟩:=ahk (P:=P) (u:=t2) (.inl ⟨_,ht2.sl.1⟩) ht.sl.2.1.fD aoV (Sm e (by simp[K.tys])) hOB hH.nd
        rw[hlen1]at hS
        have hnl:news.length=kk.size:=by simpa using hS.nl
        have S_:0 < @List.length (El kk) ys:=by omega
        have hE0:=hE 0 S_
        have hseg:gP news kk.size 0=news:=by
         unfold gP
         simp only[Nat.zero_mul,vD]
         exact Zp (by omega)
        rw[hseg]at hE0
        generalize hfe:az.getD 0 []=fe at hE0
        have Mk:∀b∈fe,b∈J.fo rb:=λb hb=>apu b (uN (by rw[hfe];exact hb))
        have abE:fe.Nodup:=by
         have:az=[fe]:=by
          cases az with
          |nil=>simp[hlen1]at hfl
          |cons f l=>cases l with
           |nil=>simp at hfe;rw[hfe]
           |cons _ _=>simp[hlen1]at hfl
         rw[this]at xh
         simpa using xh
        obtain⟨w',b1,o1,c1',arr,lo,hi,hrun,hos,hsz,hnc,hnx,hblk1,abJ,hsize,hcells,hoth,hcase⟩:=alX (P:=P) (u:=t2) (ty:=o.type) (x:=a.eval y) ht hd1 (hall e (by simp[K.tys])) hS hbd
        obtain⟨F',hF1,hF2,Ma,Sn⟩:∃F':List Nat,(∀b∈F',b∈J.fo rb++F\/(w.heap.size<=b/\b<w'.heap.size))/\F'.Nodup/\(∀b∈J.fo rb++F,b∈F')/\(b1=w.heap.size->w.heap.size<w'.heap.size->b1∈F'):=by
         by_cases hs:w.heap.size<w'.heap.size
         ·refine⟨w.heap.size :: (J.fo rb++F),λb hb=>?_,jO.2 ⟨λhm=>?_,H1.gL⟩,λb hb=>jD _ hb,λe _=>by rw[e];exact jE⟩
          ·rcases bM.1 hb with h|h
           ·exact .inr ⟨by omega,by omega⟩
           ·exact .inl h
          ·have:=(H1.fl _ hm).1;omega
         ·exact⟨J.fo rb++F,λb hb=>.inl hb,H1.gL,λb hb=>hb,λ_ h=>absurd h hs⟩
        have apo:∀b∈aT,b∉F':=λb hb hm=>by
         rcases hF1 b hm with h|h
         ·exact abF b hb h
         ·have:=Dv b hb;omega
        have ab9:∀b',b'<w.heap.size->b'∉aT->hp w' b'=hp w b':=λb' hlt hno=>hoth b' hlt (λe=>by
         rcases hcase with⟨_,_,h,_⟩|⟨h,_⟩
         ·exact hno (e▸h)
         ·omega)
        have hP:Ah cx (aO Z rb g_) (iQ J rb) (J.fo rb++F) w r R p ⟨.sl e kk,xs⟩ R.own [.slice b n cp] wh aT rest ⟨.sl e kk,xs⟩ z R.tags [e] (K.sl e kk).tys R.keep aT F' [.slice b n cp] w':=by
         have hnt:=H1.fE r R hr1.1
         refine⟨hz,rfl,λ_ h=>h,hos,hsz,λb' hlt hne'=>?_,λb' o' e'=>?_,λ_=>rfl,rfl,.inl (by simp),⟨λ_ h=>h,hnt.1,hnt.2.2⟩,λb' hb'=>.inl hb',abG,λb' hb'=>(hF1 b' hb').imp id .inl,hF2,apo,.inl rfl,.inl rfl,λ_ q c0 w0 hpq rO hnq DJ=>?_,λJ' Tn hblk hval=>?_⟩
         ·refine .inr (.inl ?_)
          by_cases e':b'=b1
          ·rcases hcase with⟨_,_,h1,h2,_⟩|⟨h,_⟩
           ·exact⟨e'▸h1,e,by simp,e'▸h2⟩
           ·omega
          ·exact absurd (hoth b' hlt e') hne'
         ·obtain⟨m1,_,m2,⟨ZW,te,l0,h0,m3,_⟩,_⟩:=uU H1 hr1 hv1 hg cK hown (by rw[hn1,e'])
          have hlt:=(K1.mine b' m2).1
          have hs:=ab9 b' hlt (hwf b' o' e')
          exact⟨m1.congr hs,kQ.of_same _ _ m3 hs⟩
         ·cases q with
          |nil=>
           simp only[aR,ak,bS]at hnq
           exact⟨trivial,[.slice b n cp],by simp only[aR];rw[hnq.2]⟩
          |cons s q=>
           cases s with
           |aU n=>exact hpq.elim
           |idx i=>exact absurd (show e∈(K.sl e kk).tys by simp[K.tys]) (rO e (by simp[aC])).2
         ·rcases hcase with⟨hb,_,h1,h2,h3⟩|⟨hb,_⟩
          ·rw[hb]at hd1 ⊢
           refine alB hall abG hd1 h1 h3 (λb' hb' hne'=>hoth b' (Dv b' hb') hne')
          ·exact lU (oQ hall) (dR (ok:=λ_=>False) (ok':=λ_=>False) (λ_ h=>h.elim) (λ_ h=>h) (λb' hb'=>hoth b' (Dv b' hb') (λe=>by have:=Dv b' hb';omega)) (lU (oQ hall) hd1))
        obtain⟨gB,hR2,Sy,hb2,Tf,Hw⟩:=hgo hP
        have oI:aK d 0≠r:=λe=>by have:=hr.1;rw[<-e,hfr]at this;simp at this
        have hqB:aK d 0≠rb:=λe=>by have:=Tt.1;rw[<-e,hfr]at this;simp at this
        have hq0:(aO (aO Z rb g_) r (gz R z R.own R.tags [e] (K.sl e kk).tys R.keep)).roots (aK d 0)=none:=by
         rw[jA _ _ oI,jA _ _ hqB];exact hfr
        obtain⟨xk,ni,SL,SN,SQ,SS⟩:∃(xk:Value) (ni:List Nat),(∀b'∈ni,b'∈F')/\ni.Nodup/\
          Ow (hp w') (e :: kk.tys) (λ_=>False) (yz e kk) ((show List (El kk)from ys).getD 0 kk.zero,(([]:List Unit),())) (news++[xk]) ni/\
          ((b=some ⟨b1,o1,none⟩/\b1∈aT/\xk=.slice none 0 0/\cp=c1')\/(xk=.slice (some ⟨b1,o1,none⟩) 0 c1'/\b1∈ni/\(0<n->∃b0 o0,b=some ⟨b0,o0,none⟩/\b0∈aT/\∀i,i<n*kk.size->cellAt (hp w') b1 (o1+i)=cellAt (hp w') b0 (o0+i)))):=by
         have abD:∀b'∈fe,b'<w.heap.size:=λb' hb'=>(H1.fl b' (bV _ (Mk b' hb'))).1
         have api:∀b'∈fe,b'∉aT:=λb' hb' h=>abF b' h (bV _ (Mk b' hb'))
         have hy0:(show List (El kk)from ys).getD 0 kk.zero=@getElem (List (El kk)) Nat (El kk) _ _ ys 0 S_:=nk S_
         have Md:Ow (hp w') (e :: kk.tys) (λ_=>False) kk ((show List (El kk)from ys).getD 0 kk.zero) news fe:=by
          rw[hy0]
          have h1:=lU (ok':=λ_=>False) (oQ (λt ht=>Sm t (by simp[K.tys,ht]))) hE0
          have h2:=dR (h':=hp w') (ok':=λ_=>False) (λ_ h=>h.elim) (λ_ h=>h) (λb' hb'=>ab9 b' (abD b' hb') (api b' hb')) h1
          exact sw (λt ht=>by rw[fF.2 (jD _ ht),Sm t (by simp[K.tys,ht])]) h2
         rcases hcase with⟨hb,hcc,h1,h2,h3⟩|⟨hb,hlt,hcp⟩
         ·refine⟨.slice none 0 0,fe,λb' hb'=>Ma b' (bV _ (Mk b' hb')),abE,?_,.inl ⟨hb,h1,rfl,hcc⟩⟩
          exact⟨news,[.slice none 0 0],fe,[],rfl,by simp,Md,[.slice none 0 0],[],[],[],rfl,by simp,JX,rfl,rfl⟩
         ·refine⟨.slice (some ⟨b1,o1,none⟩) 0 c1',fe++[b1],λb' hb'=>?_,dJ.2 ⟨abE,by simp,λb' h1 b2 h2 e=>by
            simp only[gY]at h2
            subst h2
            have:=abD b' h1
            omega⟩,?_,.inr ⟨rfl,by simp,λhn0=>?_⟩⟩
          ·rcases dh.1 hb' with h|h
           ·exact Ma b' (bV _ (Mk b' h))
           ·simp only[gY]at h
            rw[h]
            exact Sn hb hlt
          ·refine⟨news,[.slice (some ⟨b1,o1,none⟩) 0 c1'],fe,[b1],rfl,.refl _,Md,[.slice (some ⟨b1,o1,none⟩) 0 c1'],[],[b1],[],rfl,by simp,?_,rfl,rfl⟩
           have hOs:Ow (hp w') (e :: kk.tys) (λ_=>False) (.sl e (.gap kk.size)) (show List (El (.gap kk.size))from []) [.slice (some ⟨b1,o1,none⟩) 0 c1'] [b1]:=by
            unfold Ow
            rw[aj (fF.2 jE)]
            exact⟨_,0,c1',rfl,rfl,dW _,.inr ⟨b1,o1,arr,lo,hi,rfl,hblk1,abJ,hsize,[],rfl,by simp,λi hi'=>absurd hi' (Nat.not_lt_zero _)⟩⟩
           exact hOs
          ·obtain⟨b0,o0,z1,z2,z3⟩:=hcp hn0
           have hs0:hp w' b0=hp w b0:=hoth b0 (Dv b0 z2) (λe=>by have:=Dv b0 z2;omega)
           exact⟨b0,o0,z1,z2,λi hi'=>by rw[z3 i hi',yG hs0]⟩
        have hkq:(bU (yz e kk) ((show List (El kk)from ys).getD 0 kk.zero,(([]:List Unit),())) (e :: kk.tys) [] .anon).kind=.anon:=rfl
        obtain⟨A1,A2⟩:=CU (R':=bU (yz e kk) ((show List (El kk)from ys).getD 0 kk.zero,(([]:List Unit),())) (e :: kk.tys) [] .anon) hR2 hq0 (oK d 0) rfl (by simp[bU]) (λt ht=>by simp[bU]at ht) (0,0) (news++[xk]) ni []
         (λb' hb'=>by rw[qb hkq]at hb';exact⟨SL b' hb',by simp⟩) (by rw[qb hkq];exact SN) (λb' hb'=>by simp at hb') mq
         (λ_=>dR (λ_ h=>h.elim) (λ_ h=>h.elim) (λ_ _=>rfl) SQ) (by simp[bU,K.size,hnl]) (λb' o' hb'=>by rw[FK hkq]at hb';simp at hb')
        have DR:(Builtin.append_ #[t,t2] o.type #[a.eval x,a.eval y]).run P w=.ok (.slice (some ⟨b1,o1,none⟩) (n+1) c1') w':=by rw[evx];exact hrun
        refine nR (x:=.one (.app r p (dL (e :: R.w)+dL ((K.sl e kk).tys++R.h)) (aK d 0))) A1 hd hdn (J8 ho hcb hxy hat xe DR) ?_ ?_
        ·intro R2 Su acg _ Q2 uC _
         rw[jA _ _ oI.symm,fQ]at Su
         simp only[ak]at Su
         subst Su
         obtain⟨rfl,_⟩:=nY uC
         have hv2:cZ (aO (aO Z rb g_) r (gz R z R.own R.tags [e] (K.sl e kk).tys R.keep)) (gz R z R.own R.tags [e] (K.sl e kk).tys R.keep):=by
          refine⟨acg.1,?_⟩
          have h0:=acg.2
          rw[vO]at h0
          ·exact h0
          ·intro m hm
           have hm':(aK d 0,m)∈R.tags:=hm
           rcases(H.fE r R hr.1).1 _ hm' with h|⟨Q,h1,_⟩
           ·simp only[oK]at h;simp at h
           ·simp only at h1;rw[hfr]at h1;simp at h1
         have mK:=Tf c5 hv2
         have hd2:(bn gB (aK d 0) (0,0) (news++[xk]) ni).hdr r=gB.hdr r:=upd_ne _ _ oI.symm
         have hw2:aL (bn gB (aK d 0) (0,0) (news++[xk]) ni) (gz R z R.own R.tags [e] (K.sl e kk).tys R.keep) r=aL gB (gz R z R.own R.tags [e] (K.sl e kk).tys R.keep) r:=by
          unfold aL;simp[bn,upd_ne _ _ oI.symm]
         have hf2:(bn gB (aK d 0) (0,0) (news++[xk]) ni).fo r=gB.fo r:=upd_ne _ _ oI.symm
         obtain⟨g1,g2,g3,g4⟩:=aa6 (h:=hp w') p c4 hg hz rfl
         refine⟨e,kk,xs,wh,b,n,cp,news,xk,b1,o1,c1',arr,lo,hi,g1,g2,λt ht=>?_,by rw[hd2,hw2];exact mK,⟨rfl,rfl⟩,by simp[bn,upd_same],hnl,rfl,hnc,hblk1,abJ,hsize,hcells,?_⟩
         ·have ht':t∈aC p z.1:=ht
          rw[g3]at ht'
          simp at ht'
         ·rcases SS with⟨z1,z2,z3⟩|⟨z1,z2,z3⟩
          ·exact .inl ⟨z1,by rw[hf2];exact Hw b1 z2,z3⟩
          ·refine .inr ⟨z1,by simp only[bn,upd_same];exact z2,λhn0=>?_⟩
           obtain⟨b0,o0,y1,y2,y3⟩:=z3 hn0
           exact⟨b0,o0,y1,by rw[hf2];exact Hw b0 y2,y3⟩
        ·refine⟨⟨gz R z R.own R.tags [e] (K.sl e kk).tys R.keep,?_,.inr (bZ _)⟩,_,fQ ..⟩
         rw[jA _ _ oI.symm,fQ]
    ·exact h7.elim
  ·exact h5.elim
 ·exact h.elim
end
section
variable {P:Program}{T:bK}{cx:Cx}{Z:St}{J:aJ}{F:List Nat}{a:Act}{w:World}{o:Oper}{d:Nat}{ws:List Wr}{r:Nat}{R:Root}
theorem am3(hT:eU P T)(H:Rel cx Z J F a w)(hd:o.dst=none){t:TypeId}{x y:Operand}(ho:o.op=.store t x y){u:AV}{r n q:Nat}{p:List Stp}{k0:K}(hk0:T.ty t=some k0)(h1:aW cx Z J F w u (a.eval x))(h2:dK Z u)(h3:aW cx Z J F w (.app r p n q) (a.eval y))
  (h:(Q7 k0 u r p n q λws=>(.ret ws:Prog (List Wr))).ends Z ws):dG P cx o a w (aF ws Z):=by
 have ht:=hT.ty t k0 hk0
 cases k0 with
 |sl e kk=>
  cases u with
  |ptr r' p' h0=>
   simp only[Q7]at h
   rcases bB h with⟨hc,h5⟩|⟨_,h5⟩
   ·clear h
    simp only[bf,jN]at hc
    obtain⟨⟨⟨c1,c2⟩,c3⟩,c4⟩:=hc
    have hne:r≠q:=λe=>by rw[e]at c4;simp at c4
    have er:=bu c1
    have Mq:p'.all Stp.jw=true:=OI c2 c3
    have ep:=JJ c2 (by rw[yX c3,yX Mq])
    subst er ep
    obtain⟨Q,pF,lZ,h6⟩:=gH h5
    rcases bB h6 with⟨rJ,h7⟩|⟨_,h7⟩
    ·clear h5 h6
     simp only[bf]at rJ
     have Sr:=nA rJ.2
     cases qg:b_ Q.k (yz e kk) Q.x with
     |none=>rw[qg]at h7;exact h7.elim
     |some yq=>
      rw[qg]at h7
      simp only at h7
      obtain⟨R,hr,hv,h8⟩:=gH h7
      rcases bB h8 with⟨hcR,h9⟩|⟨_,h9⟩
      ·clear h7 h8
       simp only[bf]at hcR
       obtain⟨⟨⟨⟨d1,d2⟩,d3⟩,d4⟩,d5⟩:=hcR
       have hall:=nA d4
       cases hg:aD p R.k R.x with
       |none=>rw[hg]at h9;exact h9.elim
       |some dd=>
        rw[hg]at h9
        simp only at h9
        cases hck:b_ dd.1 (.sl e kk) dd.2 with
        |none=>rw[hck]at h9;exact h9.elim
        |some xs=>
         rw[hck]at h9
         simp only at h9
         obtain⟨ek,ey⟩:=iJ hck
         obtain⟨dk,dx⟩:=dd
         simp only at ek ey
         subst ek
         simp only at ey
         subst ey
         cases hz:bO p R.k R.x ⟨.sl e kk,(show List (El kk)from xs)++[(show El kk from yq.1)]⟩with
         |none=>rw[hz]at h9;exact h9.elim
         |some z=>
          rw[hz]at h9
          rw[bC h9]
          obtain⟨e',ES,xs',wh,b,n',c,ce,hq,b1,o1,cc,arr,lo,hi,a1,a2,a3,a4,⟨a5,akd⟩,a6,a7,a8,a9,Gw,Q3,a12,Q4,Aj⟩:=h3 R hr.1 hv (bu d1) Q pF (bu rJ.1)
          rw[hg]at a1
          simp only[ak,Sigma.mk.injEq,K.sl.injEq]at a1
          obtain⟨⟨rfl,rfl⟩,a1⟩:=a1
          have a1:=eq_of_heq a1
          subst a1
          obtain⟨H1,T1,hH,hcl⟩:=kill H pF akd lZ
          have hSr:Same Z J (aO Z q g_) (iQ J q) r:=kR hne
          have hr1:=(hSr.live R).2 hr
          have rO:∀m,(q,m)∉R.tags:=λm hm=>by
           have:=dV.1 d5 _ hm
           simp at this
          have hv1:cZ (aO Z q g_) R:=⟨hv.1,by rw[vO rO];exact hv.2⟩
          obtain⟨_,cs,bA,oA,hn2,eA⟩:=h1.2 R hr.1 hv d3 a3 (by rw[hg];rfl)
          rw[a4]at hn2
          simp only[ak,bS]at hn2
          obtain⟨rfl,rfl⟩:=hn2
          have hn1:aR (hp w) p R.k ((iQ J q).hdr r) (aL (iQ J q) R r)=some ([.slice b n' c],some (bA,oA)):=by rw[hSr.hdr,hSr.wh];exact a4
          obtain⟨yJ,AB⟩:=iJ qg
          have lY:Ow (hp w) Q.own (aN cx (aO Z q g_) (iQ J q) (J.fo q++F) w Q.tags) (yz e kk) yq (ce++[hq]) (J.fo q):=by
           have h0:=vI yJ AB (hH.ow hcl)
           rw[a6]at h0
           exact h0
          obtain⟨c1',c2',f1,f2,ec,hpq,qd,hO2⟩:=lY
          have hlc:=eY qd
          have hcc:=List.append_inj ec (by rw[a7,hlc])
          obtain⟨rfl,rfl⟩:=hcc
          obtain⟨c3',Rt,f3,f4,ec2,apY,hO3,hO4⟩:=hO2
          have hpn:=hpq.nodup hH.nd
          have ab6:=dJ.1 hpn
          have SI:∀b'∈f1,b'∈J.fo q:=λb' hb'=>hpq.mem_iff.2 (bV _ hb')
          have aoJ:Ow (hp w) R.own (λ_=>False) kk yq.1 ce f1:=sw (λt ht=>by rw[hall t (by simp[K.tys,ht]),Sr t (jD _ ht)]) (lU (oQ (λt ht=>Sr t (jD _ ht))) qd)
          have ao2:b1∉f1\/b1∈J.fo r:=by
           rcases Aj with⟨_,z2,_⟩|⟨z1,z2,_⟩
           ·exact .inr z2
           ·refine .inl λhm=>?_
            have hlen3:=eY hO3
            have hc3:c3'=[hq]/\Rt=[]:=by
             cases c3' with
             |nil=>simp[K.size]at hlen3
             |cons a l=>
              simp only[gX,gW]at ec2
              obtain⟨rfl,h⟩:=ec2
              have:=List.append_eq_nil_iff.1 h.symm
              rw[this.1,this.2]
              exact⟨rfl,rfl⟩
            rw[hc3.1,z1]at hO3
            unfold Ow at hO3
            rw[aj (Sr e jE)]at hO3
            obtain⟨a',m',cm,g1,_,_,g4⟩:=hO3
            simp only[gW,mX,eO]at g1
            obtain⟨rfl,rfl,rfl⟩:=g1
            rcases g4 with⟨g4,_⟩|⟨bb,q',_,_,_,g5,_,_,_,az,_,g6,_⟩
            ·omega
            ·simp only[ak,pQ,eO]at g5
             obtain⟨rfl,rfl⟩:=g5
             exact ab6.2.2 b1 hm b1 (apY.mem_iff.2 (bV _ (g6.mem_iff.2 jE))) rfl
          have Ht:∀b'∈(iQ J q).fo r,b'∉J.fo q++F:=λb' hb'=>H1.dU r R hr1 b' (by rw[jd,lN];exact .inr hb')
          obtain⟨w',r1,J',F',r2⟩:=WV (P:=P) ht H1 hr1 hv1 hg hz a2 a3 hall hn1 (v:=.slice (some ⟨b1,o1,none⟩) (n'+1) cc) ⟨_,_,_,rfl⟩ (lw:=[gy R p,e]) (by simp) (λaT ok hO hnd hsub=>by
           have he:ay e R.own=true:=hall e (by simp[K.tys])
           unfold Ow at hO
           rw[aj he]at hO
           obtain⟨a0,n2,c2,e1,e2,e3,hO⟩:=hO
           simp only[gW,mX,eO]at e1
           obtain⟨rfl,rfl,rfl⟩:=e1
           have e2:n'=@List.length (El kk) xs:=e2
           obtain⟨az,hfl,hfs,hfn,hfe⟩:∃az:List (List Nat),az.length=@List.length (El kk) xs/\(∀b'∈az.flatten,b'∈aT/\b'≠b1)/\az.flatten.Nodup/\∀(i:Nat) (hi:i < @List.length (El kk) xs),∃ds,Cells (hp w) b1 (o1+i*kk.size) ds/\Ow (hp w) R.own ok kk (@getElem (List (El kk)) Nat (El kk) _ _ xs i hi) ds (az.getD i []):=by
            rcases hO with⟨hc0,hf0⟩|⟨bb,q',fK,lo',hi',ea,hbk,hfz,hs,az,hl,hp0,hO⟩
            ·have hx0 : @List.length (El kk) xs=0:=by omega
             exact⟨[],by simp[hx0],by simp,by simp,λi hi=>by omega⟩
            ·have lK:=hp0.nodup hnd
             have ay6:bb∈(iQ J q).fo r:=hsub bb (hp0.mem_iff.2 jE)
             refine⟨az,hl,λb' hb'=>⟨hp0.mem_iff.2 (jD _ hb'),λeb=>?_⟩,(jO.1 lK).2,λi hi=>?_⟩
             ·subst eb
              rcases Aj with⟨z1,_,_⟩|⟨_,z2,_⟩
              ·rw[z1]at ea
               simp only[ak,pQ,eO]at ea
               rw[ea.1]at hb'
               exact(jO.1 lK).1 hb'
              ·exact Ht b' (hsub b' (hp0.mem_iff.2 (jD _ hb'))) (bV _ z2)
             ·obtain⟨ds,g1,g2⟩:=hO i hi
              refine⟨ds,?_,g2⟩
              rcases Aj with⟨z1,_,_⟩|⟨_,_,z3⟩
              ·rw[z1]at ea
               simp only[ak,pQ,eO]at ea
               rw[ea.1,ea.2]
               exact g1
              ·obtain⟨b0,o0,y1,_,y3⟩:=z3 (by omega)
               rw[y1]at ea
               simp only[ak,pQ,eO]at ea
               obtain⟨rfl,rfl⟩:=ea
               have hdl:=eY g2
               intro j hj
               rw[<-g1 j hj,ou,y3 (i*kk.size+j) (by
                have hb2:(i+1)*kk.size<=n'*kk.size:=jP _ (by omega)
                rw[iB,lT]at hb2
                omega),<-ou]
           have ao3:b1∉f1:=by
            rcases ao2 with h|h
            ·exact h
            ·intro hm
             exact Ht b1 (by rw[hSr.fo];exact h) (bV _ (SI b1 hm))
           refine⟨b1 :: (az.flatten++f1),jO.2 ⟨λhm=>?_,dJ.2 ⟨hfn,ab6.1,λb' h1' b2 h2' eb=>?_⟩⟩,λb' hb'=>?_,?_⟩
           ·rcases dh.1 hm with h|h
            ·exact(hfs b1 h).2 rfl
            ·exact ao3 h
           ·subst eb
            exact Ht b' (hsub b' (hfs b' h1').1) (bV _ (SI b' h2'))
           ·rcases bM.1 hb' with h|h
            ·subst h
             rcases Aj with⟨z1,_,_,z4⟩|⟨_,z2,_⟩
             ·refine .inl ?_
              rcases hO with⟨hc0,_⟩|⟨bb,q',_,_,_,ea,_,_,_,_,_,hp0,_⟩
              ·omega
              ·rw[z1]at ea
               simp only[ak,pQ,eO]at ea
               rw[ea.1]
               exact hp0.mem_iff.2 jE
             ·exact .inr (bV _ z2)
            ·rcases dh.1 h with h|h
             ·exact .inl (hfs b' h).1
             ·exact .inr (bV _ (SI b' h))
           ·have He:Ow (hp w) R.own (λ_=>False) (.sl e kk) (show List (El kk)from(show List (El kk)from xs)++[(show El kk from yq.1)]) [.slice (some ⟨b1,o1,none⟩) (n'+1) cc] (b1 :: (az.flatten++f1)):=by
             unfold Ow
             rw[aj he]
             have hlen:(@HAppend.hAppend (List (El kk)) (List (El kk)) (List (El kk)) _ xs [yq.1]).length=n'+1:=by rw[dI,e2];rfl
             refine⟨_,n'+1,cc,rfl,hlen.symm,a9,.inr ⟨b1,o1,arr,lo,hi,rfl,Gw,Q3,a12,az++[f1],by show(az++[f1]).length=_;rw[dI,hfl,hlen,e2];rfl,by simp,λi hi'=>?_⟩⟩
             have hi2:i<(@HAppend.hAppend (List (El kk)) (List (El kk)) (List (El kk)) _ xs [yq.1]).length:=hi'
             rw[hlen]at hi2
             rw[G8]
             by_cases hi0:i < @List.length (El kk) xs
             ·obtain⟨ds,g1,g2⟩:=hfe i hi0
              rw[aj (by rw[hfl];exact hi0)]
              have hx:(show List (El kk)from(show List (El kk)from xs)++[(show El kk from yq.1)])[i]'hi'=@getElem (List (El kk)) Nat (El kk) _ _ xs i hi0:=CK hi0
              rw[hx]
              exact⟨ds,g1,lU (oQ (λt ht=>hall t (by simp[K.tys,ht]))) g2⟩
             ·have hin:i=n':=by omega
              rw[ah (by rw[hfl];exact hi0)]
              have hx:(show List (El kk)from(show List (El kk)from xs)++[(show El kk from yq.1)])[i]'hi'=yq.1:=by
               have:=@K8 (El kk) xs [yq.1] i (by omega) hi'
               refine this.trans ?_
               simp
              rw[hx]
              have aqc:i-az.length=0:=by omega
              rw[aqc]
              exact⟨ce,by rw[hin];exact Q4,aoJ⟩
            exact He)
          refine⟨undef,w',J',F',.inr ⟨?_,rfl⟩,?_⟩
          ·simp only[execOp,ho,eA,a8,dH,r1,eZ,eH]
          ·rw[hd]
           exact r2
      ·exact h9.elim
    ·exact h7.elim
   ·exact h5.elim
  |_=>exact h.elim
 |_=>exact h.elim
end
section
variable {P:Program}{T:bK}{cx:Cx}{Z:St}{J:aJ}{F:List Nat}{a:Act}{w:World}{o:Oper}{d:Nat}{ws:List Wr}{r:Nat}{R:Root}
theorem awZ{h h':Heap}:∀{p:List Stp} {k:K} {cs:List Value} {wh:Option (Nat×Nat)},p.all Stp.jw=true->aR h' p k cs wh=aR h p k cs wh:=by
 intro p
 induction p with
 |nil=>intro k cs wh _;rfl
 |cons s p ih=>
  intro k cs wh hp
  cases s with
  |idx i=>simp[Stp.jw]at hp
  |aU n=>
   have hp':p.all Stp.jw=true:=by simpa[Stp.jw]using hp
   cases k with
   |st c=>
    simp only[aR]
    cases bQ n c with
    |none=>rfl
    |some q=>exact ih hp'
   |_=>rfl
theorem alW{t u ty e:TypeId}{kk:K}(ht:dz P T t (.sl e kk)){b:Option Addr}{n c m:Nat}{x:Value}{news:List Value}(hnc:n<=c)
  (hrow:c=0\/∃bb q arr lo hi,b=some ⟨bb,q,none⟩/\hp w bb=some (.cells arr e (lo,hi))/\iU arr.size lo hi/\q+c*kk.size<=arr.size) (hS:Src P w kk.size u x m news) (hb:(n+m)*T.bytes e<=140737488355328) :
  ∃w' b1 c1,(Builtin.append_ #[t,u] ty #[.slice b n c,x]).run P w=.ok (.slice b1 (n+m) c1) w'/\(w'.os=w.os/\w'.tape=w.tape/\w'.output=w.output)/\w.heap.size<=w'.heap.size/\n+m<=c1/\
   (c1=0\/∃bb o1 arr lo hi,b1=some ⟨bb,o1,none⟩/\hp w' bb=some (.cells arr e (lo,hi))/\iU arr.size lo hi/\o1+c1*kk.size<=arr.size/\Cells (hp w') bb (o1+n*kk.size) news/\
    (∀i,i<n*kk.size->∃b0 o0,b=some ⟨b0,o0,none⟩/\cellAt (hp w') bb (o1+i)=cellAt (hp w) b0 (o0+i))/\((c≠0/\b=some ⟨bb,o1,none⟩)\/(bb=w.heap.size/\w.heap.size<w'.heap.size)))/\
   (∀b',b'<w.heap.size->(c=0\/∀o',b≠some ⟨b',o',none⟩)->hp w' b'=hp w b'):=by
 have hnl:=hS.nl
 by_cases hr:n+m<=c
 ·have hrun:=O_ (ty:=ty) ht hS (b:=b) (n:=n) hr
  rcases(show c=0\/(c≠0/\∃bb q arr lo hi,b=some ⟨bb,q,none⟩/\hp w bb=some (.cells arr e (lo,hi))/\iU arr.size lo hi/\q+c*kk.size<=arr.size)from by
   by_cases h:c=0
   ·exact .inl h
   ·exact .inr ⟨h,hrow.resolve_left h⟩)with hc0|⟨hc0,bb,q,arr,lo,hi,eb,hbk,hf,hs⟩
  ·have hm0:m=0:=by omega
   have hn0:n=0:=by omega
   subst hm0 hn0
   have hnn:news=[]:=rz (by rw[hnl];simp)
   subst hnn
   refine⟨w,b,c,?_,⟨rfl,rfl,rfl⟩,bZ _,hr,.inl hc0,λ_ _ _=>rfl⟩
   rw[hrun]
   cases b with
   |none=>rfl
   |some ad=>simp[storeCells,Result.andThen]
  ·subst eb
   have hle:(n+m)*kk.size<=c*kk.size:=jP _ hr
   rw[iB]at hle
   have hst:=J9 (P:=P) (o:=q+n*kk.size) news hbk hf (by rw[hnl];omega) hS.one
   simp only[Result.andThen,addr_add,hst]at hrun
   obtain⟨s1,s2,fK,s3,s4,s5,s6⟩:=Fv bb news w arr e (lo,hi) (q+n*kk.size) hbk (by rw[hnl];omega)
   refine⟨_,_,c,hrun,Fw bb news w _,by omega,hr,.inr ⟨bb,q,fK,lo,hi,rfl,s3,by rw[s4];exact hf,by rw[s4];exact hs,λi hi'=>?_,λi hi'=>⟨bb,q,rfl,?_⟩,.inl ⟨hc0,rfl⟩⟩,λb' _ h=>s1 b' (λe=>(h.resolve_left hc0) q (by rw[e]))⟩
   ·unfold cellAt
    rw[s3]
    exact s5 i hi'
   ·unfold cellAt
    rw[s3,hbk]
    exact s6 (q+i) (by omega)
 ·obtain⟨olds,ho1,ho2,ho3⟩:∃olds:List Value,olds.length=n*kk.size/\(Builtin.firstCells kk.size n (.slice b n c)).run P w.drew=.ok olds.toArray w.drew/\∀i,i<n*kk.size->∃b0 o0,b=some ⟨b0,o0,none⟩/\olds[i]?=cellAt (hp w) b0 (o0+i):=by
   rcases hrow with hc0|⟨bb,q,arr,lo,hi,ea,hbk,hf,hs⟩
   ·have hn0:n=0:=by omega
    subst hn0
    refine⟨[],by simp,?_,λi h=>by simp at h⟩
    cases b with
    |none=>exact WZ w.drew kk.size 0 0 c
    |some ad=>exact BU (P:=P) w.drew kk.size 0 ad 0 c [] (by simp) (λj v hj=>by simp at hj)
   ·subst ea
    have hle:n*kk.size<=c*kk.size:=jP _ hnc
    have hrow:=FN (n:=n*kk.size) hbk (by omega:q+n*kk.size<=arr.size)
    have hrl:(iE (hp w) bb q (n*kk.size)).length=n*kk.size:=by simp[iE]
    refine⟨iE (hp w) bb q (n*kk.size),hrl,?_,λi hi'=>⟨bb,q,rfl,(hrow i (by rw[hrl];exact hi')).symm⟩⟩
    refine BU (P:=P) w.drew kk.size n ⟨bb,q,none⟩ n c _ hrl (λj v hj=>?_)
    rw[addr_add,vN]
    have:=hrow j (by rw[hrl];have:=(oh.1 hj).1;rw[hrl]at this;exact this)
    rw[hj]at this
    exact this
  obtain⟨nc,hnc',hrun⟩:=WY (ty:=ty) ht hS ho2 hr hb
  have hnew:=DI w.drew (.cells (olds.toArray++news.toArray++Builtin.zeroCells (iY kk).cells (nc-(n+m))) e)
  have hold:∀b',b'<w.heap.size->hp (w.drew.alloc (.cells (olds.toArray++news.toArray++Builtin.zeroCells (iY kk).cells (nc-(n+m))) e)) b'=hp w b':=λb' h=>Bc w.drew _ h
  have hws:w.drew.heap.size=w.heap.size:=rfl
  rw[hws]at hnew
  have hsz2:(w.drew.alloc (.cells (olds.toArray++news.toArray++Builtin.zeroCells (iY kk).cells (nc-(n+m))) e)).heap.size=w.heap.size+1:=Array.size_push ..
  have hzl:(iY kk).cells.size=kk.size:=by
   rw[FM ht.sl.2.1.shape]
   simpa using eY (Ce (h:=hp w) (own:=[]) (ok:=λ_=>True) ht.sl.2.1.fD)
  have hcell:∀q,q<(olds++news).length->cellAt (hp (w.drew.alloc (.cells (olds.toArray++news.toArray++Builtin.zeroCells (iY kk).cells (nc-(n+m))) e))) w.heap.size (0+q)=(olds++news)[q]?:=by
   intro q hq
   unfold cellAt
   rw[hnew]
   simp only[jq]
   rw[PE (by simpa using hq)]
   simp
  refine⟨_,_,nc,hrun,⟨rfl,rfl,rfl⟩,by omega,hnc',.inr ⟨w.heap.size,0,_,0,0,rfl,hnew,iU.zero,?_,λi hi=>?_,λi hi=>?_,.inr ⟨rfl,by omega⟩⟩,λb' h1 _=>hold b' h1⟩
  ·simp only[Array.size_append,CO,size_zeroCells,hzl,ho1,hnl]
   have h9:n*kk.size+m*kk.size+(nc-(n+m))*kk.size=(n+m+(nc-(n+m)))*kk.size:=by rw[iB,iB]
   rw[h9]
   have:n+m+(nc-(n+m))=nc:=by omega
   rw[this]
   omega
  ·rw[ou,hcell _ (by rw[dI,ho1];omega),yc (by omega),ho1]
   congr 1
   omega
  ·obtain⟨b0,o0,z1,z3⟩:=ho3 i hi
   refine⟨b0,o0,z1,?_⟩
   rw[hcell _ (by rw[dI,ho1];omega),vE (by rw[ho1];exact hi)]
   exact z3
theorem ail(H:Rel cx Z J F a w)(hd:o.dst=some d)(hdn:d<cx.nt){c:Call}(ho:o.op=.call c)(hcb:c.callee=.builtin .append){x y:Operand}(hxy:c.args.toList=[x,y]){t t2 e:TypeId}(hat:c.argTypes[0]?=some t)(xe:c.argTypes[1]?=some t2)
  {kk:K} (ht:dz P T t (.sl e kk)) {p:List Stp} {xs:List (El kk)} {n q:Nat} {Q:Root} (hr:aY Z r R) (rP:R.dM=n) (hne:r≠q) (pF:aY Z q Q) (lZ:cZ Z Q) (A8:Q.kind=.anon) (hfl:p.all Stp.jw=true)
  (hg:aD p R.k R.x=some ⟨.sl e kk,xs⟩) (cK:bW p R.k R.x) (hown:∀t∈aC p R.k,ay t R.own=true) {b:Option Addr} {m cp:Nat} {wh:Option (Nat×Nat)} (hn:aR (hp w) p R.k (J.hdr r) (aL J R r)=some ([.slice b m cp],wh)) (hm:m=xs.length)
  {bx:Option Addr} {a0 uz:Nat} (hx:a.eval x=.slice bx a0 uz) (hxc:a0<=uz)
  (hrow:uz=0\/∃bb q' arr l u,bx=some ⟨bb,q',none⟩/\hp w bb=some (.cells arr e (l,u))/\iU arr.size l u/\q'+uz*kk.size<=arr.size/\bb∈J.fo q)
  (hold:0<a0->∃bb q' b0 o0,bx=some ⟨bb,q',none⟩/\b=some ⟨b0,o0,none⟩/\b0∈J.fo r/\∀j i,j<a0->i<kk.size->cellAt (hp w) bb (q'+(j*kk.size+i))=cellAt (hp w) b0 (o0+(j*kk.size+i)))
  {lo hi:Nat} {news:List Value} (hS:Src P w kk.size t2 (a.eval y) (hi-lo) news)
  (hsc:∀i,i<hi-lo->∃b0 o0,b=some ⟨b0,o0,none⟩/\b0∈J.fo r/\Cells (hp w) b0 (o0+(lo+i)*kk.size) (gP news kk.size i))
  (hbd:(a0+(hi-lo))*T.bytes e<=140737488355328) (hfr:Z.roots (aK d 0)=none) {A B:Nat} (Sl:A<=B/\B<=m/\a0+(hi-lo)=A+(m-B)) (hidx:∀j,j<a0+(hi-lo)->(if j<A then j else B+(j-A))=(if j<a0 then j else lo+(j-a0))) :
  dG P cx o a w (aF [.r q none,.r (aK d 0) (some (bU (.sl e (.gap kk.size)) (List.replicate (a0+(hi-lo)) ()) [e] [] .anon)),.s d (.one (.sel r p n (aK d 0) A B))] Z):=by
 obtain⟨H1,T1,hH,_⟩:=kill H pF A8 lZ
 have hSr:Same Z J (aO Z q g_) (iQ J q) r:=kR hne
 have hr1:=(hSr.live R).2 hr
 have ap7:∀b∈J.fo r,b<w.heap.size:=λb hb=>((H.roots r R hr).mine b (by rw[jd,lN];exact .inr hb)).1
 have hrF:∀b∈J.fo r,b∉J.fo q++F:=λb hb=>H1.dU r R hr1 b (by rw[jd,lN,hSr.fo];exact .inr hb)
 obtain⟨w',b1,c1,hrun,hos,hsz,hnc,hres,hoth⟩:=alW (P:=P) (u:=t2) (ty:=o.type) (x:=a.eval y) ht (b:=bx) (n:=a0) (c:=uz) hxc (by
  rcases hrow with h|⟨bb,q',arr,l,u,h1,h2,h3,h4,_⟩
  ·exact .inl h
  ·exact .inr ⟨bb,q',arr,l,u,h1,h2,h3,h4⟩) hS hbd
 have abv:∀b' o',bx=some ⟨b',o',none⟩->uz≠0->b'∈J.fo q:=λb' o' e' h0=>by
  rcases hrow with h|⟨bb,q',arr,l,u,h1,_,_,_,h5⟩
  ·exact absurd h h0
  ·rw[h1]at e'
   simp only[ak,pQ,eO]at e'
   rw[<-e'.1];exact h5
 have oG:∀b',b'<w.heap.size->hp w' b'≠hp w b'->b'∈J.fo q++F:=by
  intro b' hlt hne'
  by_cases h0:uz=0
  ·exact absurd (hoth b' hlt (.inl h0)) hne'
  ·by_cases he:∃o',bx=some ⟨b',o',none⟩
   ·obtain⟨o',he⟩:=he
    exact bV _ (abv b' o' he h0)
   ·exact absurd (hoth b' hlt (.inr λo' he'=>he ⟨o',he'⟩)) hne'
 obtain⟨F2,hF1,hF2,Ma,Sn⟩:∃F2:List Nat,(∀b∈F2,b∈J.fo q++F\/(w.heap.size<=b/\b<w'.heap.size))/\F2.Nodup/\(∀b∈J.fo q++F,b∈F2)/\(w.heap.size<w'.heap.size->w.heap.size∈F2):=by
  by_cases hs:w.heap.size<w'.heap.size
  ·refine⟨w.heap.size :: (J.fo q++F),λb hb=>?_,jO.2 ⟨λhm=>?_,H1.gL⟩,λb hb=>jD _ hb,λ_=>jE⟩
   ·rcases bM.1 hb with h|h
    ·exact .inr ⟨by omega,by omega⟩
    ·exact .inl h
   ·have:=(H1.fl _ hm).1;omega
  ·exact⟨J.fo q++F,λb hb=>.inl hb,H1.gL,λb hb=>hb,λh=>absurd h hs⟩
 have T2:=EX (w':=w') (F':=F2) H1 hos hsz oG hF1 hF2
 have H2:=H1.mem T2
 have oI:aK d 0≠r:=λe=>by have:=hr.1;rw[<-e,hfr]at this;simp at this
 have hqq:aK d 0≠q:=λe=>by have:=pF.1;rw[<-e,hfr]at this;simp at this
 have hq0:(aO Z q g_).roots (aK d 0)=none:=by rw[jA _ _ hqq];exact hfr
 have hsame:∀b∈J.fo r,hp w' b=hp w b:=λb hb=>j6 λh=>hrF b hb (oG b (ap7 b hb) h)
 obtain⟨ni,SL,SN,SQ,SS⟩:∃ni:List Nat,(∀b'∈ni,b'∈F2)/\ni.Nodup/\
   Ow (hp w') [e] (λ_=>False) (.sl e (.gap kk.size)) (show List (El (.gap kk.size))from List.replicate (a0+(hi-lo)) ()) [.slice b1 (a0+(hi-lo)) c1] ni/\
   (c1≠0->∀bb o1,b1=some ⟨bb,o1,none⟩->bb∈ni):=by
  rcases hres with h0|⟨bb,o1,arr,l,u,h1,h2,h3,h4,h5,h6,h7⟩
  ·refine⟨[],by simp,mq,?_,λh=>absurd h0 h⟩
   unfold Ow
   rw[aj (fF.2 (by simp))]
   exact⟨b1,_,c1,rfl,by show _=(List.replicate _ ()).length;simp,hnc,.inl ⟨h0,rfl⟩⟩
  ·by_cases hc1:c1=0
   ·refine⟨[],by simp,mq,?_,λh=>absurd hc1 h⟩
    unfold Ow
    rw[aj (fF.2 (by simp))]
    exact⟨b1,_,c1,rfl,by show _=(List.replicate _ ()).length;simp,hnc,.inl ⟨hc1,rfl⟩⟩
   ·have ao6:bb∈F2:=by
     rcases h7 with⟨h0,h7⟩|⟨h7,h8⟩
     ·exact Ma _ (bV _ (abv bb o1 h7 h0))
     ·rw[h7];exact Sn h8
    refine⟨[bb],by simpa using ao6,by simp,?_,λ_ bb' o' e'=>by rw[h1]at e';simp only[ak,pQ,eO]at e';simp[e'.1]⟩
    unfold Ow
    rw[aj (fF.2 (by simp))]
    refine⟨b1,_,c1,rfl,by show _=(List.replicate _ ()).length;simp,hnc,.inr ⟨bb,o1,arr,l,u,h1,h2,h3,h4,List.replicate (a0+(hi-lo)) [],by show(List.replicate _ _).length=(List.replicate _ ()).length;simp,by simp,λi hi'=>?_⟩⟩
    have hi2:i<a0+(hi-lo):=by
     have h9:i<(List.replicate (a0+(hi-lo)) ()).length:=hi'
     simpa using h9
    have hle:(i+1)*kk.size<=c1*kk.size:=jP _ (by omega)
    rw[iB,lT]at hle
    have hgs:(K.gap kk.size).size=kk.size:=rfl
    rw[hgs]
    refine⟨iE (hp w') bb (o1+i*kk.size) kk.size,FN h2 (by omega),?_⟩
    show Ow (hp w') [e] (λ_=>False) (.gap kk.size) () _ _
    exact⟨by rw[Sk],by simp[iE]⟩
 have hkq:(bU (.sl e (.gap kk.size)) (show List (El (.gap kk.size))from List.replicate (a0+(hi-lo)) ()) [e] [] .anon).kind=.anon:=rfl
 obtain⟨A1,A2⟩:=CU (R':=bU (.sl e (.gap kk.size)) (show List (El (.gap kk.size))from List.replicate (a0+(hi-lo)) ()) [e] [] .anon) H2 hq0 (oK d 0) rfl (by simp[bU]) (λt ht=>by simp[bU]at ht) (0,0) [.slice b1 (a0+(hi-lo)) c1] ni []
  (λb' hb'=>by rw[qb hkq]at hb';exact⟨SL b' hb',by simp⟩) (by rw[qb hkq];exact SN) (λb' hb'=>by simp at hb') mq
  (λ_=>dR (λ_ h=>h.elim) (λ_ h=>h.elim) (λ_ _=>rfl) SQ) rfl (λb' o' hb'=>by rw[FK hkq]at hb';simp at hb')
 have DR:(Builtin.append_ #[t,t2] o.type #[a.eval x,a.eval y]).run P w=.ok (.slice b1 (a0+(hi-lo)) c1) w':=by rw[hx];exact hrun
 refine nR (x:=.one (.sel r p n (aK d 0) A B)) A1 hd hdn (J8 ho hcb hxy hat xe DR) ?_ ?_
 ·intro R2 hR2 _ _ Q2 uC _
  rw[jA _ _ oI.symm,jA _ _ hne,hr.1]at hR2
  simp only[ak]at hR2
  subst hR2
  obtain⟨rfl,_⟩:=nY uC
  have e1:(bn (iQ J q) (aK d 0) (0,0) [.slice b1 (a0+(hi-lo)) c1] ni).hdr r=J.hdr r:=by simp[bn,iQ,upd_ne _ _ oI.symm,upd_ne _ _ hne]
  have e2:aL (bn (iQ J q) (aK d 0) (0,0) [.slice b1 (a0+(hi-lo)) c1] ni) R r=aL J R r:=by
   unfold aL
   simp[bn,iQ,upd_ne _ _ oI.symm,upd_ne _ _ hne]
  have e3:(bn (iQ J q) (aK d 0) (0,0) [.slice b1 (a0+(hi-lo)) c1] ni).fo r=J.fo r:=by simp[bn,iQ,upd_ne _ _ oI.symm,upd_ne _ _ hne]
  refine⟨e,kk,xs,wh,b,m,cp,b1,a0+(hi-lo),c1,hg,cK,hown,by rw[e1,e2,awZ (h:=hp w) hfl];exact hn,⟨rfl,rfl⟩,by simp[bn,upd_same],rfl,⟨Sl.1,Sl.2.1,hm,Sl.2.2⟩,λhm0=>?_⟩
  rcases hres with h0|⟨bb,o1,arr,l,u,h1,h2,h3,h4,h5,h6,h7⟩
  ·omega
  ·obtain⟨b0,o0,hb0,abq⟩:∃b0 o0,b=some ⟨b0,o0,none⟩/\b0∈J.fo r:=by
    by_cases ha:0<a0
    ·obtain⟨_,_,b0,o0,_,z2,z3,_⟩:=hold ha
     exact⟨b0,o0,z2,z3⟩
    ·obtain⟨b0,o0,z1,z2,_⟩:=hsc 0 (by omega)
     exact⟨b0,o0,z1,z2⟩
   refine⟨bb,o1,b0,o0,h1,hb0,by simp only[bn,upd_same];exact SS (by omega) bb o1 h1,by rw[e3];exact abq,λj i hj hi'=>?_⟩
   rw[hidx j hj,yG (hsame b0 abq)]
   by_cases hja:j<a0
   ·rw[aj hja]
    obtain⟨bb',q',b0',o0',z1,z2,_,z4⟩:=hold (by omega)
    rw[hb0]at z2
    simp only[ak,pQ,eO]at z2
    obtain⟨rfl,rfl⟩:=z2
    have hlt:(j+1)*kk.size<=a0*kk.size:=jP _ (by omega)
    rw[iB,lT]at hlt
    obtain⟨bx',ox',y1,y2⟩:=h6 (j*kk.size+i) (by omega)
    rw[z1]at y1
    simp only[ak,pQ,eO]at y1
    obtain⟨rfl,rfl⟩:=y1
    rw[y2]
    exact z4 j i hja hi'
   ·rw[ah hja]
    have hk:j-a0<hi-lo:=by omega
    obtain⟨b0',o0',z1,_,z3⟩:=hsc (j-a0) hk
    rw[hb0]at z1
    simp only[ak,pQ,eO]at z1
    obtain⟨rfl,rfl⟩:=z1
    have hsl:=wE hS.nl hk
    have y1:=z3 i (by rw[hsl];exact hi')
    rw[qW hi']at y1
    have hlt:(j-a0+1)*kk.size<=(hi-lo)*kk.size:=jP _ (by omega)
    rw[iB,lT]at hlt
    have y2:=h5 ((j-a0)*kk.size+i) (by rw[hS.nl];omega)
    have hj2:j*kk.size=a0*kk.size+(j-a0)*kk.size:=by rw[<-iB];congr 1;omega
    rw[show o1+(j*kk.size+i)=o1+a0*kk.size+((j-a0)*kk.size+i) by omega,y2,<-y1,ou]
 ·refine⟨⟨R,?_,.inr (by omega)⟩,_,fQ ..⟩
  rw[jA _ _ oI.symm,jA _ _ hne]
  exact hr.1
theorem anx(hT:eU P T)(H:Rel cx Z J F a w)(hd:o.dst=some d)(hdn:d<cx.nt){c:Call}(ho:o.op=.call c)(hcb:c.callee=.builtin .append){u:AV}{p:List Stp}{n lo hi sz:Nat}{t:TypeId}{e1:TypeId}{k1:K}(hl:h_ cx Z J F w [u,.sub r p n lo hi sz] (c.args.toList.map a.eval))
  (hat:c.argTypes[0]?=some t) (ht1:(c.argTypes[1]?).bind T.ty=some (.sl e1 k1)) (h:(Xa T d t u r p n lo hi sz λws=>(.ret ws:Prog (List Wr))).ends Z ws):dG P cx o a w (aF ws Z):=by
 obtain⟨x,y,hxy,hu,hv0⟩:=Pp hl
 obtain⟨t2,xe,ht2⟩:=rU hT ht1
 unfold Xa at h
 split at h
 case h_2=>exact h.elim
 case h_1 e kk hty=>
  have ht:=hT.ty t _ hty
  obtain⟨R,hr,hv,h⟩:=gH h
  rcases bB h with⟨hc,h5⟩|⟨_,h5⟩
  case inr=>exact h5.elim
  clear h
  simp only[bf]at hc
  obtain⟨⟨⟨c1,c2⟩,c3⟩,c4⟩:=hc
  have hsz:=bu c1
  subst hsz
  have rP:=bu c2
  have hall:=nA c4
  cases hg:aD p R.k R.x with
  |none=>rw[hg]at h5;exact h5.elim
  |some dd=>
   rw[hg]at h5
   simp only at h5
   cases hck:b_ dd.1 (.sl e kk) dd.2 with
   |none=>rw[hck]at h5;exact h5.elim
   |some xs=>
    rw[hck]at h5
    simp only at h5
    obtain⟨ek,ey⟩:=iJ hck
    obtain⟨dk,dx⟩:=dd
    simp only at ek ey
    subst ek
    simp only at ey
    subst ey
    obtain⟨b',b,m,cp,evy,eb,e2,e3,e4,hsub⟩:=hv0
    obtain⟨cK,hown,wh,hn⟩:=hsub R hr.1 hv rP _ hg
    obtain⟨aT,hO,abH⟩:=tL H hr hv hg cK hown hn
    obtain⟨_,_,_,q1,hm,hmc⟩:=ait hO
    simp only[gW,mX,eO]at q1
    obtain⟨rfl,rfl,rfl⟩:=q1
    have hm':m=@List.length (El kk) xs:=hm
    obtain⟨news,hS,hsc⟩:∃news,Src P w kk.size t2 (a.eval y) (hi-lo) news/\∀i,i<hi-lo->∃b0 o0,b=some ⟨b0,o0,none⟩/\b0∈J.fo r/\Cells (hp w) b0 (o0+(lo+i)*kk.size) (gP news kk.size i):=by
     by_cases h0:0<hi-lo
     ·have hO2:=hO
      unfold Ow at hO2
      rw[aj (hall e (by simp[K.tys]))]at hO2
      obtain⟨a1,n1,c1',q1,q2,q3,hO2⟩:=hO2
      simp only[gW,mX,eO]at q1
      obtain⟨rfl,rfl,rfl⟩:=q1
      rcases hO2 with⟨hc0,_⟩|⟨b0,o0,arr,l,u',ea,hbk,hf,hs,az,hl0,hp0,hE⟩
      ·omega
      ·subst ea
       have ey':b'=some ⟨b0,o0+lo*kk.size,none⟩:=by rw[eb (.inr (by omega))];simp[addr_add]
       rw[evy,ey']
       obtain⟨news,g1,g2⟩:=WX (P:=P) (w:=w) (u:=t2) (size:=kk.size) (n:=hi-lo) (c:=cp-lo) (bb:=b0) (q:=o0+lo*kk.size) (.inl ⟨_,ht2.sl.1⟩) (λi ds=>Cells (hp w) b0 (o0+(lo+i)*kk.size) ds) (λi hi'=>by
        obtain⟨ds,g1,g2⟩:=hE (lo+i) (by show lo+i < @List.length (El kk) xs;omega)
        refine⟨ds,eY g2,?_,Le ht.sl.2.1.fD g2,g1⟩
        rw[ou,<-iB]
        exact g1)
       exact⟨news,g1,λi hi'=>⟨b0,o0,rfl,abH b0 (hp0.mem_iff.2 jE),g2 i hi'⟩⟩
     ·refine⟨[],?_,λi hi'=>by omega⟩
      rw[evy]
      have h1:hi-lo=0:=by omega
      rw[h1]
      exact Kh (.inl ⟨_,ht2.sl.1⟩) (by simp) (λv hv=>by simp at hv) (λh=>by omega)
    split at h5
    ·rename_i q g
     obtain⟨Q,pF,lZ,h6⟩:=gH h5
     rcases bB h6 with⟨rJ,h7⟩|⟨_,h7⟩
     ·clear h5 h6
      simp only[bf,jN]at rJ
      obtain⟨⟨⟨d1,d2⟩,d3⟩,d4⟩:=rJ
      have hne:r≠q:=λe=>by rw[e]at d3;simp at d3
      cases qg:b_ Q.k (.sl e kk) Q.x with
      |none=>rw[qg]at h7;exact h7.elim
      |some ys=>
       rw[qg]at h7
       simp only at h7
       obtain⟨⟨g1,g2,g3⟩,h8⟩:=h7
       obtain⟨hfr,h9⟩:=oF h8
       rw[bC h9]
       obtain⟨A8,hVQ⟩:=hu Q pF (bu d1)
       obtain⟨yJ,AB⟩:=iJ qg
       have lY:=vI yJ AB ((H.roots q Q pF).ow lZ)
       have aoY:VC (.sl e kk) (a.eval x) (J.hdr q):=yJ▸hVQ
       unfold Ow at lY
       rw[aj d4]at lY
       obtain⟨bx,a0,uz,q1,q2,q3,lY⟩:=lY
       have hx:a.eval x=.slice bx a0 uz:=by
        have:=aoY.1
        rw[q1]at this
        simpa using this.symm
       have g1' : @List.length (El kk) ys=0:=g1
       have ha0:a0=0:=by have:a0=@List.length (El kk) ys:=q2;omega
       subst ha0
       subst g2
       have hfin:=ail (P:=P) H hd hdn ho hcb hxy hat xe ht hr rP hne pF lZ A8 c3 hg cK hown hn hm hx (dW _) (by
        rcases lY with⟨h0,_⟩|⟨bb,q',arr,l,u',z1,z2,z3,z4,az,_,z5,_⟩
        ·exact .inl h0
        ·exact .inr ⟨bb,q',arr,l,u',z1,z2,z3,z4,z5.mem_iff.2 jE⟩) (λh=>by omega) hS hsc (by simpa using g3) hfr (A:=hi) (B:=m) ⟨by omega,bZ _,by omega⟩ (λj hj=>by
         have:j<hi:=by omega
         simp[this])
       simp only[jq,Nat.sub_zero]at hfin
       rw[<-hm']
       exact hfin
     ·exact h7.elim
    ·rename_i r' p' n' q a' b''
     obtain⟨Q,pF,lZ,h6⟩:=gH h5
     rcases bB h6 with⟨rJ,h7⟩|⟨_,h7⟩
     ·clear h5 h6
      simp only[bf,jN]at rJ
      obtain⟨⟨⟨⟨⟨⟨d1,d2⟩,d3⟩,d4⟩,d5⟩,d6⟩,d7⟩:=rJ
      have hne:r≠q:=λe=>by rw[e]at d6;simp at d6
      have er:=bu d1
      have en:=bu d2
      have ep:=JJ d3 (by rw[yX c3,yX (OI d3 c3)])
      subst er en ep
      cases qg:b_ Q.k (.sl e (.gap kk.size)) Q.x with
      |none=>rw[qg]at h7;exact h7.elim
      |some ys=>
       rw[qg]at h7
       simp only at h7
       obtain⟨⟨g1,g2,g3,g4,g5⟩,h8⟩:=h7
       obtain⟨hfr,h9⟩:=oF h8
       rw[bC h9]
       obtain⟨e',ES,xs',cB,bb,m',c',bq,m1,c1',s1,s2,s3,s4,⟨s5,skd⟩,s6,s7,⟨s8,s9,s10,s11⟩,s12⟩:=hu R hr.1 hv rP Q pF (bu d4)
       rw[hg]at s1
       simp only[ak,Sigma.mk.injEq,K.sl.injEq]at s1
       obtain⟨⟨rfl,rfl⟩,s1⟩:=s1
       have s1:=eq_of_heq s1
       subst s1
       rw[hn]at s4
       simp only[ak,bS,gW,mX,eO]at s4
       obtain⟨⟨rfl,rfl,rfl⟩,rfl⟩:=s4
       obtain⟨yJ,AB⟩:=iJ qg
       have lY:=vI yJ AB ((H.roots q Q pF).ow lZ)
       rw[s6,s7]at lY
       unfold Ow at lY
       rw[aj d7]at lY
       obtain⟨bx,a0,uz,q1,q2,q3,lY⟩:=lY
       simp only[gW,mX,eO]at q1
       obtain⟨rfl,rfl,rfl⟩:=q1
       have g3':hi=@List.length (El kk) xs:=g3
       have g4':b''=@List.length (El kk) xs:=g4
       have ha0:m1=a':=by omega
       subst ha0
       exact ail (P:=P) H hd hdn ho hcb hxy hat xe ht hr rP hne pF lZ skd c3 hg cK hown hn hm s7 q3 (by
        rcases lY with⟨h0,_⟩|⟨bb,q',arr,l,u',z1,z2,z3,z4,az,_,z5,_⟩
        ·exact .inl h0
        ·exact .inr ⟨bb,q',arr,l,u',z1,z2,z3,z4,z5.mem_iff.2 jE⟩) (λh=>by
         obtain⟨b1,o1,b0,o0,y1,y2,_,y4,y5⟩:=s12 h
         exact⟨b1,o1,b0,o0,y1,y2,y4,λj i hj hi'=>by have:=y5 j i hj hi';rw[aj hj]at this;exact this⟩) hS hsc g5 hfr (A:=m1) (B:=lo) ⟨g1,by omega,by omega⟩ (λj hj=>rfl)
     ·exact h7.elim
    ·exact h5.elim
end
section
variable {P:Program}{T:bK}{cx:Cx}{Z:St}{J:aJ}{F:List Nat}{a:Act}{w:World}{o:Oper}{d:Nat}{ws:List Wr}{r:Nat}{R:Root}
theorem anB(hT:eU P T)(H:Rel cx Z J F a w)(hd:o.dst=some d)(hdn:d<cx.nt)(h:(Xl T o d λws=>(.ret ws:Prog (List Wr))).ends Z ws):dG P cx o a w (aF ws Z):=by
 unfold Xl at h
 split at h
 ·rename_i t ps ho
  obtain⟨us,h1,h2⟩:=Rn h
  rw[bC h2]
  exact anC hT H hd hdn h1 ho
 ·rename_i c ho
  split at h
  ·rename_i hcb
   obtain⟨vs,h1,h2,h⟩:=vR H h
   split at h
   ·split at h
    ·rename_i hat ht1
     split at h
     ·exact anx hT H hd hdn ho hcb h1 hat ht1 h
     ·exact am2 hT H hd hdn ho hcb h1 hat ht1 h
    ·exact h.elim
   ·exact h.elim
  ·exact h.elim
 ·rename_i t x ho
  exact ano hT H hd hdn ho h
 ·exact h.elim
theorem ays{β:Type}{l:List (List β)}{a b:Nat}(h:a<=b):(l.take a++l.drop b).flatten.Sublist l.flatten:=by
 have h1:(l.take a++l.drop b).Sublist l:=by
  have h2:(l.drop b).Sublist (l.drop a):=by
   rw[show b=a+(b-a) by omega,<-wO]
   exact List.drop_sublist _ _
  have h3:=Zj h2 (l.take a)
  rwa[Ab]at h3
 clear h
 generalize l.take a++l.drop b=l' at h1
 induction h1 with
 |slnil=>exact List.Sublist.refl _
 |cons x h ih=>
  rw[pX]
  exact ih.trans (List.sublist_append_right _ _)
 |cons_cons x h ih=>
  rw[pX,pX]
  exact Zj ih _
theorem aaq{β:Type}{l:List β}{a b j:Nat}(h1:a<=b)(h2:b<=l.length)(hj:j<a+(l.length-b)):(l.take a++l.drop b)[j]?=l[if j<a then j else b+(j-a)]?:=by
 by_cases hja:j<a
 ·rw[aj hja,vE (by rw[wP];omega),QE,aj hja]
 ·rw[ah hja,yc (by rw[wP];omega),wP,CG]
  congr 1
  omega
theorem aar{β:Type}{l:List β}{a b:Nat}(h1:a<=b)(h2:b<=l.length):(l.take a++l.drop b).length=a+(l.length-b):=by
 rw[dI,wP,K9]
 omega
theorem anz(hT:eU P T)(H:Rel cx Z J F a w)(hd:o.dst=none){t:TypeId}{x y:Operand}(ho:o.op=.store t x y){u:AV}{r n q a' b':Nat}{p:List Stp}{k0:K}(hk0:T.ty t=some k0)(h1:aW cx Z J F w u (a.eval x))(h2:dK Z u)(h3:aW cx Z J F w (.sel r p n q a' b') (a.eval y))
  (h:(Xb k0 u r p n q a' b' λws=>(.ret ws:Prog (List Wr))).ends Z ws):dG P cx o a w (aF ws Z):=by
 have ht:=hT.ty t k0 hk0
 cases k0 with
 |sl e kk=>
  cases u with
  |ptr r' p' h0=>
   simp only[Xb]at h
   rcases bB h with⟨hc,h5⟩|⟨_,h5⟩
   ·clear h
    simp only[bf,jN]at hc
    obtain⟨⟨⟨c1,c2⟩,c3⟩,c4⟩:=hc
    have hne:r≠q:=λe=>by rw[e]at c4;simp at c4
    have er:=bu c1
    have Mq:p'.all Stp.jw=true:=OI c2 c3
    have ep:=JJ c2 (by rw[yX c3,yX Mq])
    subst er ep
    obtain⟨Q,pF,lZ,h6⟩:=gH h5
    rcases bB h6 with⟨rJ,h7⟩|⟨_,h7⟩
    ·clear h5 h6
     simp only[bf]at rJ
     cases qg:b_ Q.k (.sl e (.gap kk.size)) Q.x with
     |none=>rw[qg]at h7;exact h7.elim
     |some yq=>
      rw[qg]at h7
      simp only at h7
      obtain⟨R,hr,hv,h8⟩:=gH h7
      rcases bB h8 with⟨hcR,h9⟩|⟨_,h9⟩
      ·clear h7 h8
       simp only[bf]at hcR
       obtain⟨⟨⟨⟨d1,d2⟩,d3⟩,d4⟩,d5⟩:=hcR
       have hall:=nA d4
       cases hg:aD p R.k R.x with
       |none=>rw[hg]at h9;exact h9.elim
       |some dd=>
        rw[hg]at h9
        simp only at h9
        cases hck:b_ dd.1 (.sl e kk) dd.2 with
        |none=>rw[hck]at h9;exact h9.elim
        |some xs=>
         rw[hck]at h9
         simp only at h9
         obtain⟨ek,ey⟩:=iJ hck
         obtain⟨dk,dx⟩:=dd
         simp only at ek ey
         subst ek
         simp only at ey
         subst ey
         cases hz:bO p R.k R.x ⟨.sl e kk,(show List (El kk)from xs).take a'++(show List (El kk)from xs).drop b'⟩with
         |none=>rw[hz]at h9;exact h9.elim
         |some z=>
          rw[hz]at h9
          rw[bC h9]
          obtain⟨e',ES,xs',wh,b,m,c,bq,m1,cq,s1,s2,s3,s4,⟨s5,skd⟩,s6,s7,⟨s8,s9,s10,s11⟩,s12⟩:=h3 R hr.1 hv (bu d1) Q pF (bu rJ.1)
          rw[hg]at s1
          simp only[ak,Sigma.mk.injEq,K.sl.injEq]at s1
          obtain⟨⟨rfl,rfl⟩,s1⟩:=s1
          have s1:=eq_of_heq s1
          subst s1
          obtain⟨H1,T1,hH,hcl⟩:=kill H pF skd lZ
          have hSr:Same Z J (aO Z q g_) (iQ J q) r:=kR hne
          have hr1:=(hSr.live R).2 hr
          have rO:∀m,(q,m)∉R.tags:=λm hm=>by
           have:=dV.1 d5 _ hm
           simp at this
          have hv1:cZ (aO Z q g_) R:=⟨hv.1,by rw[vO rO];exact hv.2⟩
          obtain⟨_,cs,bA,oA,hn2,eA⟩:=h1.2 R hr.1 hv d3 s3 (by rw[hg];rfl)
          rw[s4]at hn2
          simp only[ak,bS]at hn2
          obtain⟨rfl,rfl⟩:=hn2
          have hn1:aR (hp w) p R.k ((iQ J q).hdr r) (aL (iQ J q) R r)=some ([.slice b m c],some (bA,oA)):=by rw[hSr.hdr,hSr.wh];exact s4
          obtain⟨yJ,AB⟩:=iJ qg
          have lY:=vI yJ AB (hH.ow hcl)
          rw[s6,s7]at lY
          unfold Ow at lY
          rw[aj rJ.2]at lY
          obtain⟨bx,a0,uz,q1,q2,q3,lY⟩:=lY
          simp only[gW,mX,eO]at q1
          obtain⟨rfl,rfl,rfl⟩:=q1
          have Ht:∀b'∈(iQ J q).fo r,b'∉J.fo q++F:=λb' hb'=>H1.dU r R hr1 b' (by rw[jd,lN];exact .inr hb')
          have hxl:m=@List.length (El kk) xs:=s10
          have Mx:(@HAppend.hAppend (List (El kk)) (List (El kk)) (List (El kk)) _ (@List.take (El kk) a' xs) (@List.drop (El kk) b' xs)).length=m1:=by
           rw[aar s8 (by omega),s11,hxl]
          obtain⟨w',r1,J',F',r2⟩:=WV (P:=P) ht H1 hr1 hv1 hg hz s2 s3 hall hn1 (v:=.slice bq m1 cq) ⟨_,_,_,rfl⟩ (lw:=gy R p :: (K.sl e kk).tys) (by simp) (λaT ok hO hnd hsub=>by
           have he:ay e R.own=true:=hall e (by simp[K.tys])
           rcases lY with⟨h0,_⟩|⟨bb,o1,arr,l,u',z1,z2,z3,z4,_,_,z5,_⟩
           ·refine⟨[],mq,by simp,?_⟩
            unfold Ow
            rw[aj he]
            exact⟨bq,m1,cq,rfl,Mx.symm,q3,.inl ⟨h0,rfl⟩⟩
           ·have abt:bb∈J.fo q:=z5.mem_iff.2 jE
            unfold Ow at hO
            rw[aj he]at hO
            obtain⟨b2,m2,c2,e1,e2,e3,hO⟩:=hO
            simp only[gW,mX,eO]at e1
            obtain⟨rfl,rfl,rfl⟩:=e1
            obtain⟨az,hfl,hfs,hfn,hfe⟩:∃az:List (List Nat),az.length=@List.length (El kk) xs/\(∀b'∈az.flatten,b'∈aT)/\az.flatten.Nodup/\∀(i:Nat) (hi:i < @List.length (El kk) xs),∃b0 o0 ds,b=some ⟨b0,o0,none⟩/\Cells (hp w) b0 (o0+i*kk.size) ds/\Ow (hp w) R.own ok kk (@getElem (List (El kk)) Nat (El kk) _ _ xs i hi) ds (az.getD i []):=by
             rcases hO with⟨hc0,hf0⟩|⟨b0,o0,fK,lo',hi',ea,hbk,hfz,hs,az,hl,hp0,hO⟩
             ·have hx0 : @List.length (El kk) xs=0:=by omega
              exact⟨[],by simp[hx0],by simp,by simp,λi hi=>by omega⟩
             ·have lK:=hp0.nodup hnd
              refine⟨az,hl,λb' hb'=>hp0.mem_iff.2 (jD _ hb'),(jO.1 lK).2,λi hi=>?_⟩
              obtain⟨ds,g1,g2⟩:=hO i hi
              exact⟨b0,o0,ds,ea,g1,g2⟩
            have hsl:=ays (l:=az) (a:=a') (b:=b') s8
            refine⟨bb :: (az.take a'++az.drop b').flatten,jO.2 ⟨λhm=>?_,hsl.nodup hfn⟩,λb'' hb'=>?_,?_⟩
            ·exact Ht bb (hsub bb (hfs bb (hsl.subset hm))) (bV _ abt)
            ·rcases bM.1 hb' with h|h
             ·rw[h];exact .inr (bV _ abt)
             ·exact .inl (hfs b'' (hsl.subset h))
            ·have He:Ow (hp w) R.own (λ_=>False) (.sl e kk) (show List (El kk)from(show List (El kk)from xs).take a'++(show List (El kk)from xs).drop b') [.slice bq m1 cq] (bb :: (az.take a'++az.drop b').flatten):=by
              unfold Ow
              rw[aj he]
              refine⟨_,m1,cq,rfl,Mx.symm,q3,.inr ⟨bb,o1,arr,l,u',z1,z2,z3,z4,az.take a'++az.drop b',by show(az.take a'++az.drop b').length=_;rw[Mx,aar s8 (by rw[hfl];omega),hfl,s11,hxl],by simp,λi hi'=>?_⟩⟩
              have hi2:i<(@HAppend.hAppend (List (El kk)) (List (El kk)) (List (El kk)) _ (@List.take (El kk) a' xs) (@List.drop (El kk) b' xs)).length:=hi'
              have hi3:=hi2
              rw[Mx]at hi3
              obtain⟨b1,o1',b0,o0,y1,y2,y3,y4,y5⟩:=s12 (by omega)
              rw[z1]at y1
              simp only[ak,pQ,eO]at y1
              obtain⟨rfl,rfl⟩:=y1
              have hsi:(if i<a' then i else b'+(i-a')) < @List.length (El kk) xs:=by split<;>omega
              obtain⟨b0',o0',ds,x1,x2,x3⟩:=hfe _ hsi
              rw[y2]at x1
              simp only[ak,pQ,eO]at x1
              obtain⟨rfl,rfl⟩:=x1
              have hx:(show List (El kk)from(show List (El kk)from xs).take a'++(show List (El kk)from xs).drop b')[i]'hi'=@getElem (List (El kk)) Nat (El kk) _ _ xs _ hsi:=by
               have h8:=aaq (l:=(show List (El kk)from xs)) (a:=a') (b:=b') (j:=i) s8 (by show b'<=@List.length (El kk) xs;omega) (by show i<a'+(@List.length (El kk) xs-b');omega)
               have h9:=fG (l:=(show List (El kk)from xs)) hsi
               rw[h9]at h8
               obtain⟨_,h8⟩:=oh.1 h8
               exact h8
              rw[hx]
              have hfo:(az.take a'++az.drop b').getD i []=az.getD (if i<a' then i else b'+(i-a')) []:=by
               rw[eP,eP,aaq s8 (by omega) (by omega)]
              rw[hfo]
              have hdl:=eY x3
              refine⟨ds,λj hj=>?_,lU (oQ (λt ht=>hall t (by simp[K.tys,ht]))) x3⟩
              rw[ou,y5 i j hi3 (by omega),<-ou]
              exact x2 j hj
             exact He)
          refine⟨undef,w',J',F',.inr ⟨?_,rfl⟩,?_⟩
          ·simp only[execOp,ho,eA,s7,dH,r1,eZ,eH]
          ·rw[hd]
           exact r2
      ·exact h9.elim
    ·exact h7.elim
   ·exact h5.elim
  |_=>exact h.elim
 |_=>cases u<;>exact h.elim
theorem anE(hT:eU P T)(H:Rel cx Z J F a w)(hd:o.dst=none){t:TypeId}{x y:Operand}(ho:o.op=.store t x y)
  (h:(dY x λu=>dY y λv=>Xo T t u v λws=>(.ret ws:Prog (List Wr))).ends Z ws):dG P cx o a w (aF ws Z):=by
 obtain⟨u,h1,h2,h⟩:=jh H h
 obtain⟨v,h3,h4,h⟩:=jh H h
 unfold Xo at h
 split at h
 ·split at h
  ·rename_i hk0
   exact anf hT H hd ho hk0 h1 h2 h3 h
  ·exact h.elim
 ·split at h
  ·rename_i hk0
   exact am3 hT H hd ho hk0 h1 h2 h3 h
  ·exact h.elim
 ·split at h
  ·rename_i hk0
   exact anz hT H hd ho hk0 h1 h2 h3 h
  ·exact h.elim
 ·exact anF hT H hd ho h1 h2 h3 h4 h
end
end
section
open Go
variable [Fr]
section
variable {P:Program}{T:bK}{cx:Cx}{Z:St}{J:aJ}{F:List Nat}{a:Act}{w:World}
structure Tk(cx:Cx)(Z:St)(J:aJ)(F:List Nat)(a:Act)(w:World)(Z1:St)(a_:aJ)(F1:List Nat)(ids:List Tag):Prop where
 rel:Rel cx Z1 a_ F1 a w
 Px:Views cx Z J F w Z1 a_ F1 w
 same:∀t∈ids,Same Z J Z1 a_ t.1
theorem Tk.sub{Z1:St}{a_:aJ}{F1:List Nat}{ids ids':List Tag}(h:Tk cx Z J F a w Z1 a_ F1 ids')(hs:∀t∈ids,t∈ids'):Tk cx Z J F a w Z1 a_ F1 ids:=⟨h.rel,h.Px,λt ht=>h.same t (hs t ht)⟩
def wT(cx:Cx)(Z:St)(J:aJ)(F:List Nat)(a:Act)(w:World)(k:K)(x:El k)(ids:List Tag)(v:Value):Prop:=
 ∃cs,VC k v cs/\∀Z1 a_ F1,Tk cx Z J F a w Z1 a_ F1 ids->Vw (hp w) (aN cx Z1 a_ F1 w ids) k x cs
def qI(cx:Cx)(Z:St)(J:aJ)(F:List Nat)(a:Act)(w:World)(k:K)(x:El k)(ids:List Tag)(v:Value):Prop:=
 ∃b o cs,v=.pointer (some ⟨b,o,none⟩)/\Cells (hp w) b o cs/\∀Z1 a_ F1,Tk cx Z J F a w Z1 a_ F1 ids->Vw (hp w) (aN cx Z1 a_ F1 w ids) k x cs/\kZ Z1 a_ F1 w ids b
def vg(cx:Cx)(Z:St)(J:aJ)(F:List Nat)(a:Act)(w:World)(ids:List Tag):(ks:List K)->Cont ks->List Value->Prop
 | [],_,[]=>True
 |k :: ks,c,v :: vs=>qI cx Z J F a w k c.1 ids v/\vg cx Z J F a w ids ks c.2 vs
 |_,_,_=>False
structure yj(cx:Cx)(Z:St)(J:aJ)(w:World)(k:K)(x:El k)(ow:List TypeId)(i:aV)(wt ht:List TypeId)(r:Nat)(R:Root)(p:List Stp):Prop where
 wb:i.wb=some (r,p,wt,ht)
 ws:i.ws=[]
 ids:i.ids=R.tags
 lv:aY Z r R
 vl:cZ Z R
 get:aD p R.k R.x=some ⟨k,x⟩
 pin:bW p R.k R.x
 own:∀t∈aC p R.k,ay t R.own=true
 just:uS k R.own ow=true
theorem MB:∀{p:List (Option Nat)} {q:List Stp} {c:Cont (aM.into 0 p).kin},idxOf p q=some c->pathOf p c=q
 | [],[],_,_=>rfl
 | [],_ :: _,_,h=>by simp[idxOf]at h
 |some n :: p,[],_,h=>by simp[idxOf]at h
 |some n :: p,.idx i :: q,_,h=>by simp[idxOf]at h
 |some n :: p,.aU m :: q,c,h=>by
  have h':(bif Nat.beq n m then idxOf p q else none)=some c:=h
  cases hb:Nat.beq n m with
  |false=>rw[hb]at h';simp at h'
  |true=>
   rw[hb]at h'
   have:=bu hb
   subst this
   show Stp.aU n :: pathOf p c=_
   rw[MB (p:=p) (q:=q) (c:=c) h']
 |none :: p,[],_,h=>by simp[idxOf]at h
 |none :: p,.aU i :: q,_,h=>by simp[idxOf]at h
 |none :: p,.idx i :: q,c,h=>by
  have h':(match idxOf p q with
   |some d=>some ((i,d):Cont (aM.into 0 (none :: p)).kin)
   |none=>none)=some c:=h
  cases hq:idxOf p q with
  |none=>rw[hq]at h';simp at h'
  |some d=>
   rw[hq]at h'
   have h2:((i,d):Cont (aM.into 0 (none :: p)).kin)=c:=kJ h'
   rw[<-h2]
   show Stp.idx i :: pathOf p d=_
   rw[MB hq]
def Zi(Z:St)(J:aJ)(w:World)(p:List (Option Nat))(c:Cont (aM.into 0 p).kin)(v:Value)(i:aV):Prop:=
 (p=[]/\i.lie=none/\∃b,v=.slice b 0 0)\/(p≠[]/\∃r q R cs b o,i.lie=some (r,q)/\aY Z r R/\bW q R.k R.x/\(aD q R.k R.x).isSome=true/\aR (hp w) q R.k (J.hdr r) (aL J R r)=some (cs,some (b,o))/\v=.pointer (some ⟨b,o,none⟩)/\q.drop (q.length-p.length)=pathOf p c)
def qB(cx:Cx)(Z:St)(J:aJ)(F:List Nat)(a:Act)(w:World):(ps:List aM)->Cont (kin ps)->List Value->List aV->List (Value×dS)->Prop
 | [],_,[],[],[]=>True
 |.val k _ :: ps,c,v :: vs,i :: is,ts=>(i.wb=none/\i.ws=[]/\i.bt=[]/\wT cx Z J F a w k c.1 i.ids v)/\qB cx Z J F a w ps c.2 vs is ts
 |.ro k :: ps,c,v :: vs,i :: is,ts=>(i.wb=none/\i.ws=[]/\i.bt=[]/\qI cx Z J F a w k c.1 i.ids v)/\qB cx Z J F a w ps c.2 vs is ts
 |.rw k ow wt ht :: ps,c,v :: vs,i :: is,ts=>(∃r R p,yj cx Z J w k c.1 ow i wt ht r R p/\i.bt=[gy R p]/\∃cs b o,aR (hp w) p R.k (J.hdr r) (aL J R r)=some (cs,some (b,o))/\v=.pointer (some ⟨b,o,none⟩))/\qB cx Z J F a w ps c.2 vs is ts
 |.dQ k ow wt :: ps,c,v :: vs,i :: is,ts=>(∃r R p,yj cx Z J w k c.1 ow i wt k.tys r R p/\i.bt=[]/\∃cs wh,aR (hp w) p R.k (J.hdr r) (aL J R r)=some (cs,wh)/\VC k v cs)/\qB cx Z J F a w ps c.2 vs is ts
 |.own k ow :: ps,c,v :: vs,i :: is,q :: ts=>(q.1=v/\qa cx Z J F w v q.2/\i=⟨q.2.tags,none,q.2.ws,[],none⟩/\(∃e:q.2.k=k,c.1=e▸q.2.x)/\uS k q.2.own ow=true)/\qB cx Z J F a w ps c.2 vs is ts
 |.fn f ks :: ps,c,v :: vs,i :: is,ts=>(i.wb=none/\i.ws=[]/\i.bt=[]/\∃us:List Value,v=.func (.func f) #[] us.toArray/\vg cx Z J F a w i.ids ks (Cont.fst ks (kin ps) c) us)/\qB cx Z J F a w ps (Cont.snd ks (kin ps) c) vs is ts
 |.into _ p :: ps,c,v :: vs,i :: is,ts=>(i.wb=none/\i.ws=[]/\i.bt=[]/\Zi Z J w p (Cont.fst (aM.into 0 p).kin (kin ps) c) v i)/\qB cx Z J F a w ps (Cont.snd (aM.into 0 p).kin (kin ps) c) vs is ts
 |_,_,_,_,_=>False
theorem Dp:∀(ks ls:List K) (c:Cont ks) (d:Cont ls),Cont.fst ks ls (Cont.app ks ls c d)=c
 | [],_,_,_=>rfl
 |_ :: ks,ls,c,d=>by show(c.1,Cont.fst ks ls (Cont.app ks ls c.2 d))=c;rw[Dp ks ls c.2 d];rfl
theorem Fx:∀(ks ls:List K) (c:Cont ks) (d:Cont ls),Cont.snd ks ls (Cont.app ks ls c d)=d
 | [],_,_,_=>rfl
 |_ :: ks,ls,c,d=>Fx ks ls c.2 d
theorem qI.mono{ids ids':List Tag}(h:∀t∈ids,t∈ids'){k:K}{x:El k}{v:Value}(H:qI cx Z J F a w k x ids v):qI cx Z J F a w k x ids' v:=by
 obtain⟨b,o,cs,h1,h2,h3⟩:=H
 refine⟨b,o,cs,h1,h2,λZ1 a_ F1 hT=>?_⟩
 obtain⟨g1,g2⟩:=h3 Z1 a_ F1 (hT.sub h)
 exact⟨ku (λ_ _=>rfl) (λb hb=>BN hb h) g1,aw_ g2 h⟩
theorem vg.mono{ids ids':List Tag}(h:∀t∈ids,t∈ids'):∀{ks:List K} {c:Cont ks} {vs:List Value},vg cx Z J F a w ids ks c vs->vg cx Z J F a w ids' ks c vs
 | [],_,[],_=>trivial
 |_ :: _,_,_ :: _,⟨h1,hh⟩=>⟨h1.mono h,vg.mono h hh⟩
 | [],_,_ :: _,hh=>hh.elim
 |_ :: _,_,[],hh=>hh.elim
theorem Tk.clean{Z1:St}{a_:aJ}{F1:List Nat}{ids:List Tag}(h:Tk cx Z J F a w Z1 a_ F1 ids)(tys:List TypeId):cO Z1 tys ids=cO Z tys ids:=qL (λt ht=>(h.same t ht).root)
theorem qI.ahb{bt:TypeId}{k:K}{x:El k}{T:List Tag}{v:Value}(h:uX cx Z J F w bt k x T v)(hw:fI Z T)(hc:cO Z (bt :: k.tys) T=true):qI cx Z J F a w k x T v:=by
 obtain⟨b,o,cs,e,h1,h2,h3,h4⟩:=h.2 hc
 refine⟨b,o,cs,e,h1,λZ1 a_ F1 hT=>?_⟩
 obtain⟨b',o',cs',e',h1',h2',h3',_⟩:=(hT.Px.ro hw h).2 (by rw[hT.clean];exact hc)
 have:b'=b/\o'=o:=by rw[e]at e';simpa using e'.symm
 obtain⟨rfl,rfl⟩:=this
 have hcs:cs'=cs:=cells_eq h1 h1' ((lD h2').trans (lD h2).symm)
 subst hcs
 exact⟨h2',h3'⟩
theorem qI.aha(H:Rel cx Z J F a w){r:Nat}{R:Root}{p:List Stp}{d:Dat}{cs:List Value}{b o:Nat}(hr:aY Z r R)(hv:cZ Z R)(hg:aD p R.k R.x=some d)(cK:bW p R.k R.x)(hown:∀t∈aC p R.k,ay t R.own=true)
  (hn:aR (hp w) p R.k (J.hdr r) (aL J R r)=some (cs,some (b,o))) (n:Nat):qI cx Z J F a w d.1 d.2 ((r,n) :: R.tags) (.pointer (some ⟨b,o,none⟩)):=by
 obtain⟨hC,_⟩:=uU H hr hv hg cK hown hn
 refine⟨b,o,cs,rfl,hC,λZ1 a_ F1 hT=>?_⟩
 have hS:=hT.same (r,n) (by simp)
 have hr1:=(hS.live R).2 hr
 have hv1:cZ Z1 R:=⟨hv.1,by rw[qL (λt ht=>(hT.same t (by simp[ht])).root)];exact hv.2⟩
 obtain⟨_,⟨aT,hO,hf⟩,hbb,_,_⟩:=uU hT.rel hr1 hv1 hg cK hown (by rw[hS.hdr,hS.wh];exact hn)
 have hq:∀b∈blk a_ R r,kZ Z1 a_ F1 w ((r,n) :: R.tags) b:=λb hb=>by
  refine⟨((hT.rel.roots r R hr1).mine b hb).1,hT.rel.dU r R hr1 b hb,λq Q hq hbq=>?_⟩
  by_cases e:q=r
  ·subst e;exact⟨n,by simp⟩
  ·exact absurd hb (hT.rel.jr q Q r R hq hr1 e b hbq)
 refine⟨oV _ (λb hb=>BN hb (λt ht=>by simp[ht])) (λb hb=>?_) hO,hq b hbb⟩
 have hbr:b∈blk a_ R r:=bG _ (hf b hb)
 obtain⟨q1,q2,q3⟩:=hq b hbr
 refine⟨q1,q2,yN hT.rel hr1 (hf b hb),q3,λh0=>?_⟩
 rcases((hT.rel.roots r R hr1).mine b hbr).2 with h|⟨j,pi,h1,h2⟩
 ·omega
 ·exact .inr ⟨j,pi,h1,h2⟩
theorem ZY{A:Type}{z:A}(H:Rel cx Z J F a w){x:AV}{v:Value}{k:(kk:K)->El kk->List Tag->Prog A}(hx:aW cx Z J F w x v)(hw:dK Z x)(h:(oZ x k).ends Z z) :
  ∃kk y T,wT cx Z J F a w kk y T v/\(k kk y T).ends Z z:=by
 have key:∀{r:Nat} {R:Root} {p:List Stp} {d:Dat} {cs:List Value} {wh:Option (Nat×Nat)},aY Z r R->cZ Z R->aD p R.k R.x=some d->bW p R.k R.x->(∀t∈aC p R.k,ay t R.own=true)->aR (hp w) p R.k (J.hdr r) (aL J R r)=some (cs,wh)->VC d.1 v cs->
   wT cx Z J F a w d.1 d.2 (R.out r d.1) v:=by
  intro r R p d cs wh hr hv hg h1 h2 h3 h4
  refine⟨cs,h4,λZ1 a_ F1 hT=>?_⟩
  cases hf:d.1.flat with
  |true=>
   obtain⟨aT,h5,_⟩:=tL H hr hv hg h1 h2 h3
   exact lC hf (oV (λ_=>True) (λ_ _=>trivial) (λ_ _=>trivial) h5)
  |false=>
   rcases OX R r hf with ho|⟨ho,hn⟩
   ·rw[ho]at hT
    have hS:=hT.same (r,dL R.w) (by simp)
    have hr1:=(hS.live R).2 hr
    have hv1:cZ Z1 R:=⟨hv.1,by rw[qL (λt ht=>(hT.same t (by simp[ht])).root)];exact hv.2⟩
    obtain⟨aT,h5,h6⟩:=tL hT.rel hr1 hv1 hg h1 h2 (by rw[hS.hdr,hS.wh];exact h3)
    exact tJ hT.rel hr1 h5 h6
   ·obtain⟨aT,h5,h6⟩:=tL H hr hv hg h1 h2 h3
    have hV:=tJ H hr h5 h6
    rw[ho]at hT hV ⊢
    exact hT.Px.vw (H.fE r R hr.1).1 (by rw[hT.clean];exact yH hv.2 (λ_ h=>h) (λt ht=>Km p hg h2 t ((Kl ht).resolve_right (by rw[hn t ht];exact Bool.false_ne_true)))) (λ_ h=>h) hV
 cases x with
 |val kk y T=>
  obtain⟨h1,h2⟩:=rF h
  obtain⟨cs,h3,h4⟩:=hx (.inr h1)
  exact⟨kk,y,T,⟨cs,h3,λZ1 a_ F1 hT=>hT.Px.vw hw (by rw[hT.clean];exact h1) (λ_ h=>h) h4⟩,h2⟩
 |ref r g=>
  obtain⟨R,hr,hv,h⟩:=gH h
  rcases bB h with⟨hg,h⟩|⟨_,h⟩
  ·obtain⟨_,h2⟩:=hx R hr (bu hg)
   exact⟨R.k,R.x,R.out r R.k,key (p:=[]) (d:=⟨R.k,R.x⟩) hr hv rfl trivial (λt ht=>by simp[aC]at ht) rfl h2,h⟩
  ·exact h.elim
 |dP r p n=>
  obtain⟨R,hr,hv,h⟩:=gH h
  rcases bB h with⟨hg,h⟩|⟨_,h⟩
  ·cases dN:aD p R.k R.x with
   |none=>rw[dN]at h;exact h.elim
   |some d=>
    rw[dN]at h
    obtain⟨h1,h2,cs,wh,h3,h4⟩:=hx R hr.1 hv (bu hg) d dN
    exact⟨d.1,d.2,R.out r d.1,key hr hv dN h1 h2 h3 h4,h⟩
  ·exact h.elim
 |undef=>exact h.elim
 |eX=>exact h.elim
 |ptr r p n=>exact h.elim
 |fC bt k x T=>exact h.elim
 |kS _ _ _ _=>exact h.elim
 |nZ _=>exact h.elim
 |part _ _ _ _ _=>exact h.elim
 |l9 _ _ _ _=>exact h.elim
 |sub _ _ _ _ _ _=>exact h.elim
 |sel _ _ _ _ _ _=>exact h.elim
 |app _ _ _ _=>exact h.elim
 |iW=>exact h.elim
 |fn f cs=>exact h.elim
theorem wT.flat{k:K}{x:El k}{ids:List Tag}{v:Value}(hf:k.flat=true)(h:wT cx Z J F a w k x ids v)(H:Rel cx Z J F a w):wT cx Z J F a w k x [] v:=by
 obtain⟨cs,h1,h2⟩:=h
 have h3:=h2 Z J F ⟨H,λT tys _ h=>⟨h,λb hb _=>⟨hb,rfl⟩,λb hb _=>⟨hb,rfl⟩⟩,λ_ _=>uq ..⟩
 exact⟨cs,h1,λ_ _ _ _=>lC hf h3⟩
theorem amx{A:Type}{z:A}:∀{ks:List K} {l:List (TypeId×Dat×List Tag)} {vs:List Value} {k:Cont ks->List Tag->Prog A},m_ cx Z J F w l vs->(∀c∈l,fI Z c.2.2)->(LG ks l k).ends Z z->
  ∃c T,vg cx Z J F a w T ks c vs/\(k c T).ends Z z:=by
 intro ks
 induction ks with
 |nil=>
  intro l vs k h1 h2 h
  cases l with
  |nil=>
   cases vs with
   |nil=>exact⟨(),[],trivial,h⟩
   |cons v vs=>exact h1.elim
  |cons q l=>exact h.elim
 |cons kk ks ih=>
  intro l vs k h1 h2 h
  cases l with
  |nil=>exact h.elim
  |cons q l=>
   obtain⟨t,d,tags⟩:=q
   cases vs with
   |nil=>exact h1.elim
   |cons v vs=>
    simp only[LG]at h
    obtain⟨hc,h⟩:=rF h
    cases hk:b_ d.1 kk d.2 with
    |none=>rw[hk]at h;exact h.elim
    |some x=>
     rw[hk]at h
     simp only at h
     obtain⟨ek,ey⟩:=iJ hk
     obtain⟨c,T,g1,g2⟩:=ih h1.2 (λc hc=>h2 c (by simp[hc])) h
     refine⟨(x,c),kF tags T,⟨?_,g1.mono (λt ht=>kY.2 (.inr ht))⟩,g2⟩
     obtain⟨dk,dx⟩:=d
     simp only at ek ey h1
     subst ek
     subst ey
     exact(qI.ahb h1.1 (h2 _ jE) hc).mono (λt ht=>kY.2 (.inl ht))
theorem aoy{A:Type}{z:A}(H:Rel cx Z J F a w):∀{ps:List aM} {mF:List AV} {vs:List Value} {k:Cont (kin ps)->List aV->Prog A},h_ cx Z J F w mF vs->(∀v∈mF,dK Z v)->(mJ ps mF k).ends Z z->
  ∃c is ts,qB cx Z J F a w ps c vs is ts/\(k c is).ends Z z:=by
 intro ps
 induction ps with
 |nil=>
  intro mF vs k h1 _ h
  cases mF with
  |nil=>
   cases vs with
   |nil=>exact⟨(),[],[],trivial,h⟩
   |cons v vs=>exact h1.elim
  |cons x mF=>exact h.elim
 |cons p ps ih=>
  intro mF vs k h1 h2 h
  cases mF with
  |nil=>
   cases p with
   |into j q=>cases q<;>exact h.elim
   |_=>exact h.elim
  |cons x mF=>
   cases vs with
   |nil=>exact h1.elim
   |cons v vs=>
    have h2':∀v∈mF,dK Z v:=λv hv=>h2 v (by simp[hv])
    cases p with
    |val kk bE=>
     have hgo:∀(y:El kk) (tags:List Tag),wT cx Z J F a w kk y tags v->
       (mJ ps mF λc is=>k (y,c) (⟨tags,none,[],[],none⟩ :: is)).ends Z z->∃c is ts,qB cx Z J F a w (.val kk bE :: ps) c (v :: vs) is ts/\(k c is).ends Z z:=by
      intro y tags hy h
      obtain⟨c,is,ts,g1,g2⟩:=ih h1.2 h2' h
      exact⟨(y,c),⟨tags,none,[],[],none⟩ :: is,ts,⟨⟨rfl,rfl,rfl,hy⟩,g1⟩,g2⟩
     have hval:(oZ x λk' x tags=>match b_ k' kk x with
       |some y=>mJ ps mF λc is=>k (y,c) (⟨bif kk.flat then []else tags,none,[],[],none⟩ :: is)
       |none=>.fail).ends Z z->∃c is ts,qB cx Z J F a w (.val kk bE :: ps) c (v :: vs) is ts/\(k c is).ends Z z:=by
      intro h
      obtain⟨k',y,Tg,f1,f5⟩:=ZY H h1.1 (h2 x (by simp)) h
      cases hc:b_ k' kk y with
      |none=>rw[hc]at f5;exact f5.elim
      |some y'=>
       rw[hc]at f5
       obtain⟨ek,ey⟩:=iJ hc
       subst ek
       simp only at ey
       subst ey
       cases hf:k'.flat with
       |true=>
        rw[hf]at f5
        exact hgo _ _ (f1.flat hf H) f5
       |false=>
        rw[hf]at f5
        exact hgo _ _ f1 f5
     cases x with
     |eX=>
      cases kk with
      |sl e kk=>
       obtain⟨b,rfl⟩:=h1.1
       exact hgo [] [] ⟨[.slice b 0 0],Pf,λ_ _ _ _=>⟨b,0,0,rfl,rfl,bZ _,λh=>by omega⟩⟩ h
      |_=>exact h.elim
     |undef=>exact hval h
     |val _ _ _=>exact hval h
     |ref _ _=>exact hval h
     |dP _ _ _=>exact hval h
     |ptr _ _ _=>exact hval h
     |fC _ _ _ _=>exact hval h
     |kS _ _ _ _=>exact hval h
     |nZ _=>exact hval h
     |part _ _ _ _ _=>exact hval h
     |l9 _ _ _ _=>exact hval h
     |sub _ _ _ _ _ _=>exact hval h
     |sel _ _ _ _ _ _=>exact hval h
     |app _ _ _ _=>exact hval h
     |iW=>exact hval h
     |fn _ _=>exact hval h
    |ro kk=>
     simp only[mJ]at h
     have hgo:∀(d:Dat) (tags:List Tag),qI cx Z J F a w d.1 d.2 tags v->(match b_ d.1 kk d.2 with
       |some y=>mJ ps mF λc is=>k (y,c) (⟨tags,none,[],[],none⟩ :: is)
       |none=>.fail).ends Z z->∃c is ts,qB cx Z J F a w (.ro kk :: ps) c (v :: vs) is ts/\(k c is).ends Z z:=by
      intro d tags hd h
      cases hc:b_ d.1 kk d.2 with
      |none=>rw[hc]at h;exact h.elim
      |some y=>
       rw[hc]at h
       obtain⟨ek,ey⟩:=iJ hc
       obtain⟨dk,dx⟩:=d
       simp only at ek ey hd
       subst ek
       subst ey
       obtain⟨c,is,ts,g1,g2⟩:=ih h1.2 h2' h
       exact⟨(y,c),⟨tags,none,[],[],none⟩ :: is,ts,⟨⟨rfl,rfl,rfl,hd⟩,g1⟩,g2⟩
     cases x with
     |ptr r p n=>
      rcases Lu H h1.1 (h2 (.ptr r p n) (by simp)) h with⟨r',R,p',d,cs,b,o,hr,hv,hg,cK,hown,hn,e,h5⟩|⟨bt,d,Tg,b,o,cs,hw,e,hcs,hV,hok,hb,h5⟩
      ·subst e
       exact hgo d _ (qI.aha H hr hv hg cK hown hn _) h5
      ·simp only[addrOf]at h
       obtain⟨R,hr,hv,h⟩:=gH h
       rcases bB h with⟨hc,h⟩|⟨_,h⟩
       ·simp only[bf]at hc
        cases dN:aD p R.k R.x with
        |none=>rw[dN]at h;exact h.elim
        |some d=>
         rw[dN]at h
         have hown:=nA hc.2
         obtain⟨g1,cs,b,o,g2,g3⟩:=h1.1.2 R hr.1 hv hc.1 hown (by rw[dN];rfl)
         subst g3
         exact hgo d _ (qI.aha H hr hv dN g1 hown g2 _) h
       ·exact h.elim
     |fC bt kx y Tg=>
      simp only[addrOf]at h
      obtain⟨hc,h⟩:=rF h
      exact hgo ⟨kx,y⟩ Tg (qI.ahb h1.1 (h2 (.fC bt kx y Tg) (by simp)) hc) h
     |_=>exact h.elim
    |rw kk ow wt ht=>
     simp only[mJ]at h
     cases x with
     |ptr r p n=>
      simp only at h
      obtain⟨R,hr,hv,h⟩:=gH h
      rcases bB h with⟨hc,h⟩|⟨_,h⟩
      ·simp only[bf]at hc
       cases dN:aD p R.k R.x with
       |none=>rw[dN]at h;exact h.elim
       |some d=>
        rw[dN]at h
        simp only at h
        cases hck:b_ d.1 kk d.2 with
        |none=>rw[hck]at h;exact h.elim
        |some y=>
         rw[hck]at h
         obtain⟨ek,ey⟩:=iJ hck
         obtain⟨dk,dx⟩:=d
         simp only at ek ey h
         subst ek
         subst ey
         rcases bB h with⟨hj,h⟩|⟨_,h⟩
         ·have hown:=nA hc.2
          obtain⟨g1,cs,b,o,g2,g3⟩:=h1.1.2 R hr.1 hv hc.1 hown (by rw[dN];rfl)
          obtain⟨c,is,ts,f1,f2⟩:=ih h1.2 h2' h
          exact⟨(y,c),⟨R.tags,some (r,p,wt,ht),[],[gy R p],none⟩ :: is,ts,⟨⟨r,R,p,⟨rfl,rfl,rfl,hr,hv,dN,g1,hown,hj⟩,rfl,cs,b,o,g2,g3⟩,f1⟩,f2⟩
         ·exact h.elim
      ·exact h.elim
     |_=>exact h.elim
    |dQ kk ow wt=>
     simp only[mJ]at h
     have hgo:∀(r:Nat) (R:Root) (p:List Stp) (d:Dat),aY Z r R->cZ Z R->aD p R.k R.x=some d->bW p R.k R.x->(∀t∈aC p R.k,ay t R.own=true)->(∃cs wh,aR (hp w) p R.k (J.hdr r) (aL J R r)=some (cs,wh)/\VC d.1 v cs)->
       (match b_ d.1 kk d.2 with
       |some y=>bif uS kk R.own ow then mJ ps mF λc is=>k (y,c) (⟨R.tags,some (r,p,wt,kk.tys),[],[],none⟩ :: is)else .fail
       |none=>.fail).ends Z z->∃c is ts,qB cx Z J F a w (.dQ kk ow wt :: ps) c (v :: vs) is ts/\(k c is).ends Z z:=by
      intro r R p d hr hv hg cK hown hn h
      cases hck:b_ d.1 kk d.2 with
      |none=>rw[hck]at h;exact h.elim
      |some y=>
       rw[hck]at h
       obtain⟨ek,ey⟩:=iJ hck
       obtain⟨dk,dx⟩:=d
       simp only at ek ey h hn
       subst ek
       subst ey
       rcases bB h with⟨hj,h⟩|⟨_,h⟩
       ·obtain⟨c,is,ts,f1,f2⟩:=ih h1.2 h2' h
        exact⟨(y,c),⟨R.tags,some (r,p,wt,dk.tys),[],[],none⟩ :: is,ts,⟨⟨r,R,p,⟨rfl,rfl,rfl,hr,hv,hg,cK,hown,hj⟩,rfl,hn⟩,f1⟩,f2⟩
       ·exact h.elim
     cases x with
     |dP r p n=>
      simp only at h
      obtain⟨R,hr,hv,h⟩:=gH h
      rcases bB h with⟨hc,h⟩|⟨_,h⟩
      ·cases dN:aD p R.k R.x with
       |none=>rw[dN]at h;exact h.elim
       |some d=>
        rw[dN]at h
        obtain⟨g1,g2,cs,wh,g3,g4⟩:=h1.1 R hr.1 hv (bu hc) d dN
        exact hgo r R p d hr hv dN g1 g2 ⟨cs,wh,g3,g4⟩ h
      ·exact h.elim
     |ref r g=>
      simp only at h
      obtain⟨R,hr,hv,h⟩:=gH h
      rcases bB h with⟨hc,h⟩|⟨_,h⟩
      ·obtain⟨_,g4⟩:=h1.1 R hr (bu hc)
       exact hgo r R [] ⟨R.k,R.x⟩ hr hv rfl trivial (λt ht=>by simp[aC]at ht) ⟨_,_,rfl,g4⟩ h
      ·exact h.elim
     |_=>exact h.elim
    |own kk ow=>
     simp only[mJ]at h
     obtain⟨tk,htk,h⟩:=xP H h1.1 (h2 x (by simp)) h
     cases hck:b_ tk.k kk tk.x with
     |none=>rw[hck]at h;exact h.elim
     |some y=>
      rw[hck]at h
      obtain⟨ek,ey⟩:=iJ hck
      simp only at h
      rcases bB h with⟨hj,h⟩|⟨_,h⟩
      ·obtain⟨c,is,ts,f1,f2⟩:=ih h1.2 h2' h
       exact⟨(y,c),⟨tk.tags,none,tk.ws,[],none⟩ :: is,(v,tk) :: ts,⟨⟨rfl,htk,rfl,⟨ek,ey⟩,hj⟩,f1⟩,f2⟩
      ·exact h.elim
    |fn f ks=>
     simp only[mJ]at h
     cases x with
     |fn f' caps=>
      simp only at h
      rcases bB h with⟨hf,h⟩|⟨_,h⟩
      ·obtain⟨us,e1,e2⟩:=h1.1
       obtain⟨c0,T0,g1,h⟩:=amx (a:=a) e2 (λc hc=>h2 (.fn f' caps) (by simp) c hc) h
       obtain⟨c,is,ts,f1,f2⟩:=ih h1.2 h2' h
       refine⟨Cont.app ks (kin ps) c0 c,⟨T0,none,[],[],none⟩ :: is,ts,⟨⟨rfl,rfl,rfl,us,?_,?_⟩,?_⟩,f2⟩
       ·rw[e1,bu hf]
       ·rw[Dp];exact g1
       ·rw[Fx];exact f1
      ·exact h.elim
     |_=>exact h.elim
    |into j q=>
     cases q with
     |cons t q=>
      cases x with
      |ptr r q' n=>
       simp only[mJ]at h
       obtain⟨R,hr,hv,h⟩:=gH h
       rcases bB h with⟨hc,h⟩|⟨_,h⟩
       ·simp only[bf]at hc
        obtain⟨⟨c1,c2⟩,c3⟩:=hc
        cases hi:idxOf (t :: q) (q'.drop (q'.length-(t :: q).length))with
        |none=>rw[hi]at h;exact h.elim
        |some c0=>
         rw[hi]at h
         obtain⟨c,is,ts,f1,f2⟩:=ih h1.2 h2' h
         obtain⟨⟨bb,oo,ev⟩,hat⟩:=h1.1
         obtain⟨cK,cs,b,o,hn,sM⟩:=hat R hr.1 hv c1 (nA c2) c3
         refine⟨Cont.app (aM.into 0 (t :: q)).kin (kin ps) c0 c,⟨[],none,[],[],some (r,q')⟩ :: is,ts,⟨⟨rfl,rfl,rfl,.inr ⟨by simp,r,q',R,cs,b,o,rfl,hr,cK,c3,hn,sM,?_⟩⟩,?_⟩,f2⟩
         ·rw[Dp];exact(MB hi).symm
         ·rw[Fx];exact f1
       ·exact h.elim
      |_=>exact h.elim
     |nil=>
      cases x with
      |eX=>
       obtain⟨b,hb⟩:=h1.1
       obtain⟨c,is,ts,f1,f2⟩:=ih h1.2 h2' h
       exact⟨c,⟨[],none,[],[],none⟩ :: is,ts,⟨⟨rfl,rfl,rfl,.inl ⟨rfl,rfl,b,hb⟩⟩,f1⟩,f2⟩
      |_=>exact h.elim
end
end
section
open Go
variable [Fr]
structure GA where
 v:Value
 cs:List Value
 fo:List Nat
 base:Option (Nat×Nat)
 ow:Bool
 wb:Bool
def yZ(p:aM)(i:Nat)(c:Cont p.kin):AV:=match p,c with
 |.val k bE,c=>.val k c.1 (bif k.flat then []else(gK i,0) :: bE.map λj=>(aG j,0))
 |.ro k,c=>.fC SENT k c.1 [(gK i,0)]
 |.rw _ _ _ _,_=>.ptr (aG i) [] 0
 |.dQ _ _ _,_=>.ref (aG i) 0
 |.own _ _,_=>.ref (aG i) 0
 |.fn f ks,c=>.fn f (fA.Db i ks c)
 |.into j p,c=>acu j p c
def jU(p:aM)(i:Nat)(c:Cont p.kin):Option Root:=match p,c with
 |.rw k ow _ _,c=>some (bU k c.1 ow (bif k.tys.all (λt=>ay t ow)then []else [(gK i,0)]) .par true)
 |.dQ k ow _,c=>some { bU k c.1 ow (bif k.tys.all (λt=>ay t ow)then []else [(gK i,0)]) .anon true with fixed:=true }
 |.own k ow,c=>some (bU k c.1 ow (bif k.tys.all (λt=>ay t ow)then []else [(gK i,0)]) .anon)
 |_,_=>none
def uD:(p:aM)->(ps:List aM)->Cont (kin (p :: ps))->Cont p.kin
 |.val _ _,_,c=>(c.1,())
 |.ro _,_,c=>(c.1,())
 |.rw _ _ _ _,_,c=>(c.1,())
 |.dQ _ _ _,_,c=>(c.1,())
 |.own _ _,_,c=>(c.1,())
 |.fn _ ks,ps,c=>Cont.fst ks (kin ps) c
 |.into _ p,ps,c=>Cont.fst (aM.into 0 p).kin (kin ps) c
def zD:(p:aM)->(ps:List aM)->Cont (kin (p :: ps))->Cont (kin ps)
 |.val _ _,_,c=>c.2
 |.ro _,_,c=>c.2
 |.rw _ _ _ _,_,c=>c.2
 |.dQ _ _ _,_,c=>c.2
 |.own _ _,_,c=>c.2
 |.fn _ ks,ps,c=>Cont.snd ks (kin ps) c
 |.into _ p,ps,c=>Cont.snd (aM.into 0 p).kin (kin ps) c
theorem TG(p:aM)(ps:List aM)(i:Nat)(c:Cont (kin (p :: ps))):fA (p :: ps) i c=(i,yZ p i (uD p ps c)) :: fA ps (i+1) (zD p ps c):=by cases p<;>rfl
theorem Ii(p:aM)(ps:List aM)(i:Nat)(c:Cont (kin (p :: ps))):jv (p :: ps) i c=(match jU p i (uD p ps c)with
 |some R=>[(aG i,R)]
 |none=>[])++jv ps (i+1) (zD p ps c):=by cases p<;>rfl
theorem ahn{i j:Nat}(h:aG i=aG j):i=j:=by unfold aG at h;omega
theorem agU:∀(ps:List aM) (i:Nat) (c:Cont (kin ps)) (s:Nat),gN (fA ps i c) s=.one .undef\/∃j p cj,s=i+j/\ps[j]?=some p/\gN (fA ps i c) s=.one (yZ p s cj)
 | [],i,c,s=>.inl rfl
 |p :: ps,i,c,s=>by
  rw[TG]
  simp only[gN]
  by_cases h:s=i
  ·subst h
   refine .inr ⟨0,p,uD p ps c,rfl,rfl,?_⟩
   simp
  ·have:Nat.beq s i=false:=by
    cases hb:Nat.beq s i with
    |true=>exact absurd (bu hb) h
    |false=>rfl
   rw[this]
   simp only[jI]
   rcases agU ps (i+1) (zD p ps c) s with h1|⟨j,q,cj,h1,h2,h3⟩
   ·exact .inl h1
   ·exact .inr ⟨j+1,q,cj,by omega,by simpa using h2,h3⟩
theorem JN(l m:List (Nat×Root))(n:Nat):jl (l++m) n=match jl l n with
 |some R=>some R
 |none=>jl m n:=by
 induction l with
 |nil=>rfl
 |cons q l ih=>
  obtain⟨s,a⟩:=q
  simp only[gX,jl]
  cases Nat.beq n s with
  |true=>rfl
  |false=>exact ih
theorem agT:∀(ps:List aM) (i:Nat) (c:Cont (kin ps)) (r:Nat),r<aG i->jl (jv ps i c) r=none
 | [],_,_,_,_=>rfl
 |p :: ps,i,c,r,h=>by
  rw[Ii,JN]
  have h2:=agT ps (i+1) (zD p ps c) r (by unfold aG at h ⊢;omega)
  cases jU p i (uD p ps c)with
  |none=>exact h2
  |some R=>
   have:Nat.beq r (aG i)=false:=by
    cases hb:Nat.beq r (aG i)with
    |true=>have:=bu hb;omega
    |false=>rfl
   simp only[jl,this,jI]
   exact h2
def QJ(cx:Cx)(Z:St)(J:aJ)(F:List Nat)(a:Act)(w:World)(r:Nat)(R:Root)(p:List Stp)(d:Dat)(cs1:List Value)(cB:Option (Nat×Nat))(aT:List Nat):Prop:=
 ∃rest,(J.fo r).Perm (aT++rest)/\(∀b o,cB=some (b,o)->b∈rest\/∃o0,aL J R r=some (b,o0)/\o0<=o/\o+d.1.size<=o0+R.k.size)/\(∀b o,cB=some (b,o)->b∉aT)/\
  ∀{t z:Dat} {tags':List Tag} {lw lh:List TypeId} {kp:Bool} {ft F':List Nat} {cs':List Value} {w':World},Ah cx Z J F w r R p d R.own cs1 cB aT rest t z tags' lw lh kp ft F' cs' w'->
    ∃J',Rel cx (aO Z r (gz R z R.own tags' lw lh kp)) J' F' a w'/\gQ cx Z J F w (aO Z r (gz R z R.own tags' lw lh kp)) J' F' w' (jY r lw) (jY r lh)/\(∀b∈blk J' (gz R z R.own tags' lw lh kp) r,(∃o,aL J R r=some (b,o))\/b∈ft\/b∈rest)/\
     (jm∉lh->cZ (aO Z r (gz R z R.own tags' lw lh kp)) (gz R z R.own tags' lw lh kp)->aR (hp w') p z.1 (J'.hdr r) (aL J' (gz R z R.own tags' lw lh kp) r)=some (cs',cB))/\∀b∈ft,b∈J'.fo r
def ru(cx:Cx)(Z:St)(J:aJ)(F:List Nat)(a:Act)(w:World)(p:aM)(c:Cont p.kin)(v:Value)(i:aV)(g:GA):Prop:=g.v=v/\match p,c with
 |.val k _,c=>g.ow=false/\g.wb=false/\i.wb=none/\g.fo=[]/\g.base=none/\VC k v g.cs/\Vw (hp w) (aN cx Z J F w i.ids) k c.1 g.cs
 |.ro k,c=>g.ow=false/\g.wb=false/\i.wb=none/\g.fo=[]/\g.base=none/\∃b o,v=.pointer (some ⟨b,o,none⟩)/\Cells (hp w) b o g.cs/\Vw (hp w) (aN cx Z J F w i.ids) k c.1 g.cs/\kZ Z J F w i.ids b
 |.rw k ow wt ht,c=>g.ow=false/\g.wb=true/\∃r R p b o,yj cx Z J w k c.1 ow i wt ht r R p/\i.bt=[gy R p]/\aR (hp w) p R.k (J.hdr r) (aL J R r)=some (g.cs,some (b,o))/\v=.pointer (some ⟨b,o,none⟩)/\g.base=some (b,o)/\
   Ow (hp w) R.own (aN cx Z J F w R.tags) k c.1 g.cs g.fo/\(∀b∈g.fo,b∈J.fo r)/\g.fo.Nodup/\b∉g.fo/\QJ cx Z J F a w r R p ⟨k,c.1⟩ g.cs (some (b,o)) g.fo
 |.dQ k ow wt,c=>g.ow=false/\g.wb=true/\∃r R p wh,yj cx Z J w k c.1 ow i wt k.tys r R p/\i.bt=[]/\aR (hp w) p R.k (J.hdr r) (aL J R r)=some (g.cs,wh)/\VC k v g.cs/\g.base=none/\
   Ow (hp w) R.own (aN cx Z J F w R.tags) k c.1 g.cs g.fo/\(∀b∈g.fo,b∈J.fo r)/\g.fo.Nodup/\QJ cx Z J F a w r R p ⟨k,c.1⟩ g.cs wh g.fo
 |.own k ow,c=>g.ow=true/\g.wb=false/\i.wb=none/\g.base=none/\VC k v g.cs/\Ow (hp w) ow (aN cx Z J F w i.ids) k c.1 g.cs g.fo/\(∀b∈g.fo,b∈F)/\g.fo.Nodup
 |.fn f ks,c=>g.ow=false/\g.wb=false/\i.wb=none/\g.fo=[]/\g.base=none/\∃us:List Value,v=.func (.func f) #[] us.toArray/\Kv ks c us i.ids
 |.into _ p,c=>g.ow=false/\g.wb=false/\i.wb=none/\g.fo=[]/\g.base=none/\Zi Z J w p c v i
where Kv:(ks:List K)->Cont ks->List Value->List Tag->Prop
 | [],_,[],_=>True
 |k :: ks,c,v :: vs,ids=>(∃b o cs,v=.pointer (some ⟨b,o,none⟩)/\Cells (hp w) b o cs/\Vw (hp w) (aN cx Z J F w ids) k c.1 cs/\kZ Z J F w ids b)/\Kv ks c.2 vs ids
 |_,_,_,_=>False
def sj(cx:Cx)(Z:St)(J:aJ)(F:List Nat)(a:Act)(w:World):(ps:List aM)->Cont (kin ps)->List Value->List aV->List GA->Prop
 | [],_,[],[],[]=>True
 |p :: ps,c,v :: vs,i :: is,g :: gs=>ru cx Z J F a w p (uD p ps c) v i g/\sj cx Z J F a w ps (zD p ps c) vs is gs
 |_,_,_,_,_=>False
section
variable {P:Program}{T:bK}{cx:Cx}{Z:St}{J:aJ}{F:List Nat}{a:Act}{w:World}
theorem vg.caps{Z1:St}{a_:aJ}{F1:List Nat}{ids:List Tag}(hT:Tk cx Z J F a w Z1 a_ F1 ids):∀{ks:List K} {c:Cont ks} {us:List Value},vg cx Z J F a w ids ks c us->ru.Kv cx Z1 a_ F1 w ks c us ids
 | [],_,[],_=>trivial
 |_ :: _,_,_ :: _,⟨⟨b,o,cs,h1,h2,h3⟩,hh⟩=>⟨⟨b,o,cs,h1,h2,h3 Z1 a_ F1 hT⟩,vg.caps hT hh⟩
 | [],_,_ :: _,hh=>hh.elim
 |_ :: _,_,[],hh=>hh.elim
theorem alY{Z1:St}{a_:aJ}{F1:List Nat}(H1:Rel cx Z1 a_ F1 a w)(hV:Views cx Z J F w Z1 a_ F1 w):∀{ps:List aM} {c:Cont (kin ps)} {vs:List Value} {is:List aV} {ts:List (Value×dS)} {hs:List (List Value×List Nat)},
  qB cx Z J F a w ps c vs is ts->uj cx Z1 a_ F1 w ts hs->(∀i∈is,∀t∈i.ids,Same Z J Z1 a_ t.1)->(∀i∈is,∀r q,i.wb=some (r,q)->Same Z J Z1 a_ r)->(∀(j m:Nat) (p:List (Option Nat)) (i:aV) (r:Nat) (q:List Stp),ps[j]?=some (.into m p)->is[j]?=some i->i.lie=some (r,q)->Same Z J Z1 a_ r)->
  ∃gs,sj cx Z1 a_ F1 a w ps c vs is gs/\(gs.flatMap λg=>bif g.ow then g.fo else [])=hs.flatMap (·.2):=by
 intro ps
 induction ps with
 |nil=>
  intro c vs is ts hs h hh _ _ _
  cases vs with
  |cons _ _=>exact h.elim
  |nil=>cases is with
   |cons _ _=>exact h.elim
   |nil=>cases ts with
    |cons _ _=>exact h.elim
    |nil=>cases hs with
     |cons _ _=>exact hh.elim
     |nil=>exact⟨[],trivial,rfl⟩
 |cons p ps ih=>
  intro c vs is ts hs h hh hS hR hL
  have hpl:∀{k:K} {x:El k} {ow:List TypeId} {i:aV} {wt ht:List TypeId} {r:Nat} {R:Root} {p:List Stp} {cs:List Value} {wh:Option (Nat×Nat)},yj cx Z J w k x ow i wt ht r R p->(∀t∈i.ids,Same Z J Z1 a_ t.1)->Same Z J Z1 a_ r->
    aR (hp w) p R.k (J.hdr r) (aL J R r)=some (cs,wh)->yj cx Z1 a_ w k x ow i wt ht r R p/\aR (hp w) p R.k (a_.hdr r) (aL a_ R r)=some (cs,wh)/\
     ∃fo,Ow (hp w) R.own (aN cx Z1 a_ F1 w R.tags) k x cs fo/\(∀b∈fo,b∈a_.fo r)/\fo.Nodup/\(∀b o,wh=some (b,o)->b∉fo)/\QJ cx Z1 a_ F1 a w r R p ⟨k,x⟩ cs wh fo:=by
   intro k x ow i wt ht r R p cs wh hP hid hr hn
   have hr1:=(hr.live R).2 hP.lv
   have hv1:cZ Z1 R:=⟨hP.vl.1,by rw[qL (λt ht=>(hid t (by rw[hP.ids];exact ht)).root)];exact hP.vl.2⟩
   have hn1:aR (hp w) p R.k (a_.hdr r) (aL a_ R r)=some (cs,wh):=by rw[hr.hdr,hr.wh];exact hn
   have K:=H1.roots r R hr1
   have hnd:=K.nd
   rw[jd,tq]at hnd
   obtain⟨fd,ok',aT,rest,iO,wh2,hn',hpf,hd1,hty,hall,fM,hwf,hgo⟩:=H1.place hr1 hv1 (own':=R.own) hP.get hP.pin (λ_ h=>h) hP.own
   rw[hn1]at hn'
   simp only[ak,bS]at hn'
   obtain⟨rfl,rfl⟩:=hn'
   obtain⟨Mj,hO⟩:=hall (λ_ _=>rfl)
   subst Mj
   rw[jf]at hpf
   have lK:=hpf.nodup hnd.2
   exact⟨⟨hP.wb,hP.ws,hP.ids,hr1,hv1,hP.get,hP.pin,hP.own,hP.just⟩,hn1,aT,hO,λb hb=>hpf.mem_iff.2 (bV _ hb),(dJ.1 lK).1,hwf,rest,hpf,fM,hwf,hgo⟩
  cases vs with
  |nil=>cases p<;>exact h.elim
  |cons v vs=>
   cases is with
   |nil=>cases p<;>exact h.elim
   |cons i is=>
    have hS1:=hS i (by simp)
    have hR1:=hR i (by simp)
    have qP:Tk cx Z J F a w Z1 a_ F1 i.ids:=⟨H1,hV,hS1⟩
    have hS2:∀i∈is,∀t∈i.ids,Same Z J Z1 a_ t.1:=λi hi=>hS i (by simp[hi])
    have hR2:∀i∈is,∀r q,i.wb=some (r,q)->Same Z J Z1 a_ r:=λi hi=>hR i (by simp[hi])
    have hL2:∀(j m:Nat) (p:List (Option Nat)) (i:aV) (r:Nat) (q:List Stp),ps[j]?=some (.into m p)->is[j]?=some i->i.lie=some (r,q)->Same Z J Z1 a_ r:=λj m p i r q h1 h2=>hL (j+1) m p i r q (by simpa using h1) (by simpa using h2)
    cases p with
    |val k bE=>
     obtain⟨⟨h1,h2,h3,cs,h4,h5⟩,h6⟩:=h
     obtain⟨gs,g1,g2⟩:=ih h6 hh hS2 hR2 hL2
     exact⟨⟨v,cs,[],none,false,false⟩ :: gs,⟨⟨rfl,rfl,rfl,h1,rfl,rfl,h4,h5 Z1 a_ F1 qP⟩,g1⟩,by simpa using g2⟩
    |ro k=>
     obtain⟨⟨h1,h2,h3,b,o,cs,h4,h5,h7⟩,h6⟩:=h
     obtain⟨gs,g1,g2⟩:=ih h6 hh hS2 hR2 hL2
     exact⟨⟨v,cs,[],none,false,false⟩ :: gs,⟨⟨rfl,rfl,rfl,h1,rfl,rfl,b,o,h4,h5,h7 Z1 a_ F1 qP⟩,g1⟩,by simpa using g2⟩
    |rw k ow wt ht=>
     obtain⟨⟨r,R,p,hP,hbt,cs,b,o,hn,hv⟩,h6⟩:=h
     obtain⟨gs,g1,g2⟩:=ih h6 hh hS2 hR2 hL2
     obtain⟨q1,q2,fo,q3,q4,q5,q6,q7⟩:=hpl hP hS1 (hR1 r _ hP.wb) hn
     exact⟨⟨v,cs,fo,some (b,o),false,true⟩ :: gs,⟨⟨rfl,rfl,rfl,r,R,p,b,o,q1,hbt,q2,hv,rfl,q3,q4,q5,q6 b o rfl,q7⟩,g1⟩,by simpa using g2⟩
    |dQ k ow wt=>
     obtain⟨⟨r,R,p,hP,hbt,cs,wh,hn,hv⟩,h6⟩:=h
     obtain⟨gs,g1,g2⟩:=ih h6 hh hS2 hR2 hL2
     obtain⟨q1,q2,fo,q3,q4,q5,q6,q7⟩:=hpl hP hS1 (hR1 r _ hP.wb) hn
     exact⟨⟨v,cs,fo,none,false,true⟩ :: gs,⟨⟨rfl,rfl,rfl,r,R,p,wh,q1,hbt,q2,hv,rfl,q3,q4,q5,q7⟩,g1⟩,by simpa using g2⟩
    |own k ow=>
     cases ts with
     |nil=>exact h.elim
     |cons q ts=>
      cases hs with
      |nil=>exact hh.elim
      |cons hd hs=>
       obtain⟨⟨h1,h2,h3,⟨ek,ey⟩,h5⟩,h6⟩:=h
       obtain⟨⟨k1,k2,k3⟩,k4⟩:=hh
       obtain⟨gs,g1,g2⟩:=ih h6 k4 hS2 hR2 hL2
       obtain⟨v',tk⟩:=q
       simp only at h1 h2 h3 ek ey h5 k1 k2 k3
       subst h1
       have hO:Ow (hp w) ow (aN cx Z1 a_ F1 w tk.tags) k c.1 hd.1 hd.2:=by
        refine sw (λt ht=>?_) (vI ek ey (k2.ow k3))
        have:=dV.1 h5 t ht
        exact(by simpa using this:ay t tk.own=ay t ow).symm
       refine⟨⟨v',hd.1,hd.2,none,true,false⟩ :: gs,⟨⟨rfl,rfl,rfl,by rw[h3],rfl,ek▸k1,by rw[h3];exact hO,k2.sub,k2.nd⟩,g1⟩,by simp[g2]⟩
    |fn f ks=>
     obtain⟨⟨h1,h2,h3,us,h4,h5⟩,h6⟩:=h
     obtain⟨gs,g1,g2⟩:=ih h6 hh hS2 hR2 hL2
     exact⟨⟨v,[],[],none,false,false⟩ :: gs,⟨⟨rfl,rfl,rfl,h1,rfl,rfl,us,h4,h5.caps qP⟩,g1⟩,by simpa using g2⟩
    |into j q=>
     obtain⟨⟨h1,h2,h3,h4⟩,h6⟩:=h
     obtain⟨gs,g1,g2⟩:=ih h6 hh hS2 hR2 hL2
     refine⟨⟨v,[],[],none,false,false⟩ :: gs,⟨⟨rfl,rfl,rfl,h1,rfl,rfl,?_⟩,g1⟩,by simpa using g2⟩
     rcases h4 with h4|⟨e0,r,q',R,cs,b,o,e1,e2,e3,e4,e5,e6,e7⟩
     ·exact .inl h4
     ·have hr:=hL 0 j q i r q' (by simp) (by simp) e1
      exact .inr ⟨e0,r,q',R,cs,b,o,e1,(hr.live R).2 e2,e3,e4,by rw[hr.hdr,hr.wh];exact e5,e6,e7⟩
theorem sj.at:∀{ps:List aM} {c:Cont (kin ps)} {vs:List Value} {is:List aV} {gs:List GA} {i0:Nat},sj cx Z J F a w ps c vs is gs->
  vs.length=ps.length/\is.length=ps.length/\gs.length=ps.length/\∀j p,ps[j]?=some p->∃cj v i g,vs[j]?=some v/\is[j]?=some i/\gs[j]?=some g/\ru cx Z J F a w p cj v i g/\
   gN (fA ps i0 c) (i0+j)=.one (yZ p (i0+j) cj)/\jl (jv ps i0 c) (aG (i0+j))=jU p (i0+j) cj:=by
 intro ps
 induction ps with
 |nil=>
  intro c vs is gs i0 h
  cases vs with
  |cons _ _=>exact h.elim
  |nil=>cases is with
   |cons _ _=>exact h.elim
   |nil=>cases gs with
    |cons _ _=>exact h.elim
    |nil=>exact⟨rfl,rfl,rfl,λj p hp=>by simp at hp⟩
 |cons p ps ih=>
  intro c vs is gs i0 h
  cases vs with
  |nil=>exact h.elim
  |cons v vs=>cases is with
   |nil=>exact h.elim
   |cons i is=>cases gs with
    |nil=>exact h.elim
    |cons g gs=>
     obtain⟨h1,h2⟩:=h
     obtain⟨l1,l2,l3,h3⟩:=ih (i0:=i0+1) h2
     refine⟨by simp[l1],by simp[l2],by simp[l3],λj q hq=>?_⟩
     cases j with
     |zero=>
      simp only[rA,ak]at hq
      subst hq
      refine⟨uD p ps c,v,i,g,rfl,rfl,rfl,h1,?_,?_⟩
      ·rw[TG];simp[gN]
      ·rw[Ii,JN]
       cases hr:jU p i0 (uD p ps c)with
       |none=>
        simp only[jl,mD]
        rw[agT ps (i0+1) (zD p ps c) (aG i0) (by unfold aG;omega)]
       |some R=>simp[jl]
     |succ j=>
      obtain⟨cj,v',i',g',e1,e2,e3,e4,e5,e6⟩:=h3 j q (by simpa using hq)
      have ej:i0+(j+1)=i0+1+j:=by omega
      refine⟨cj,v',i',g',e1,e2,e3,e4,?_,?_⟩
      ·rw[TG,ej]
       simp only[gN]
       have:Nat.beq (i0+1+j) i0=false:=by
        cases hb:Nat.beq (i0+1+j) i0 with
        |true=>have:=bu hb;omega
        |false=>rfl
       rw[this]
       exact e5
      ·rw[Ii,JN,ej]
       cases hr:jU p i0 (uD p ps c)with
       |none=>exact e6
       |some R=>
        have:Nat.beq (aG (i0+1+j)) (aG i0)=false:=by
         cases hb:Nat.beq (aG (i0+1+j)) (aG i0)with
         |true=>have:=ahn (bu hb);omega
         |false=>rfl
        simp only[jl,this,jI]
        exact e6
theorem awJ:∀{ps:List aM} {c:Cont (kin ps)} {i0 r:Nat} {R:Root},jl (jv ps i0 c) r=some R->∃j p,r=aG (i0+j)/\ps[j]?=some p:=by
 intro ps
 induction ps with
 |nil=>intro c i0 r R h;simp[jv,jl]at h
 |cons p ps ih=>
  intro c i0 r R h
  rw[Ii,JN]at h
  have hrec:jl (jv ps (i0+1) (zD p ps c)) r=some R->∃j q,r=aG (i0+j)/\(p :: ps)[j]?=some q:=by
   intro h
   obtain⟨j,q,h1,h2⟩:=ih h
   exact⟨j+1,q,by rw[h1];congr 1;omega,by simpa using h2⟩
  cases hr:jU p i0 (uD p ps c)with
  |none=>rw[hr]at h;exact hrec h
  |some Q=>
   rw[hr]at h
   simp only[jl]at h
   cases hb:Nat.beq r (aG i0)with
   |true=>exact⟨0,p,bu hb,rfl⟩
   |false=>rw[hb]at h;exact hrec h
end
end
section
open Go
variable [Fr]
def gu(g:GA):List Nat:=(match g.base with
 |some q=>[q.1]
 |none=>[])++g.fo
def BP:aM->List Nat
 |.val _ bE=>bE
 |_=>[]
def oN:aM->Nat
 |.rw k _ _ _=>k.size
 |_=>0
def iN(cx:Cx)(Z:St)(J:aJ)(F:List Nat)(w:World)(ps:List aM)(c:Cont (kin ps))(is:List aV)(gs:List GA):Cx where
 nt:=0
 w0:=w
 ext:=λj b=>(∃i,is[j]?=some i/\aN cx Z J F w i.ids b)/\∀(m:Nat) (g:GA) (q:Nat×Nat),gs[m]?=some g->g.base=some q->b≠q.1
 par:=λj=>match gs[j]?,ps[j]? with
  |some g,some p=>bif g.ow||g.wb then some ⟨g.base.map λq=>(q.1,q.2,oN p),gu g,g.wb⟩else none
  |_,_=>none
 ptrs:=λj q ts v=>∃g R0 c0 b o,gs[j]?=some g/\g.wb=true/\jl (jv ps 0 c) (aG j)=some R0/\ts=iR q R0.k/\(∀t∈aC q R0.k,ay t R0.own=true)/\bW q R0.k R0.x/\aR (hp w) q R0.k g.cs g.base=some (c0,some (b,o))/\v=.pointer (some ⟨b,o,none⟩)
 refs:=λj v=>∃g,gs[j]?=some g/\g.v=v/\g.base=none/\g.wb=true
def qJ(gs:List GA):aJ where
 loc:=λr=>((gs[r / 4]?).bind (·.base)).getD (0,0)
 hdr:=λr=>((gs[r / 4]?).map (·.cs)).getD []
 fo:=λr=>((gs[r / 4]?).map (·.fo)).getD []
theorem ahm(j:Nat):aG j / 4=j:=by unfold aG;omega
theorem Il(j:Nat):fV (aG j)=false:=by
 unfold fV aG
 have:4*j%4=0:=by omega
 rw[this];rfl
section
variable {P:Program}{T:bK}{cx:Cx}{Z:St}{J:aJ}{F:List Nat}{a:Act}{w:World}{ps:List aM}{c:Cont (kin ps)}{vs:List Value}{is:List aV}{gs:List GA}
structure Apart(cx:Cx)(Z:St)(J:aJ)(F:List Nat)(w:World)(ps:List aM)(is:List aV)(gs:List GA):Prop where
 one:∀(j j':Nat) (i i':aV) (r:Nat) (u u':List Stp×List TypeId×List TypeId),is[j]?=some i->is[j']?=some i'->i.wb=some (r,u)->i'.wb=some (r,u')->j=j'
 own:(gs.flatMap λg=>bif g.ow then g.fo else []).Nodup
 bE:∀(j:Nat) (p:aM) (i:aV) (r n:Nat),ps[j]?=some p->is[j]?=some i->(r,n)∈i.ids->∀(m:Nat) (i':aV) q,is[m]?=some i'->i'.wb=some (r,q)->m∈BP p/\∃k bE,p=.val k bE/\∀b∈i'.bt,b∉k.tys
 prw:∀(j:Nat) (p:aM),ps[j]?=some p->∀m∈BP p,∃(i':aV) (q:Nat×List Stp×List TypeId×List TypeId),is[m]?=some i'/\i'.wb=some q
 lie:∀(j m:Nat) (p:List (Option Nat)) (i:aV) (r:Nat) (q:List Stp),ps[j]?=some (.into m p)->is[j]?=some i->i.lie=some (r,q)->∃(k:K) (ow wt ht:List TypeId) (i':aV) (q':List Stp) (u:List TypeId×List TypeId),ps[m]?=some (.rw k ow wt ht)/\is[m]?=some i'/\i'.wb=some (r,q',u)/\q=q'++q.drop (q.length-p.length)
theorem flatMap_apart{A:Type}{f:A->List Nat}:∀{l:List A} {i j:Nat} {x y:A},(l.flatMap f).Nodup->l[i]?=some x->l[j]?=some y->i≠j->∀b∈f x,b∉f y:=by
 intro l
 induction l with
 |nil=>intro i j x y _ h;simp at h
 |cons z l ih=>
  intro i j x y hnd hi hj hne b hb hb'
  simp only[kP]at hnd
  have n:=dJ.1 hnd
  cases i with
  |zero=>
   simp only[rA,ak]at hi
   subst hi
   cases j with
   |zero=>exact hne rfl
   |succ j=>exact n.2.2 b hb b (mW.2 ⟨y,p9 (by simpa using hj),hb'⟩) rfl
  |succ i=>
   cases j with
   |zero=>
    simp only[rA,ak]at hj
    subst hj
    exact n.2.2 b hb' b (mW.2 ⟨x,p9 (by simpa using hi),hb⟩) rfl
   |succ j=>exact ih n.2.1 (by simpa using hi) (by simpa using hj) (by omega) b hb hb'
theorem ayM{p:aM}{cj:Cont p.kin}{v:Value}{i:aV}{g:GA}(h:ru cx Z J F a w p cj v i g)(hw:g.wb=true) :
  ∃(k:K) (x:El k) (ow wt ht:List TypeId) (r:Nat) (R:Root) (q:List Stp) (wh:Option (Nat×Nat)),((p=.rw k ow wt ht/\i.bt=[gy R q]/\∃b o,wh=some (b,o)/\v=.pointer (some ⟨b,o,none⟩)/\g.base=some (b,o)/\b∉g.fo)\/(p=.dQ k ow wt/\ht=k.tys/\i.bt=[]/\VC k v g.cs/\g.base=none))/\
   yj cx Z J w k x ow i wt ht r R q/\aR (hp w) q R.k (J.hdr r) (aL J R r)=some (g.cs,wh)/\Ow (hp w) R.own (aN cx Z J F w R.tags) k x g.cs g.fo/\(∀b∈g.fo,b∈J.fo r)/\g.fo.Nodup/\g.ow=false/\g.v=v:=by
 obtain⟨hv,h⟩:=h
 cases p with
 |val k bE=>rw[h.2.1]at hw;simp at hw
 |ro k=>rw[h.2.1]at hw;simp at hw
 |rw k ow wt ht=>
  obtain⟨h1,h2,r,R,q,b,o,h3,h4,h5,h6,h7,h8,h9,h10,h11,_⟩:=h
  exact⟨k,cj.1,ow,wt,ht,r,R,q,some (b,o),.inl ⟨rfl,h4,b,o,rfl,h6,h7,h11⟩,h3,h5,h8,h9,h10,h1,hv⟩
 |dQ k ow wt=>
  obtain⟨h1,h2,r,R,q,wh,h3,h4,h5,h6,h7,h8,h9,h10,_⟩:=h
  exact⟨k,cj.1,ow,wt,k.tys,r,R,q,wh,.inr ⟨rfl,rfl,h4,h6,h7⟩,h3,h5,h8,h9,h10,h1,hv⟩
 |own k ow=>rw[h.2.1]at hw;simp at hw
 |fn f ks=>rw[h.2.1]at hw;simp at hw
 |into j q=>rw[h.2.1]at hw;simp at hw
structure RD(cx:Cx)(Z:St)(J:aJ)(F:List Nat)(w:World)(ps:List aM)(vs:List Value)(is:List aV)(gs:List GA)(j:Nat)(R:Root)(g:GA)(i:aV)(p:aM):Prop where
 hg:gs[j]?=some g
 hi:is[j]?=some i
 hq:ps[j]?=some p
 hv:vs[j]?=some g.v
 held:g.ow=true\/g.wb=true
 bE:BP p=[]
 aw7:∀k bE,p≠.val k bE
 lw:R.w=[]
 lh:R.h=[]
 g0:R.g=0
 ew:R.ew=[]
 eh:R.eh=[]
 tags:R.tags=bif R.k.tys.all (λt=>ay t R.own)then []else [(gK j,0)]
 ow:Ow (hp w) R.own (aN cx Z J F w i.ids) R.k R.x g.cs g.fo
 nd:g.fo.Nodup
 kind:(R.kind=.par/\oN p=R.k.size/\g.wb=true/\∃b o,g.base=some (b,o)/\b∉g.fo)\/(R.kind=.anon/\g.base=none/\VC R.k g.v g.cs)
theorem Ij{p:aM}{cj:Cont p.kin}{v:Value}{i:aV}{g:GA}{j:Nat}{R:Root}(h:ru cx Z J F a w p cj v i g)(hg:gs[j]?=some g)(hi:is[j]?=some i)(hp:ps[j]?=some p)(hv:vs[j]?=some v)(hR:jU p j cj=some R):RD cx Z J F w ps vs is gs j R g i p:=by
 obtain⟨h0,h⟩:=h
 subst h0
 have hall:∀{k:K} {ow own:List TypeId},uS k own ow=true->∀t∈k.tys,ay t ow=ay t own:=λhj t ht=>by
  have:=dV.1 hj t ht
  exact(by simpa using this:ay t _=ay t _).symm
 cases p with
 |rw k ow wt ht=>
  obtain⟨h1,h2,r,R0,q,b,o,h3,h4,h5,h6,h7,h8,h9,h10,h11,_⟩:=h
  simp only[jU,ak]at hR
  subst hR
  refine⟨hg,hi,hp,hv,.inr h2,rfl,by simp,rfl,rfl,rfl,rfl,rfl,rfl,?_,h10,.inl ⟨rfl,rfl,h2,b,o,h7,h11⟩⟩
  rw[h3.ids]
  exact sw (hall h3.just) h8
 |dQ k ow wt=>
  obtain⟨h1,h2,r,R0,q,wh,h3,h4,h5,h6,h7,h8,h9,h10,_⟩:=h
  simp only[jU,ak]at hR
  subst hR
  refine⟨hg,hi,hp,hv,.inr h2,rfl,by simp,rfl,rfl,rfl,rfl,rfl,rfl,?_,h10,.inr ⟨rfl,h7,h6⟩⟩
  rw[h3.ids]
  exact sw (hall h3.just) h8
 |own k ow=>
  obtain⟨h1,h2,h3,h4,h5,h6,h7,h8⟩:=h
  simp only[jU,ak]at hR
  subst hR
  exact⟨hg,hi,hp,hv,.inl h1,rfl,by simp,rfl,rfl,rfl,rfl,rfl,rfl,h6,h8,.inr ⟨rfl,h4,h5⟩⟩
 |val k bE=>simp[jU]at hR
 |ro k=>simp[jU]at hR
 |fn f ks=>simp[jU]at hR
 |into j q=>simp[jU]at hR
theorem Mi{p:aM}{cj:Cont p.kin}{v:Value}{i:aV}{g:GA}(j:Nat)(h:ru cx Z J F a w p cj v i g)(hh:g.ow=true\/g.wb=true):∃R,jU p j cj=some R:=by
 obtain⟨h0,h⟩:=h
 cases p with
 |rw k ow wt ht=>exact⟨_,rfl⟩
 |dQ k ow wt=>exact⟨_,rfl⟩
 |own k ow=>exact⟨_,rfl⟩
 |val k bE=>rcases hh with hh|hh<;>simp[h.1,h.2.1]at hh
 |ro k=>rcases hh with hh|hh<;>simp[h.1,h.2.1]at hh
 |fn f ks=>rcases hh with hh|hh<;>simp[h.1,h.2.1]at hh
 |into j q=>rcases hh with hh|hh<;>simp[h.1,h.2.1]at hh
theorem o9(H:Rel cx Z J F a w){p:aM}{cj:Cont p.kin}{v:Value}{i:aV}{g:GA}(h:ru cx Z J F a w p cj v i g):(∀b∈gu g,(g.ow=true/\b∈F)\/(g.wb=true/\∃r R q,i.wb=some (r,q)/\aY Z r R/\b∈blk J R r))/\
  (∀b o,g.base=some (b,o)->∃r R q arr e lo hi,i.wb=some (r,q)/\aY Z r R/\b∈blk J R r/\hp w b=some (.cells arr e (lo,hi))/\iU arr.size lo hi/\o+oN p<=arr.size/\Cells (hp w) b o g.cs/\((∀t∈i.bt,t=e)/\i.bt≠[]/\¬lM cx b\/lM cx b))/\
  (∀b∈g.fo,g.wb=true->∃r R q,i.wb=some (r,q)/\aY Z r R/\b∈J.fo r)/\(g.wb=true↔i.wb≠none):=by
 obtain⟨hv,h⟩:=h
 cases p with
 |val k bE=>
  obtain⟨h1,h2,h3,h4,h5,_⟩:=h
  exact⟨λb hb=>by simp[gu,h4,h5]at hb,λb o hb=>by rw[h5]at hb;simp at hb,λb hb=>by rw[h4]at hb;simp at hb,by simp[h2,h3]⟩
 |ro k=>
  obtain⟨h1,h2,h3,h4,h5,_⟩:=h
  exact⟨λb hb=>by simp[gu,h4,h5]at hb,λb o hb=>by rw[h5]at hb;simp at hb,λb hb=>by rw[h4]at hb;simp at hb,by simp[h2,h3]⟩
 |fn f ks=>
  obtain⟨h1,h2,h3,h4,h5,_⟩:=h
  exact⟨λb hb=>by simp[gu,h4,h5]at hb,λb o hb=>by rw[h5]at hb;simp at hb,λb hb=>by rw[h4]at hb;simp at hb,by simp[h2,h3]⟩
 |own k ow=>
  obtain⟨h1,h2,h3,h4,h5,h6,h7,h8⟩:=h
  exact⟨λb hb=>.inl ⟨h1,h7 b (by simpa[gu,h4]using hb)⟩,λb o hb=>by rw[h4]at hb;simp at hb,λb hb hw=>by rw[h2]at hw;simp at hw,by simp[h2,h3]⟩
 |dQ k ow wt=>
  obtain⟨h1,h2,r,R,q,wh,h3,h4,h5,h6,h7,h8,h9,h10,_⟩:=h
  have hf:∀b∈g.fo,b∈blk J R r:=λb hb=>bG _ (h9 b hb)
  exact⟨λb hb=>.inr ⟨h2,r,R,_,h3.wb,h3.lv,hf b (by simpa[gu,h7]using hb)⟩,λb o hb=>by rw[h7]at hb;simp at hb,λb hb _=>⟨r,R,_,h3.wb,h3.lv,h9 b hb⟩,by simp[h2,h3.wb]⟩
 |rw k ow wt ht=>
  obtain⟨h1,h2,r,R,q,b,o,h3,h4,h5,h6,h7,h8,h9,h10,h11,_⟩:=h
  have hf:∀b∈g.fo,b∈blk J R r:=λb hb=>bG _ (h9 b hb)
  obtain⟨m1,_,m2,⟨arr,e,lo,hi,m3,m4,m5,m6⟩,_⟩:=uU H h3.lv h3.vl h3.get h3.pin h3.own h5
  refine⟨λb' hb=>?_,λb' o' hb=>?_,λb hb _=>⟨r,R,_,h3.wb,h3.lv,h9 b hb⟩,by simp[h2,h3.wb]⟩
  ·refine .inr ⟨h2,r,R,_,h3.wb,h3.lv,?_⟩
   simp only[gu,h7,gX,iA,bM]at hb
   rcases hb with hb|hb
   ·subst hb;exact m2
   ·exact hf b' hb
  ·rw[h7]at hb
   simp only[ak,bS]at hb
   obtain⟨rfl,rfl⟩:=hb
   refine⟨r,R,_,arr,e,lo,hi,h3.wb,h3.lv,m2,m3,m4,m5,m1,?_⟩
   rcases m6 with⟨m6,m7⟩|⟨m6,_⟩
   ·exact .inl ⟨λt ht=>by rw[h4]at ht;simp only[gY]at ht;rw[ht,m6],by rw[h4];simp,m7⟩
   ·exact .inr m6
 |into j q=>
  obtain⟨h1,h2,h3,h4,h5,_⟩:=h
  exact⟨λb hb=>by simp[gu,h4,h5]at hb,λb o hb=>by rw[h5]at hb;simp at hb,λb hb=>by rw[h4]at hb;simp at hb,by simp[h2,h3]⟩
end
end
end Go.Proofs.YtgppmpedglhhfaaGreatDoor.Ow

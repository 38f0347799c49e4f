/- A verified reading of translated code, part E of 7. No condition. -/
import Derived.Test.YtgppmpedglhhfaaGreatDoorOwD
set_option linter.unusedSectionVars false
set_option linter.unusedVariables false
set_option linter.unusedSimpArgs false
namespace Go.Proofs.YtgppmpedglhhfaaGreatDoor.Ow
section
open Go
variable [Fr]
section
variable {P:Program}{T:bF}{cx:Cx}{Z:St}{J:aF}{F:List Nat}{a:Act}{w:World}{o:Oper}{d:Nat}{ws:List Wr}
def mo(z:Array Value)(n:Nat):Array Value:=(Array.range n).map (z[· % z.size]!)
theorem run_buildSlice{t e:TypeId}{kk:K}(ht:cK P T t (.sl e kk)){len:Nat}{parts:Array (Nat×Value)}{cells:Array Value}(hb:len*kk.size<=16777216)
  (hf:Instr.fill (λi=>some (i*kk.size,kk.size)) (mo (dI kk).toArray (len*kk.size)) parts.toList=some cells) :
  (Instr.buildSlice t len parts).run P w=.ok (.slice (some ⟨w.heap.size,0,none⟩) len len) (w.alloc (.cells cells e)):=by
 obtain⟨hu,he,hk,_⟩:=ht.sl
 have hzc:=Cu he.shape
 unfold Instr.buildSlice
 have h1:¬(len*kk.size>2 ^ 24):=by omega
 by_cases h0:len*kk.size=0
 ·have hf':Instr.fill (λi=>some (i*kk.size,kk.size)) #[] parts.toList=some cells:=by
   have e:mo (dI kk).toArray (len*kk.size)=#[]:=by
    apply Q6
    simp[mo,h0]
   rw[e]at hf
   exact hf
  have hr0:∀f:Nat->Value,Array.map f (Array.range 0)=#[]:=λf=>by apply Q6;simp
  simp[gu hu,he.info.sizeOf w,Result.andThen,h0,hr0,hf',newRow]
 ·have hf':Instr.fill (λi=>some (i*kk.size,kk.size)) ((Array.range (len*kk.size)).map λx=>(dI kk).toArray[x%(dI kk).toArray.size]!) parts.toList=some cells:=hf
  simp only[dG,gu hu,eZ,he.info.sizeOf w]
  rw[aj h1,aj h0]
  simp only[dG,dW,eZ,he.info.zero w,hzc,hf']
  simp[newRow,Result.andThen]
theorem aaV{kk:K}{len i:Nat}(hk:0<kk.size)(hz:(dI kk).length=kk.size)(hi:i<len):gH (mo (dI kk).toArray (len*kk.size)).toList kk.size i=dI kk:=by
 have hle:(i+1)*kk.size<=len*kk.size:=jC _ (by omega)
 rw[gX,kZ]at hle
 apply CX
 intro j
 by_cases hj:j<kk.size
 ·rw[qo hj,qW]
  unfold mo
  rw[Array.getElem?_map]
  have hlt:i*kk.size+j<len*kk.size:=by omega
  rw[Array.getElem?_range,ak hlt]
  simp only[gz,Al,hz]
  have hm:(i*kk.size+j)%kk.size=j:=by
   rw[Nat.mul_comm,Nat.mul_add_mod]
   exact Nat.mod_eq_of_lt hj
  rw[hm,getElem!_pos _ _ (by simp;omega)]
  simp[show j<(dI kk).length by omega]
 ·rw[qD (by rw[uQ (m:=len) (by simp[mo]) hi];omega),qD (by omega)]
theorem aeT{L:K->List TypeId}(hT:eG P T)(H:Rel cx Z J F a w)(hd:o.dst=some d)(hdn:d<cx.nt){t:TypeId}{len:Nat}{ps:Array (Nat×Operand)}
  (h:(match T.ty t with
   |some (.sl e kk)=>uI ps.toList λl=>Du kk l ⟨[],[],[],[],false,[]⟩ λb=>bif !(qw b.ws b.all&&Nat.ble (len*kk.size) 16777216)then .fail else bif Nat.beq (dz b.xs) len && !ah e b.bad then
     jD (aG d 0) (.ret (b.ws++[Wr.r (aG d 0) (some (bL (.sl e kk) b.xs (e :: dV (L kk) b.bad) b.tags .anon b.keep)),Wr.s d (.one (.ref (aG d 0) 0))]))
    else bif Nat.beq (dz b.xs) 0 then
     jD (aG d 0) (.ret [Wr.r (aG d 0) (some (bL (.sl e kk) (List.replicate len kk.zero) (e :: kk.tys) [] .anon)),Wr.s d (.one (.ref (aG d 0) 0))])
    else .fail
   |_=>(.fail:Prog (List Wr))).ends Z ws) (ho:o.op=.buildSlice t len ps):dn P cx o a w (aB ws Z):=by
 cases hty:T.ty t with
 |none=>rw[hty]at h;exact h.elim
 |some k0=>
  rw[hty]at h
  cases k0 with
  |sl e kk=>
   have ht:=hT.ty t _ hty
   obtain⟨hu,he,hk,_⟩:=ht.sl
   simp only at h
   obtain⟨vs,e1,h1,h2,h3⟩:=MQ H h
   obtain⟨tks,b',l1,l2,qh,xz,h4⟩:=afx H h1 h2 h3
   have hlen:vs.length=tks.length:=l1.symm
   have DZ:(vs.map (·.1)).length=tks.length:=by rw[oz];exact hlen
   have zA:((evs a ps.toList).map (·.2)).length=tks.length:=by rw[l2];exact hlen
   generalize hns:vs.map (·.1)=ns at *
   generalize hvv:(evs a ps.toList).map (·.2)=vals at *
   obtain⟨z1,z2,z3,z4⟩:=Q3 ns vals tks DZ zA
   obtain⟨f1,f2,f4,_,f6,_,f8,_,f9⟩:=afw _ xz
   simp only[jq]at f1
   have f9':b'.xs.length=tks.length:=by rw[f9];simp;omega
   have Ed:∀h ok own,Ow h own ok kk kk.zero (dI kk) []:=λh ok own=>zU he.fq
   have hzl:(dI kk).length=kk.size:=eO (Ed (hp w) (λ_=>True) [])
   have hzs:(mo (dI kk).toArray (len*kk.size)).size=len*kk.size:=by simp[mo]
   have hparts:((ps.map λ(p:Nat×Operand)=>(p.1,a.eval p.2)).toList)=ns.zip vals:=by
    rw[uf,<-hvv,e1]
    have:∀l:List (Nat×Operand),l.map (λp=>(p.1,a.eval p.2))=(l.map (·.1)).zip ((evs a l).map (·.2)):=by
     intro l
     induction l with
     |nil=>rfl
     |cons p l ih=>simp[evs]at ih ⊢;exact ih
    exact this _
   have VI:∀{cells:Array Value},len*kk.size<=16777216->Instr.fill (λi=>some (i*kk.size,kk.size)) (mo (dI kk).toArray (len*kk.size)) (ns.zip vals)=some cells->
     (execOp a.eval o).run P w=.ok (.value (.slice (some ⟨w.heap.size,0,none⟩) len len)) (w.alloc (.cells cells e)):=by
    intro cells hb hf
    have:=run_buildSlice (w:=w) ht (parts:=ps.map λ(p:Nat×Operand)=>(p.1,a.eval p.2)) hb (by rw[hparts];exact hf)
    simp only[execOp,ho,dG,this,eZ,dW]
   rcases bz h4 with⟨_,h5⟩|⟨hws,h5⟩
   ·exact h5.elim
   ·have pz:(qw b'.ws b'.all&&Nat.ble (len*kk.size) 16777216)=true:=by simpa using hws
    rw[bg]at pz
    have Vy:len*kk.size<=16777216:=GY pz.2
    have Bz:=pz.1
    unfold qw at Bz
    simp only[bg]at Bz
    have hw1:=Dk.1 Bz.1
    have hw2:=HV.1 Bz.2
    rw[f1,<-z4]at hw1 hw2
    rcases bz h5 with⟨hc,h6⟩|⟨_,h6⟩
    ·rw[bg]at hc
     have hxl:b'.xs.length=len:=by rw[<-nY];exact a_ hc.1
     have hbad:e∉b'.bad:=by have:=hc.2;simp only[jU,gq]at this;exact this
     obtain⟨g1,g2⟩:=nS h6
     rw[bu g2]
     obtain⟨J',F',hs,H',hA,hnd,hnF,M5,hS,_⟩:=takes (vals.zip tks) H qh hw1 (λtg dU=>hw2 tg (by
      obtain⟨it,hit,h6⟩:=nN.1 dU
      have:it∈(ns.zip (vals.zip tks)).map (·.2):=by rw[z1];exact hit
      obtain⟨q,hq,rfl⟩:=eD.1 this
      exact f2 (q.1,q.2.2) (by rw[<-z2];exact eD.2 ⟨q,hq,rfl⟩) tg h6))
     have xx:=hA
     rw[<-z1]at hA
     have ho2:∀t,ah t (e :: dV (L kk) b'.bad)=true->t∉b'.bad:=λt ht=>by
      rcases bH.1 (fA.1 ht)with h|h
      ·rw[h];exact hbad
      ·exact(nZ.1 (fA.2 h)).2
     obtain⟨gN,nQ,p1,p2⟩:=Qf (own':=e :: dV (L kk) b'.bad) (T:=b'.tags) (ns.zip (vals.zip tks)) hA
      (λit hit tg dU=>by
       cases hm:ah tg (e :: dV (L kk) b'.bad)with
       |false=>rfl
       |true=>exact absurd (f4 (it.1,it.2.2) (by rw[<-z2];exact eD.2 ⟨it,hit,rfl⟩) tg dU) (ho2 tg hm))
      (λit hit tg dU=>f6 (it.1,it.2.2) (by rw[<-z2];exact eD.2 ⟨it,hit,rfl⟩) tg dU)
     rw[z2,z3,z1]at p2
     have hzn:(ns.zip tks).map (·.1)=ns:=by rw[List.map_fst_zip (by omega)]
     obtain⟨cells',c1,c2,c3,c4⟩:=afv (N:=len) (ns.zip tks) (b:=⟨[],[],[],[],false,[]⟩) (cells:=mo (dI kk).toArray (len*kk.size)) (au:=[]) (by simp;omega) hzs rfl (λi hi=>by simp at hi) p2 xz
     rw[hzn]at c1
     simp only[jq]at c3 c4
     have hrun:=VI Vy c1
     have kU:=p1.nodup hnd
     have n2:=dA.1 kU
     have hin:∀b∈hs.flatMap (·.2),b∈F':=Iw xx
     have hwt:fC (aB (cO (vals.zip tks)) Z) b'.tags:=by
      intro tg dU
      rcases f8 tg dU with h|⟨q,hq,hq2⟩
      ·simp at h
      ·rw[<-z2]at hq
       obtain⟨it,hit,rfl⟩:=eD.1 hq
       have hit2:it.2∈vals.zip tks:=by rw[<-z1];exact eD.2 ⟨it,hit,rfl⟩
       exact Ck (Iy xx it.2 hit2) tg hq2
     have hnr:=QL g1 qh
     have hn1:(aB (cO (vals.zip tks)) Z).roots (aG d 0)=none:=by rw[(hS _ hnr).root];exact g1
     have BA:b'.ws=cO (vals.zip tks):=by rw[f1,z4]
     obtain⟨fZ,F2,k1,k2⟩:=Z6 (r:=aG d 0) (e:=e) (k:=kk) (xs:=b'.xs) (own:=e :: dV (L kk) b'.bad) (tags:=b'.tags) (arr:=cells') (lo:=0) (hi:=0) (n:=len) (c:=len) (au:=gN) (F1:=F'.filter λb=>!ah b (gN.flatten++nQ)) H' hn1 (nX d 0)
      hwt (fA.2 (by simp)) iE.zero hxl.symm (bT _) (by rw[c2];exact bT _) c3 (λb hb=>hin b (p1.mem_iff.2 (by simp[hb]))) n2.1
      (λb hb=>by
       rw[iU]at hb
       have:=hb.2
       simp only[jU,gq,cZ,not_or]at this
       exact⟨hb.1,this.1⟩) (H'.gD.filter _)
      (λi hi=>by
       have hsl:(gH cells'.toList kk.size i).length=kk.size:=uQ (m:=len) (by rw[Ky,c2]) (by omega)
       refine⟨_,hsl,λj hj=>?_,dK (λ_ _=>rfl) (λb hb=>?_) (λ_ _=>rfl) (c4 i hi)⟩
       ·rw[hsl]at hj
        rw[qo hj,qW]
       ·rcases hb with hb|hb
        ·exact .inl hb
        ·refine .inr ⟨hin b (p1.mem_iff.2 (by simp[hb])),λh=>?_,λh=>n2.2.2 b h b hb rfl⟩
         rw[iU]at h
         have:=h.2
         simp only[jU,gq,cZ,not_or]at this
         exact this.2 hb) b'.keep w.drawn
     rw[BA,mF]
     exact nk (x:=.one (.ref (aG d 0) 0)) k1 hd hdn hrun k2 ⟨_,fF ..,.inr (dY _)⟩
    ·rcases bz h6 with⟨hc,h7⟩|⟨_,h7⟩
     ·obtain⟨g1,g2⟩:=nS h7
      rw[bu g2]
      have hxl:b'.xs.length=0:=by rw[<-nY];exact a_ hc
      have ht0:tks=[]:=qB (by omega)
      have hv0:vals=[]:=qB (by rw[ht0]at zA;simpa using zA)
      have hrun:=VI (cells:=mo (dI kk).toArray (len*kk.size)) Vy (by rw[hv0];simp[Instr.fill])
      obtain⟨fZ,F2,k1,k2⟩:=Qk (r:=aG d 0) (e:=e) (k:=kk) (xs:=List.replicate len kk.zero) (own:=e :: kk.tys) (arr:=mo (dI kk).toArray (len*kk.size)) (lo:=0) (hi:=0) (n:=len) (c:=len) H g1 (nX d 0)
       (fA.2 (by simp)) iE.zero (by simp) (bT _) (by rw[hzs];exact bT _)
       (λi hi=>by
        have hi':i<len:=by simpa using hi
        refine⟨dI kk,hzl,λj hj=>?_,λh ok=>?_⟩
        ·have hs:=congrArg (λl=>l[j]?) (aaV hk hzl hi')
         rw[qo (by omega),qW]at hs
         exact hs
        ·have:(List.replicate len kk.zero)[i]'hi=kk.zero:=by simp
         rw[this]
         exact Ed h ok _) false w.drawn
      exact nk (x:=.one (.ref (aG d 0) 0)) k1 hd hdn hrun k2 ⟨_,fF ..,.inr (dY _)⟩
     ·exact h7.elim
  |_=>exact h.elim
end
section
variable {P:Program}{T:bF}{cx:Cx}{Z:St}{J:aF}{F:List Nat}{a:Act}{w:World}{o:Oper}{d:Nat}{ws:List Wr}{r:Nat}{R:Root}
abbrev qQ(R:Root)(e:TypeId)(kk:K)(ys:List (El kk)):Root:={ R with k:=.sl e kk,x:=ys,w:=e :: R.w }
theorem Qn(H:Rel cx Z J F a w)(hr:aU Z r R)(hv:cz Z R)(hk:R.kind=.anon){e:TypeId}{kk:K}{xs ys:List (El kk)}(hq:(⟨R.k,R.x⟩:Dat)=⟨.sl e kk,xs⟩)(hf:kk.flat=true)(hl:ys.length=xs.length){w':World}
  (hos:w'.os=w.os/\w'.tape=w.tape/\w'.output=w.output) (hsize:w.heap.size<=w'.heap.size) (oF:∀b,hp w' b≠hp w b->b∈J.fo r/\h_ (hp w) b=some e) (how:∀ok,Ow (hp w') R.own ok (.sl e kk) ys (J.hdr r) (J.fo r)) :
  Rel cx (aL Z r (qQ R e kk ys)) (aW J r (J.loc r) (J.hdr r) (J.fo r)) [] a w'/\
   ∀g v,g<=R.g->aR cx Z J F w (.ref r g) v->aR cx (aL Z r (qQ R e kk ys)) (aW J r (J.loc r) (J.hdr r) (J.fo r)) [] w' (.ref r g) v:=by
 have hblk:blk J R r=J.fo r:=by simp[blk,aK,hk]
 have hk':(qQ R e kk ys).kind=.anon:=hk
 have hRk:R.k=.sl e kk:=congrArg (λq:Dat=>q.1) hq
 have hd':(qQ R e kk ys).bV=false:=by simp[Root.bV,hk]
 have K0:=H.roots r R hr
 have hnt:=H.fu r R hr.1
 have qL:∀g v,g<=R.g->aR cx Z J F w (.ref r g) v->aR cx (aL Z r (qQ R e kk ys)) (aW J r (J.loc r) (J.hdr r) (J.fo r)) [] w' (.ref r g) v:=by
  intro g v _ hold Q hQ hg
  obtain⟨rfl,_⟩:=nE hQ
  obtain⟨h1,h2⟩:=hold R hr hg
  refine⟨h1,?_⟩
  simp only[aW,upd_same]
  rw[hRk]at h2
  exact h2
 have T1:sH cx Z J F w r R (qQ R e kk ys) (J.fo r) [] w' [e] []:=by
  refine⟨.inr ⟨rfl,rfl,bT _,rfl,λh=>by rw[hk]at h;simp at h,.inl (by simp)⟩,⟨λt ht=>hnt.1 t ht,λn hn=>hnt.2.2 n hn⟩,hos,hsize,λb hb hne=>?_,λ_ b hb=>?_,λb hb=>by simp at hb,lM,λ_ b _ h=>by simp at h,λj pi b o n hj hb Br hne=>?_,λ_=>⟨rfl,rfl⟩⟩
  ·obtain⟨h1,h2⟩:=oF b hne
   exact .inr ⟨by rw[hblk];exact h1,.inr (.inl ⟨e,by simp,h2⟩)⟩
  ·rw[o7 hk']at hb
   rw[hblk]
   exact .inl hb
  ·obtain⟨Q,hQ,hkq,_,_⟩:=H.jT j pi b o n hj hb
   have hQR:Q=R:=by have:=hQ.1;rw[<-Br,hr.1]at this;simpa using this.symm
   rw[hQR,hk]at hkq
   simp at hkq
 refine⟨T1.rel H hr (λ_=>⟨λ_=>how _,by rw[K0.len,hRk],λb o hb=>by rw[Cs hk']at hb;simp at hb,by rw[o7 hk',<-hblk];exact K0.nd⟩) ?_ (λ_=>qL),qL⟩
 intro _ p n v hn hold
 refine⟨hold.1,λQ hQ lF hcl hty hs=>?_⟩
 rw[fF]at hQ
 simp only[aa]at hQ
 subst hQ
 cases p with
 |nil=>
  obtain⟨_,cs,b,o,h1,_⟩:=hold.2 R hr.1 hv (by simp[clean,iD,ah]) (λt ht=>by simp[az]at ht) rfl
  simp only[aN,aa,bK]at h1
  have:aK J R r=none:=by simp[aK,hk]
  rw[this]at h1
  simp at h1
 |cons s q=>
  have hcl':clean R.h n (iD (s :: q) R.k)=true:=by rw[hRk];exact hcl
  obtain⟨g1,cs,b,o,g2,g3⟩:=hold.2 R hr.1 hv hcl' (λt ht=>hty t (by rw[hRk]at ht;exact ht)) (by
   have h9:(aA (s :: q) (.sl e kk) ys).isSome=true:=hs
   rw[zb (s :: q) (y:=xs)]at h9
   have:=congrArg (λd:Dat=>(aA (s :: q) d.1 d.2).isSome) hq
   exact this.trans h9)
  have g1:=cast (congrArg (λd:Dat=>bM (s :: q) d.1 d.2) hq) g1
  simp only at g1
  cases s with
  |aP m=>exact g1.elim
  |idx i=>
   obtain⟨p1,p2,p3⟩:=g1
   rw[hRk]at g2
   have hwn:aK J R r=none:=by simp[aK,hk]
   have aib:aK (aW J r (J.loc r) (J.hdr r) (J.fo r)) (qQ R e kk ys) r=none:=by
    have hkk:(qQ R e kk ys).kind=R.kind:=rfl
    unfold aK
    rw[hkk,hk]
   have hd2:(aW J r (J.loc r) (J.hdr r) (J.fo r)).hdr r=J.hdr r:=by simp[aW,upd_same]
   rw[aib,hd2]
   simp only[aN]at g2
   split at g2
   ·rename_i ad m c hh
    obtain⟨k1,c1,k2⟩:=Fe (h':=hp w') (own:=[]) q (y:=(show List (El kk)from ys).getD i.toNat kk.zero) (cs':=gZ (hp w') ad.block (ad.off+i.toNat*kk.size) kk.size) p3 (λt ht=>by
     have:=xO q t ht
     rw[A8 hf]at this
     simp at this) g2
    refine⟨⟨p1,?_,k1⟩,c1,b,o,?_,g3⟩
    ·show i<((ys.length:Nat):Int)
     have:i<((xs.length:Nat):Int):=p2
     omega
    ·show aN (hp w') (.idx i :: q) (.sl e kk) (J.hdr r) none=_
     rw[hh]
     simp only[aN]
     exact k2
   ·simp at g2
theorem adx{own:List TypeId}{ok:Nat->Prop}{e:TypeId}{kk:K}{xs zs:List (El kk)}{b q n c s:Nat}{fo:List Nat}{news:List Value}(hf:kk.flat=true)(he:ah e own=true)(hs:s+zs.length<=xs.length)(hz:0<zs.length)(hkk:0<kk.size)
  (H:Ow (hp w) own ok (.sl e kk) xs [.slice (some ⟨b,q,none⟩) n c] fo) (hnl:news.length=zs.length*kk.size) (hel:∀i (hi:i<zs.length),Vw (hp w) (λ_=>True) kk zs[i] (gH news kk.size i)) (h1:∀v∈news,v.oneCell'=true) :
  (storeCells ⟨b,q+s*kk.size,none⟩ news).run P w=.ok () (w.setCells b (q+s*kk.size) news)/\b∈fo/\h_ (hp w) b=some e/\(∀b',b'≠b->hp (w.setCells b (q+s*kk.size) news) b'=hp w b')/\(w.setCells b (q+s*kk.size) news).heap.size=w.heap.size/\
   ∀ok',Ow (hp (w.setCells b (q+s*kk.size) news)) own ok' (.sl e kk) (xs.take s++zs++xs.drop (s+zs.length)) [.slice (some ⟨b,q,none⟩) n c] fo:=by
 unfold Ow at H
 rw[ak he]at H
 obtain⟨a0,n',c',e1,e2,e3,H⟩:=H
 simp only[gQ,mE,dZ]at e1
 obtain⟨rfl,rfl,rfl⟩:=e1
 have e2:n=xs.length:=e2
 rcases H with⟨hc,_⟩|⟨bb,q',arr,lo,hi,ea,hb,hfr,hsz,au,hl,hp0,H⟩
 ·omega
 ·simp only[aa,oP,dZ]at ea
  obtain⟨rfl,rfl⟩:=ea
  have hm:(s+zs.length)*kk.size<=c*kk.size:=jC _ (by omega)
  rw[gX]at hm
  have hle:q+s*kk.size+news.length<=arr.size:=by rw[hnl];omega
  have hst:=FH (P:=P) (o:=q+s*kk.size) news hb hfr hle h1
  obtain⟨s1,s2,fD,s3,s4,s5,s6⟩:=Cf b news w arr e (lo,hi) (q+s*kk.size) hb hle
  have h0:∀l∈au,l=[]:=by
   intro l hl'
   obtain⟨i,hi',rfl⟩:=u_.1 hl'
   have hl:au.length=xs.length:=hl
   obtain⟨ds,_,h2⟩:=H i (by show i<xs.length;omega)
   have:=Tt hf h2
   rw[<-this];simp[gy,hi']
  have hg0:∀i,au.getD i []=[]:=λi=>by
   by_cases hi:i<au.length
   ·have:=h0 (au[i]) (nM hi)
    simp[gy,hi,this]
   ·simp[gy,hi]
  refine⟨hst,hp0.mem_iff.2 (by simp),by unfold h_;rw[hb],s1,s2,λok'=>?_⟩
  unfold Ow
  rw[ak he]
  have hlen:(xs.take s++zs++xs.drop (s+zs.length)).length=xs.length:=by simp;omega
  refine⟨_,_,_,rfl,by show n=(xs.take s++zs++xs.drop (s+zs.length)).length;omega,e3,.inr ⟨b,q,fD,lo,hi,rfl,s3,by rw[s4];exact hfr,by rw[s4];exact hsz,au,by show au.length=(xs.take s++zs++xs.drop (s+zs.length)).length;rw[hlen];exact hl,hp0,λi hi=>?_⟩⟩
  rw[hg0]
  have hi':i<xs.length:=by have:i<(xs.take s++zs++xs.drop (s+zs.length)).length:=hi;omega
  have hcell:∀t,cellAt (hp (w.setCells b (q+s*kk.size) news)) b t=fD[t]?:=λt=>by unfold cellAt;rw[s3]
  have hcell0:∀t,cellAt (hp w) b t=arr[t]?:=λt=>by unfold cellAt;rw[hb]
  by_cases hin:s<=i/\i<s+zs.length
  ·have hx:(show List (El kk)from xs.take s++zs++xs.drop (s+zs.length))[i]'hi=zs[i-s]'(by omega):=by
    show(xs.take s++zs++xs.drop (s+zs.length))[i]'hi=_
    rw[yE (by simp;omega),GR (by simp;omega)]
    congr 1
    simp
    omega
   rw[hx]
   have hlt:i-s<zs.length:=by omega
   have hv:=hel (i-s) hlt
   refine⟨gH news kk.size (i-s),λj hj=>?_,yH (λt ht=>?_) (kL hf hv)⟩
   ·rw[uQ hnl hlt]at hj
    rw[hcell,qo hj]
    have hb2:(i-s+1)*kk.size<=zs.length*kk.size:=jC _ (by omega)
    rw[gX,kZ]at hb2
    have hi2:i*kk.size=s*kk.size+(i-s)*kk.size:=by rw[<-gX];congr 1;omega
    rw[show q+i*kk.size+j=q+s*kk.size+((i-s)*kk.size+j) by omega]
    exact s5 _ (by rw[hnl];omega)
   ·rw[A8 hf]at ht;simp at ht
  ·have hx:(show List (El kk)from xs.take s++zs++xs.drop (s+zs.length))[i]'hi=xs[i]'hi':=by
    show(xs.take s++zs++xs.drop (s+zs.length))[i]'hi=_
    by_cases hlt:i<s
    ·rw[yE (by simp;omega),yE (by simp;omega)]
     simp
    ·rw[GR (by simp;omega)]
     simp only[List.getElem_drop]
     congr 1
     simp
     omega
   rw[hx]
   obtain⟨ds,g1,g2⟩:=H i hi'
   have hg:=hg0 i
   rw[hg]at g2
   refine⟨ds,λj hj=>?_,yH (λt ht=>by rw[A8 hf]at ht;simp at ht) (kL hf (oC (λ_=>True) (λ_ _=>trivial) (λ_ _=>trivial) g2))⟩
   rw[hcell]
   have hj':=g1 j hj
   rw[hcell0]at hj'
   rw[<-hj']
   have hds:=eO g2
   refine s6 _ λhc=>hin ?_
   rw[hnl]at hc
   constructor
   ·refine jI λh=>?_
    have:(i+1)*kk.size<=s*kk.size:=jC _ (by omega)
    rw[gX,kZ]at this
    omega
   ·refine jI λh=>?_
    have:(s+zs.length)*kk.size<=i*kk.size:=jC _ (by omega)
    rw[gX]at this
    omega
end
section
variable {P:Program}{T:bF}{cx:Cx}{Z:St}{J:aF}{F:List Nat}{a:Act}{w:World}{o:Oper}{d:Nat}{ws:List Wr}{r:Nat}{R:Root}
theorem Ql(H:Rel cx Z J F a w)(hr:aU Z r R)(hv:cz Z R)(hk:R.kind=.anon){e:TypeId}{kk:K}{xs zs:List (El kk)}{s:Nat}(hq:(⟨R.k,R.x⟩:Dat)=⟨.sl e kk,xs⟩)(hf:kk.flat=true)(he:ah e R.own=true)(hkk:0<kk.size)(hs:s+zs.length<=xs.length)
  {b:Option Addr} {n c:Nat} (hh:J.hdr r=[.slice b n c]) {bb:Option Addr} (hbb:0<zs.length->bb=b.map (·.add (s*kk.size)))
  {news:List Value} (hnl:news.length=zs.length*kk.size) (hel:∀i (hi:i<zs.length),Vw (hp w) (λ_=>True) kk zs[i] (gH news kk.size i)) (h1:∀v∈news,v.oneCell'=true) :
  ∃w',(∀ad,bb=some ad->(storeCells ad news).run P w=.ok () w')/\(zs.length=0->w'=w)/\(0<zs.length->∃ad,bb=some ad)/\
   Rel cx (aL Z r (qQ R e kk (xs.take s++zs++xs.drop (s+zs.length)))) (aW J r (J.loc r) (J.hdr r) (J.fo r)) [] a w'/\
   ∀g v,g<=R.g->aR cx Z J F w (.ref r g) v->aR cx (aL Z r (qQ R e kk (xs.take s++zs++xs.drop (s+zs.length)))) (aW J r (J.loc r) (J.hdr r) (J.fo r)) [] w' (.ref r g) v:=by
 have hRk:R.k=.sl e kk:=congrArg (λq:Dat=>q.1) hq
 have hO:Ow (hp w) R.own (aO cx Z J F w R.tags) (.sl e kk) xs [.slice b n c] (J.fo r):=by
  have:=cast (congrArg (λq:Dat=>Ow (hp w) R.own (aO cx Z J F w R.tags) q.1 q.2 (J.hdr r) (J.fo r)) hq) ((H.roots r R hr).ow hv)
  simp only at this
  rw[hh]at this
  exact this
 by_cases hz:0<zs.length
 ·have hb0:∃bk q,b=some ⟨bk,q,none⟩:=by
   have lC:=hO
   unfold Ow at lC
   rw[ak he]at lC
   obtain⟨a0,n',c',e1,e2,e3,H'⟩:=lC
   simp only[gQ,mE,dZ]at e1
   obtain⟨rfl,rfl,rfl⟩:=e1
   have e2:n=xs.length:=e2
   rcases H' with⟨hc,_⟩|⟨bk,q,arr,lo,hi,ea,_⟩
   ·omega
   ·exact⟨bk,q,ea⟩
  obtain⟨bk,q,rfl⟩:=hb0
  obtain⟨g1,g2,g3,g4,g5,g6⟩:=adx (P:=P) (w:=w) hf he hs hz hkk hO hnl hel h1
  have hb1:bb=some ⟨bk,q+s*kk.size,none⟩:=by rw[hbb hz];simp[addr_add]
  obtain⟨r1,r2⟩:=Qn (w':=w.setCells bk (q+s*kk.size) news) H hr hv hk (ys:=xs.take s++zs++xs.drop (s+zs.length)) hq hf (by simp;omega) (Cg _ _ _ _) (by omega)
   (λb' hb'=>by
    by_cases e:b'=bk
    ·subst e;exact⟨g2,g3⟩
    ·exact absurd (g4 b' e) hb') (λok=>by rw[hh];exact g6 ok)
  exact⟨_,λad ha=>by rw[hb1]at ha;simp only[aa]at ha;subst ha;exact g1,λh=>by omega,λ_=>⟨_,hb1⟩,r1,r2⟩
 ·have hz0:zs=[]:=qB (by omega)
  subst hz0
  have hn0:news=[]:=qB (by simpa using hnl)
  subst hn0
  have hys:xs.take s++[]++xs.drop (s+([]:List (El kk)).length)=xs:=by simp
  obtain⟨r1,r2⟩:=Qn (w':=w) H hr hv hk (ys:=xs.take s++[]++xs.drop (s+([]:List (El kk)).length)) hq hf (by simp) ⟨rfl,rfl,rfl⟩ (bT _) (λb' hb'=>absurd rfl hb') (λok=>by
   rw[hys,hh]
   have hO2:=lq (ok':=ok) (om (k:=.sl e kk) (own:=R.own) (λt ht=>by simp only[K.tys,A8 hf,gW]at ht;subst ht;exact he)) hO
   exact hO2)
  exact⟨w,λad _=>by cases ad;rfl,λ_=>rfl,λh=>by simp at h,r1,r2⟩
end
section
variable {P:Program}{T:bF}{cx:Cx}{Z:St}{J:aF}{F:List Nat}{a:Act}{w:World}{o:Oper}{d:Nat}{ws:List Wr}{r:Nat}{R:Root}
theorem BU{A:Type}{z:A}{g:Nat}{k:Root->(e:TypeId)->(kk:K)->List (El kk)->Prog A}(h:(ownRow r g k).ends Z z) :
  ∃R e kk xs,aU Z r R/\cz Z R/\R.g=g/\(⟨R.k,R.x⟩:Dat)=⟨.sl e kk,xs⟩/\kk.flat=true/\ah e R.own=true/\(k R e kk xs).ends Z z:=by
 unfold ownRow at h
 obtain⟨R,hr,hv,h⟩:=gJ h
 rcases bz h with⟨hg,h⟩|⟨_,h⟩
 ·have hK:∀q:Dat,(⟨R.k,R.x⟩:Dat)=q->(match q.1,q.2 with
    |.sl e kk,xs=>bif kk.flat&&ah e R.own then k R e kk (show List (El kk)from xs)else .fail
    |_,_=>Prog.fail).ends Z z->∃R e kk xs,aU Z r R/\cz Z R/\R.g=g/\(⟨R.k,R.x⟩:Dat)=⟨.sl e kk,xs⟩/\kk.flat=true/\ah e R.own=true/\(k R e kk xs).ends Z z:=by
   intro q hq hh
   obtain⟨qk,qx⟩:=q
   cases qk with
   |sl e kk=>
    simp only at hh
    rcases bz hh with⟨hc,hh⟩|⟨_,hh⟩
    ·simp only[bg]at hc
     exact⟨R,e,kk,qx,hr,hv,a_ hg,hq,hc.1,hc.2,hh⟩
    ·exact hh.elim
   |_=>exact hh.elim
  exact hK _ rfl h
 ·exact h.elim
theorem Cb(H:Rel cx Z J F a w)(hr:aU Z r R)(hv:cz Z R){e:TypeId}{kk:K}{xs:List (El kk)}(hq:(⟨R.k,R.x⟩:Dat)=⟨.sl e kk,xs⟩)(he:ah e R.own=true){v:Value}(h:VC R.k v (J.hdr r)) :
  ∃b n c,v=.slice b n c/\J.hdr r=[.slice b n c]/\n=xs.length/\n<=c:=by
 have hO:=cast (congrArg (λq:Dat=>Ow (hp w) R.own (aO cx Z J F w R.tags) q.1 q.2 (J.hdr r) (J.fo r)) hq) ((H.roots r R hr).ow hv)
 have hV:VC (.sl e kk) v (J.hdr r):=cast (congrArg (λq:Dat=>VC q.1 v (J.hdr r)) hq) h
 simp only at hO
 unfold Ow at hO
 rw[ak he]at hO
 obtain⟨b,n,c,e1,e2,e3,_⟩:=hO
 rw[hV.1]at e1
 simp only[gQ,dZ]at e1
 exact⟨b,n,c,e1,by rw[hV.1,e1],e2,e3⟩
theorem an8{len cap:Nat}{lo hi:Option Int}{l h:Option Value}(hl:lo=none->l=none)(hl':∀j,lo=some j->∃ik,l=some (.int ik j))(hh:hi=none->h=none)(hh':∀j,hi=some j->∃ik,h=some (.int ik j))
  (h0:0<=lo.getD 0) (h1:lo.getD 0<=hi.getD (len:Int)) (h2:hi.getD (len:Int)<=(cap:Int)) :
  (Instr.sliceBounds true len cap l h none).run P w=.ok ((lo.getD 0).toNat,(hi.getD (len:Int)).toNat,cap) w:=by
 unfold Instr.sliceBounds
 cases hi with
 |none=>
  rw[hh rfl]
  simp only[Aq]at h1 h2
  cases lo with
  |none=>rw[hl rfl];simp
  |some j=>
   obtain⟨ik,e⟩:=hl' j rfl
   simp only[sF]at h0 h1
   rw[e]
   simp[Instr.sliceBound,asIntOf,h0,h1]
 |some i=>
  obtain⟨ik,e⟩:=hh' i rfl
  simp only[sF]at h1 h2
  have f1:0<=i:=by omega
  rw[e]
  cases lo with
  |none=>rw[hl rfl];simp[Instr.sliceBound,asIntOf,f1,h2]
  |some j=>
   obtain⟨IW,e2⟩:=hl' j rfl
   simp only[sF]at h0 h1
   have g3:j<=max i 0:=by omega
   rw[e2]
   simp[Instr.sliceBound,asIntOf,f1,h2,h0]
   omega
theorem Qr{t e:TypeId}{k:K}(ht:cK P T t (.sl e k)){b:Option Addr}{n c:Nat}{lo hi:Option Int}{l h:Option Value}(hl:lo=none->l=none)(hl':∀j,lo=some j->∃ik,l=some (.int ik j))(hh:hi=none->h=none)(hh':∀j,hi=some j->∃ik,h=some (.int ik j))
  (h0:0<=lo.getD 0) (h1:lo.getD 0<=hi.getD (n:Int)) (h2:hi.getD (n:Int)<=(c:Int)) :
  (Instr.sliceAt t (.slice b n c) l h none).run P w=.ok (.slice (if c=(lo.getD 0).toNat then b else b.map (·.add ((lo.getD 0).toNat*k.size))) ((hi.getD (n:Int)).toNat-(lo.getD 0).toNat) (c-(lo.getD 0).toNat)) w:=by
 obtain⟨hu,he,_,_⟩:=ht.sl
 unfold Instr.sliceAt Instr.slice
 simp only[dG,gu hu,Result.andThen,an8 (w:=w) hl hl' hh hh' h0 h1 h2,he.info.sizeOf w,dW]
theorem add_add(b:Option Addr)(m n:Nat):(b.map (·.add m)).map (·.add n)=b.map (·.add (m+n)):=by
 cases b with
 |none=>rfl
 |some ad=>obtain⟨x,y,z⟩:=ad;by_cases hm:m=0<;>by_cases hn:n=0<;>simp[Addr.add,hm,hn,nO]
theorem add_zero(b:Option Addr):b.map (·.add 0)=b:=by
 cases b with
 |none=>rfl
 |some ad=>obtain⟨x,y,z⟩:=ad;simp[Addr.add]
theorem aas{h:Heap}{own:List TypeId}{ok:Nat->Prop}{e:TypeId}{kk:K}{xs:List (El kk)}{cs:List Value}{fo:List Nat}(H:Ow h own ok (.sl e kk) xs cs fo):∃b m c,cs=[.slice b m c]/\m=xs.length/\m<=c:=by
 unfold Ow at H
 split at H
 ·obtain⟨b,m,c,e1,e2,e3,_⟩:=H
  exact⟨b,m,c,e1,e2,e3⟩
 ·obtain⟨_,b,m,c,e1,e2,e3,_⟩:=H
  exact⟨b,m,c,e1,e2,e3⟩
theorem afd(hT:eG P T)(H:Rel cx Z J F a w)(hd:o.dst=some d)(hdn:d<cx.nt){t:TypeId}{x:Operand}{lo hi mx:Option Operand}
  (h:(match T.ty t with
   |some kk=>dP x λa=>rO lo λlo=>rO hi λhi=>rO mx λmx=>Fx kk a lo hi mx λu=>.ret [Wr.s d (.one u)]
   |none=>(.fail:Prog (List Wr))).ends Z ws) (ho:o.op=.slice t x lo hi mx):dn P cx o a w (aB ws Z):=by
 cases hty:T.ty t with
 |none=>rw[hty]at h;exact h.elim
 |some k0=>
  rw[hty]at h
  have ht:=hT.ty t k0 hty
  obtain⟨u,h1,h2,h⟩:=iW H h
  obtain⟨lo',h,l1,l2⟩:=Fv H h
  obtain⟨hi',h,g1,g2⟩:=Fv H h
  obtain⟨mx',h,m1,m2⟩:=Fv H h
  have hl:lo'=none->lo.map a.eval=none:=λe=>by rw[l1.1 e];rfl
  have hh:hi'=none->hi.map a.eval=none:=λe=>by rw[g1.1 e];rfl
  cases u with
  |ref r g=>
   simp only[Fx]at h
   obtain⟨R,e,kk,xs,hr,hv,hg,hq,hf,he,h⟩:=BU h
   rcases bz h with⟨hk0,h5⟩|⟨_,h5⟩
   ·clear h
    have ek:=K.eq_of_beq hk0
    subst ek
    obtain⟨hka,iX⟩:=h1 R hr hg
    obtain⟨b,n,c,ev,eh,en,hnc⟩:=Cb H hr hv hq he iX
    cases mx' with
    |none=>
     have hmx:mx.map a.eval=none:=by rw[m1.1 rfl];rfl
     obtain⟨⟨c1,c2,c3⟩,h6⟩:=h5
     rw[bu h6]
     have hrun:=Qr (P:=P) (w:=w) (b:=b) (n:=n) (c:=c) ht hl l2 hh g2 c1 (by rw[en];exact c2) (by rw[en];omega)
     refine eP (x:=.one (.part r g (lo'.getD 0).toNat (hi'.getD (xs.length:Int)).toNat kk.size)) H hd hdn (v:=.slice (if c=(lo'.getD 0).toNat then b else b.map (·.add ((lo'.getD 0).toNat*kk.size))) ((hi'.getD (n:Int)).toNat-(lo'.getD 0).toNat) (c-(lo'.getD 0).toNat)) ?_ ?_ ⟨R,hr.1,.inr (by omega)⟩
     ·simp only[execOp,ho,ev,hmx,dG,hrun,eZ,dW]
     ·refine⟨_,b,n,c,by rw[en],?_,by omega,by rw[en];omega,hnc,?_⟩
      ·rintro(h0|h0)
       ·rw[h0];simp[add_zero]
       ·rw[aj h0]
      ·rw[<-ev];exact h1
    |some m=>
     obtain⟨jk,hmx⟩:=m2 m rfl
     simp only at h5
     rcases bz h5 with⟨hs,h6⟩|⟨_,h6⟩
     ·obtain⟨⟨c1,c2,c3,c4⟩,h7⟩:=h6
      rw[bu h7]
      cases hi' with
      |none=>simp at hs
      |some i=>
       obtain⟨ik,ehi⟩:=g2 i rfl
       simp only[sF]at c2 c3
       obtain⟨hu,he',_,_⟩:=ht.sl
       have c5:m<=(c:Int):=by omega
       have hrun:∃v,(Instr.sliceAt t (.slice b n c) (lo.map a.eval) (hi.map a.eval) (mx.map a.eval)).run P w=.ok v w:=by
        unfold Instr.sliceAt Instr.slice Instr.sliceBounds
        rw[hmx,ehi]
        cases lo' with
        |none=>
         rw[hl rfl]
         simp only[Aq]at c1 c2
         refine⟨.slice (if m.toNat=0 then b else b.map (·.add (0*kk.size))) (i.toNat-0) (m.toNat-0),?_⟩
         simp[gu hu,Instr.sliceBound,asIntOf,c5,c3,he'.info.sizeOf w,show 0<=m by omega,show 0<=i by omega,show(i<=max m 0) by omega,Result.andThen]
        |some j=>
         obtain⟨lk,elo⟩:=l2 j rfl
         rw[elo]
         simp only[sF]at c1 c2
         refine⟨.slice (if m.toNat=j.toNat then b else b.map (·.add (j.toNat*kk.size))) (i.toNat-j.toNat) (m.toNat-j.toNat),?_⟩
         simp[gu hu,Instr.sliceBound,asIntOf,c5,c3,c1,he'.info.sizeOf w,show 0<=m by omega,show 0<=i by omega,show(i<=max m 0) by omega,show(j<=max i 0) by omega,Result.andThen]
       obtain⟨v,hrun⟩:=hrun
       exact eP (x:=.one .undef) H hd hdn (v:=v) (by simp only[execOp,ho,ev,dG,hrun,eZ,dW]) trivial trivial
     ·exact h6.elim
   ·exact h5.elim
  |part r g l0 h0 sz=>
   simp only[Fx]at h
   obtain⟨R,e,kk,xs,hr,hv,hg,hq,hf,he,h⟩:=BU h
   rcases bz h with⟨hk0,h5⟩|⟨_,h5⟩
   ·clear h
    simp only[bg]at hk0
    have ek:=K.eq_of_beq hk0.1.1
    subst ek
    have hsz:kk.size=sz:=a_ hk0.1.2
    subst hsz
    cases mx' with
    |some m=>simp at hk0
    |none=>
     have hmx:mx.map a.eval=none:=by rw[m1.1 rfl];rfl
     obtain⟨⟨c1,c2,c3⟩,h6⟩:=h5
     rw[bu h6]
     obtain⟨b',b,n,c,ev,eb,e2,e3,e4,hrf⟩:=h1
     obtain⟨hka,iX⟩:=hrf R hr hg
     obtain⟨b2,n2,c2',ry,eh,en,hnc⟩:=Cb H hr hv hq he iX
     simp only[mE]at ry
     obtain⟨rfl,rfl,rfl⟩:=ry
     have hrun:=Qr (P:=P) (w:=w) (b:=b') (n:=h0-l0) (c:=c-l0) ht hl l2 hh g2 c1 c2 (by omega)
     refine eP (x:=.one (.part r g (l0+(lo'.getD 0).toNat) (l0+(hi'.getD ((h0-l0:Nat):Int)).toNat) kk.size)) H hd hdn
      (v:=.slice (if c-l0=(lo'.getD 0).toNat then b' else b'.map (·.add ((lo'.getD 0).toNat*kk.size))) ((hi'.getD ((h0-l0:Nat):Int)).toNat-(lo'.getD 0).toNat) (c-l0-(lo'.getD 0).toNat)) ?_ ?_ ⟨R,hr.1,.inr (by omega)⟩
     ·simp only[execOp,ho,ev,hmx,dG,hrun,eZ,dW]
     ·refine⟨if c-l0=(lo'.getD 0).toNat then b' else b'.map (·.add ((lo'.getD 0).toNat*kk.size)),b,n,c,?_,?_,by omega,by rw[en];omega,e4,hrf⟩
      ·rw[show l0+(hi'.getD ((h0-l0:Nat):Int)).toNat-(l0+(lo'.getD 0).toNat)=(hi'.getD ((h0-l0:Nat):Int)).toNat-(lo'.getD 0).toNat by omega,show c-(l0+(lo'.getD 0).toNat)=c-l0-(lo'.getD 0).toNat by omega]
      ·rintro(h0'|h0')
       ·have z1:l0=0:=by omega
        have z2:(lo'.getD 0).toNat=0:=by omega
        rw[eb (.inl z1),z1,z2]
        simp[add_zero]
       ·rw[aj (by omega)]
        rw[eb (by omega),add_add,gX]
   ·exact h5.elim
  |dJ r p n=>
   simp only[Fx]at h
   rcases bz h with⟨hmn,h5⟩|⟨_,h5⟩
   ·clear h
    cases mx' with
    |some m=>simp at hmn
    |none=>
     have hmx:mx.map a.eval=none:=by rw[m1.1 rfl];rfl
     unfold aaA at h5
     cases k0 with
     |sl e kk=>
      obtain⟨R,hr,hv,h6⟩:=gJ h5
      rcases bz h6 with⟨qN,h7⟩|⟨_,h7⟩
      ·clear h5 h6
       cases hg:aA p R.k R.x with
       |none=>rw[hg]at h7;exact h7.elim
       |some dd=>
        rw[hg]at h7
        simp only at h7
        cases hck:bR dd.1 (.sl e kk) dd.2 with
        |none=>rw[hck]at h7;exact h7.elim
        |some xs=>
         rw[hck]at h7
         simp only at h7
         obtain⟨ek,ey⟩:=iw hck
         obtain⟨dk,dx⟩:=dd
         simp only at ek ey
         subst ek
         simp only at ey
         subst ey
         obtain⟨⟨c1,c2,c3⟩,h8⟩:=h7
         rw[bu h8]
         obtain⟨b_,hown,cs,wh,hn,iX⟩:=h1 R hr.1 hv (a_ qN) _ hg
         obtain⟨aS,hO,_⟩:=tT H hr hv hg b_ hown hn
         obtain⟨b,m,c,rfl,hm,hmc⟩:=aas hO
         have ev:a.eval x=.slice b m c:=by
          have:=iX.1
          simpa using this.symm
         have hm':m=@List.length (El kk) xs:=hm
         have hrun:=Qr (P:=P) (w:=w) (b:=b) (n:=m) (c:=c) ht hl l2 hh g2 c1 (by rw[hm'];exact c2) (by rw[hm'];omega)
         refine eP (x:=.one (.sub r p n (lo'.getD 0).toNat (hi'.getD ((@List.length (El kk) xs:Nat):Int)).toNat kk.size)) H hd hdn (v:=.slice (if c=(lo'.getD 0).toNat then b else b.map (·.add ((lo'.getD 0).toNat*kk.size))) ((hi'.getD (m:Int)).toNat-(lo'.getD 0).toNat) (c-(lo'.getD 0).toNat)) ?_ ?_ ⟨R,hr.1,.inr (by have:=a_ qN;omega)⟩
         ·simp only[execOp,ho,ev,hmx,dG,hrun,eZ,dW]
         ·refine⟨_,b,m,c,by rw[hm'],?_,by omega,by rw[hm'];omega,hmc,?_⟩
          ·rintro(h0|h0)
           ·rw[h0];simp[add_zero]
           ·rw[aj h0]
          ·intro R2 hR2 hv2 hn2 d2 hd2
           have:R2=R:=by rw[hr.1]at hR2;simpa using hR2.symm
           subst this
           rw[hg]at hd2
           simp only[aa]at hd2
           subst hd2
           exact⟨b_,hown,wh,hn⟩
      ·exact h7.elim
     |_=>exact h5.elim
   ·exact h5.elim
  |_=>exact h.elim
end
section
variable {P:Program}{T:bF}{cx:Cx}{Z:St}{J:aF}{F:List Nat}{a:Act}{w:World}{o:Oper}{d:Nat}{ws:List Wr}{r:Nat}{R:Root}
theorem Zn{c:Call}{u:AV}(h:gU cx Z J F w [u] (c.args.toList.map a.eval)):∃x,c.args.toList=[x]/\aR cx Z J F w u (a.eval x):=by
 revert h
 generalize c.args.toList=l
 intro h
 cases l with
 |nil=>exact h.elim
 |cons x l=>cases l with
  |nil=>exact⟨x,rfl,h.1⟩
  |cons _ _=>exact h.2.elim
theorem Kk{c:Call}{u v:AV}(h:gU cx Z J F w [u,v] (c.args.toList.map a.eval)):∃x y,c.args.toList=[x,y]/\aR cx Z J F w u (a.eval x)/\aR cx Z J F w v (a.eval y):=by
 revert h
 generalize c.args.toList=l
 intro h
 cases l with
 |nil=>exact h.elim
 |cons x l=>cases l with
  |nil=>exact h.2.elim
  |cons y l=>cases l with
   |nil=>exact⟨x,y,rfl,h.1,h.2.1⟩
   |cons _ _=>exact h.2.2.elim
theorem aoW{kk:K}{m:Nat}(hk:0<kk.size)(hz:(dI kk).length=kk.size)(hg:fq kk=true):(mo (dI kk).toArray (m*kk.size)).toList.length=m*kk.size/\(∀i,i<m->gH (mo (dI kk).toArray (m*kk.size)).toList kk.size i=dI kk)/\
  ∀v∈(mo (dI kk).toArray (m*kk.size)).toList,v.oneCell'=true:=by
 refine⟨by simp[mo],λi hi=>aaV hk hz hi,λv hv=>?_⟩
 simp only[mo,uf,eD]at hv
 obtain⟨i,_,rfl⟩:=hv
 have hlt:i%(dI kk).toArray.size<(dI kk).toArray.size:=Nat.mod_lt _ (by simp[hz,hk])
 have h1:=Ho hg (oC (h:=hp (default:World)) (own:=kk.tys) (ok:=λ_=>False) (λ_=>True) (λ_ _=>trivial) (λ_ _=>trivial) (FU hg (λt ht=>fA.2 ht)))
 rw[getElem!_pos (dI kk).toArray _ hlt]
 exact h1 _ (by simp)
theorem aeV(hT:eG P T)(H:Rel cx Z J F a w){c:Call}(ho:o.op=.call c)(hcb:c.callee=.builtin .clear){u:AV}{e0:TypeId}{k0:K}(hl:gU cx Z J F w [u] (c.args.toList.map a.eval))(ht0:(c.argTypes[0]?).bind T.ty=some (.sl e0 k0))
  (h:(Mo (.sl e0 k0) u λws=>(.ret ws:Prog (List Wr))).ends Z ws):∃v w' J',(execOp a.eval o).run P w=.ok (.value v) w'/\Rel cx (aB ws Z) J' [] a w':=by
 obtain⟨x,hx,hu⟩:=Zn hl
 obtain⟨t,hat,ht⟩:=qR hT ht0
 cases u with
 |part r g lo hi sz=>
  simp only[Mo]at h
  obtain⟨R,e,kk,xs,hr,hv,hg,hq,hf,he,h⟩:=BU h
  rcases bz h with⟨hsz,h5⟩|⟨_,h5⟩
  ·clear h
   simp only[bg]at hsz
   have ek:=K.eq_of_beq hsz.1
   have hsz:=a_ hsz.2
   subst hsz
   obtain⟨rfl,rfl⟩:e=e0/\kk=k0:=by simpa using ek
   rw[bu h5]
   obtain⟨b',b,n,c',ev,eb,e2,e3,e4,hrf⟩:=hu
   obtain⟨hka,iX⟩:=hrf R hr hg
   obtain⟨b2,n2,c2',ry,eh,en,hnc⟩:=Cb H hr hv hq he iX
   simp only[mE]at ry
   obtain⟨rfl,rfl,rfl⟩:=ry
   obtain⟨hun,hel,hks,_⟩:=ht.sl
   have zo:=hel.fq
   have hzl:(dI kk).length=kk.size:=by
    have:=FU (h:=hp w) (ok:=λ_=>False) (own:=kk.tys) zo (λt ht=>fA.2 ht)
    exact eO this
   obtain⟨z1,z2,z3⟩:=aoW (m:=hi-lo) hks hzl zo
   obtain⟨w',r1,r2,r3,r4,_⟩:=Ql (P:=P) (zs:=List.replicate (hi-lo) kk.zero) (s:=lo) H hr hv hka hq hf he hks (by simp;omega) (b:=b) (n:=n) (c:=c') eh (bb:=b') (λh0=>eb (by
     simp only[List.length_replicate]at h0
     omega)) (news:=(mo (dI kk).toArray ((hi-lo)*kk.size)).toList) (by rw[z1];simp) (λi hi'=>by
     have hi2:i<hi-lo:=by simpa using hi'
     rw[z2 i hi2]
     have:(List.replicate (hi-lo) kk.zero)[i]'hi'=kk.zero:=by simp
     rw[this]
     exact oC (own:=kk.tys) (ok:=λ_=>False) _ (λ_ _=>trivial) (λ_ _=>trivial) (FU zo (λt ht=>fA.2 ht))) z3
   have hdrop:lo+(List.replicate (hi-lo) kk.zero).length=hi:=by simp;omega
   rw[hdrop]at r4
   obtain⟨cc,hcc⟩:=Cc (P:=P) (a:=a) (w:=w) ho hcb
   have vO:(c.args.map a.eval)[0]?=some (.slice b' (hi-lo) (c'-lo)):=by
    rw[<-qW,uf,hx]
    simp[ev]
   refine⟨.tuple #[],w',_,?_,r4⟩
   rw[hcc]
   have hrun:(Builtin.clear_ c.argTypes o.type (c.args.map a.eval)).run P w=.ok (.tuple #[]) w':=by
    unfold Builtin.clear_
    simp only[hat,vO]
    by_cases h0:hi-lo=0
    ·rw[h0]
     rw[r2 (by simp[h0])]
     cases b'<;>simp[gu hun,Result.andThen]
    ·obtain⟨ad,had⟩:=r3 (by simp;omega)
     subst had
     have hst:=r1 ad rfl
     have hzc:(Builtin.zeroCells (iK kk).cells (hi-lo)).toList=(mo (dI kk).toArray ((hi-lo)*kk.size)).toList:=by
      rw[Cu hel.shape]
      unfold Builtin.zeroCells mo
      simp[hzl]
     obtain⟨m,hm⟩:∃m,hi-lo=m+1:=⟨hi-lo-1,by omega⟩
     rw[hm]at hzc hst ⊢
     simp only[dG,gu hun,eZ,hel.info.zero w,hzc,hst,dW]
   simp only[builtin,dG,hrun,eZ,dW]
  ·exact h5.elim
 |_=>exact h.elim
end
section
variable {P:Program}{T:bF}{cx:Cx}{Z:St}{J:aF}{F:List Nat}{a:Act}{w:World}{o:Oper}{d:Nat}{ws:List Wr}{r:Nat}{R:Root}
theorem aeW(hT:eG P T)(H:Rel cx Z J F a w)(hd:o.dst=some d)(hdn:d<cx.nt){c:Call}(ho:o.op=.call c)(hcb:c.callee=.builtin .append){u v:AV}{e0 e1:TypeId}{k0 k1:K}(hl:gU cx Z J F w [u,v] (c.args.toList.map a.eval))
  (ht0:(c.argTypes[0]?).bind T.ty=some (.sl e0 k0)) (ht1:(c.argTypes[1]?).bind T.ty=some (.sl e1 k1)) (h:(Mq (.sl e0 k0) d u v λws=>(.ret ws:Prog (List Wr))).ends Z ws):dn P cx o a w (aB ws Z):=by
 obtain⟨x,y,hxy,hu,hv0⟩:=Kk hl
 obtain⟨t,hat,ht⟩:=qR hT ht0
 obtain⟨t2,vN,ht2⟩:=qR hT ht1
 cases u with
 |part r g l0 h0 sz=>
  cases v with
  |part r' g' l1 h1 sz'=>
   simp only[Mq]at h
   obtain⟨R,e,kk,xs,hr,hv,hg,hq,hf,he,h⟩:=BU h
   rcases bz h with⟨hc,h5⟩|⟨_,h5⟩
   ·clear h
    simp only[bg]at hc
    obtain⟨⟨⟨⟨⟨c1,c2⟩,c3⟩,c4⟩,c5⟩,c6⟩:=hc
    have ek:=K.eq_of_beq c1
    have c2:=a_ c2
    have c3:=a_ c3
    have c4:=a_ c4
    have c5:=a_ c5
    have c6:=a_ c6
    subst c2 c3 c4 c5 c6
    obtain⟨rfl,rfl⟩:e=e0/\kk=k0:=by simpa using ek
    obtain⟨hle,h6⟩:=h5
    rw[bu h6]
    obtain⟨b1,b,n,cp,ev1,eb1,e2,e3,e4,hrf⟩:=hu
    obtain⟨b2,b',n',cp',ry,eb2,f2,f3,f4,ahN⟩:=hv0
    obtain⟨hka,iX⟩:=hrf R hr hg
    obtain⟨_,agB⟩:=ahN R hr hg
    obtain⟨q1,q2,q3,ev,eh,en,hnc⟩:=Cb H hr hv hq he iX
    simp only[mE]at ev
    obtain⟨rfl,rfl,rfl⟩:=ev
    obtain⟨q1,q2,q3,ev,eh',_,_⟩:=Cb H hr hv hq he agB
    simp only[mE]at ev
    obtain⟨rfl,rfl,rfl⟩:=ev
    rw[eh]at eh'
    simp only[gQ,mE,dZ]at eh'
    obtain⟨rfl,rfl,rfl⟩:=eh'
    have hb1:b1=b:=by rw[eb1 (.inl rfl)];simp[add_zero]
    subst hb1
    obtain⟨hun,hel,hks,_⟩:=ht.sl
    have zo:=hel.fq
    have hO:Ow (hp w) R.own (aO cx Z J F w R.tags) (.sl e kk) xs [.slice b1 n cp] (J.fo r):=by
     have:=cast (congrArg (λq:Dat=>Ow (hp w) R.own (aO cx Z J F w R.tags) q.1 q.2 (J.hdr r) (J.fo r)) hq) ((H.roots r R hr).ow hv)
     simp only at this
     rw[eh]at this
     exact this
    have hV:=oC (λ_=>True) (λ_ _=>trivial) (λ_ _=>trivial) hO
    have Vv:=TI hV f2 (by omega:h1<=n)
    have hlz:((xs.take h1).drop l1).length=h1-l1:=by
     have:n=xs.length:=en
     simp;omega
    have hVy:Vw (hp w) (λ_=>True) (.sl e kk) (show List (El kk)from(xs.take h1).drop l1) [.slice b2 (h1-l1) (cp-l1)]:=by
     by_cases hcl:cp=l1
     ·refine⟨_,_,_,rfl,hlz.symm,by omega,λh=>?_⟩
      omega
     ·rw[aj hcl]at Vv
      rw[eb2 (.inr hcl)]
      exact Vv
    obtain⟨news,hS,hE⟩:=Kq (P:=P) (u:=t2) (xs:=(xs.take h1).drop l1) (v:=a.eval y) (.inl ⟨_,ht2.sl.1⟩) zo rfl (cs:=[.slice b2 (h1-l1) (cp-l1)]) ⟨by rw[ry],by rw[ry];simp⟩ hVy
    have hzl:((show List (El kk)from(xs.take h1).drop l1)).length=h1-l1:=hlz
    have hroom:h0+((xs.take h1).drop l1).length<=cp:=by omega
    obtain⟨w',r1,r2,r3,r4,r5⟩:=Ql (P:=P) (zs:=(xs.take h1).drop l1) (s:=h0) H hr hv hka hq hf he hks (by rw[hlz];have:n=xs.length:=en;omega) (b:=b1) (n:=n) (c:=cp) eh (bb:=b1.map (·.add (h0*kk.size))) (λ_=>rfl) (news:=news) hS.nl hE hS.one
    rw[hlz]at r4 r5
    have hrun:=J7 (P:=P) (ty:=o.type) (t:=t) (u:=t2) ht hS (b:=b1) (n:=h0) (c:=cp) hroom
    have Bt:(Builtin.append_ #[t,t2] o.type #[a.eval x,a.eval y]).run P w=.ok (.slice b1 (h0+(h1-l1)) cp) w':=by
     rw[ev1]
     simp only[Nat.sub_zero]
     rw[hrun,hlz]
     cases hbb:b1 with
     |none=>
      have:((xs.take h1).drop l1).length=0:=by
       refine jI λhne=>?_
       obtain⟨ad,had⟩:=r3 (by omega)
       rw[hbb]at had
       simp at had
      rw[r2 this]
      simp[Result.andThen]
     |some ad=>
      have:=r1 (ad.add (h0*kk.size)) (by rw[hbb];rfl)
      simp only[this,eZ]
    show dn P cx o a w (aB [Wr.s d (.one (.part r g 0 (h0+(h1-l1)) kk.size))] (aL Z r (qQ R e kk (xs.take h0++(xs.take h1).drop l1++xs.drop (h0+(h1-l1))))))
    refine nk (x:=.one (.part r g 0 (h0+(h1-l1)) kk.size)) (v:=.slice b1 (h0+(h1-l1)) cp) r4 hd hdn (FE ho hcb hxy hat vN Bt) ?_ ⟨_,fF ..,.inr (by rw[<-hg];exact bT _)⟩
    refine⟨b1,b1,n,cp,by simp,λ_=>by simp[add_zero],by omega,by omega,e4,r5 g (.slice b1 n cp) (by omega) hrf⟩
   ·exact h5.elim
  |_=>exact h.elim
 |_=>exact h.elim
theorem afc(hT:eG P T)(H:Rel cx Z J F a w)(hd:o.dst=some d)(hdn:d<cx.nt){c:Call}(ho:o.op=.call c)(hcb:c.callee=.builtin .len){r g lo hi sz:Nat}{e0:TypeId}{k0:K}(hl:gU cx Z J F w [.part r g lo hi sz] (c.args.toList.map a.eval))
  (ht0:(c.argTypes[0]?).bind T.ty=some (.sl e0 k0)):dn P cx o a w (aB [.s d (.one (.val (.int .i64) ((hi-lo:Nat):Int) []))] Z):=by
 obtain⟨x,hx,hu⟩:=Zn hl
 obtain⟨t,hat,ht⟩:=qR hT ht0
 obtain⟨b',b,n,cp,ev,_⟩:=hu
 have vO:(c.args.map a.eval)[0]?=some (.slice b' (hi-lo) (cp-lo)):=by
  rw[<-qW,uf,hx]
  simp[ev]
 obtain⟨cc,hcc⟩:=Cc (P:=P) (a:=a) (w:=w) ho hcb
 refine eP H hd hdn ?_ (oh .i64 (n:=((hi-lo:Nat):Int)) trivial) nH
 rw[hcc]
 simp only[builtin,dG,aaf (ty:=o.type) (w:=w) hat vO (.inr ⟨⟨_,ht.sl.1⟩,b',cp-lo,rfl⟩),eZ,dW]
theorem an_{t u ty e:TypeId}{k:K}(ht:cK P T t (.sl e k)){b:Option Addr}{n c m:Nat}{x:Value}{news:List Value}(hs:Src P w k.size u x m news)(hr:m<=n) :
  (Builtin.copy_ #[t,u] ty #[.slice b n c,x]).run P w=(match b with
   |some a=>(storeCells a news).run P w
   |none=>.ok () w).andThen λ_ w'=>.ok (.int .i64 (m:Int)) w':=by
 obtain⟨hu,he,_,_⟩:=ht.sl
 have e1:=hs.len w
 have e2:=hs.cells.1
 have hm:Nat.min m n=m:=Nat.min_eq_left hr
 cases b<;>simp[Builtin.copy_,gu hu,he.info.sizeOf w,e1,e2,hm,Result.andThen,goInt]
theorem aeY(hT:eG P T)(H:Rel cx Z J F a w)(hd:o.dst=some d)(hdn:d<cx.nt){c:Call}(ho:o.op=.call c)(hcb:c.callee=.builtin .copy){u v:AV}{e0 e1:TypeId}{k0 k1:K}(hl:gU cx Z J F w [u,v] (c.args.toList.map a.eval))(hwv:dB Z v)
  (ht0:(c.argTypes[0]?).bind T.ty=some (.sl e0 k0)) (ht1:(c.argTypes[1]?).bind T.ty=some (.sl e1 k1)) (h:(Mv (.sl e0 k0) d u v λws=>(.ret ws:Prog (List Wr))).ends Z ws):dn P cx o a w (aB ws Z):=by
 obtain⟨x,y,hxy,hu,hv0⟩:=Kk hl
 obtain⟨t,hat,ht⟩:=qR hT ht0
 obtain⟨t2,vN,ht2⟩:=qR hT ht1
 cases u with
 |ref r g=>
  simp only[Mv]at h
  obtain⟨R,e,kk,xs,hr,hv,hg,hq,hf,he,h⟩:=BU h
  rcases bz h with⟨hc,h5⟩|⟨_,h5⟩
  ·clear h
   have ek:=K.eq_of_beq hc
   obtain⟨rfl,rfl⟩:e=e0/\kk=k0:=by simpa using ek
   obtain⟨hun,hel,hks,_⟩:=ht.sl
   have zo:=hel.fq
   obtain⟨s,h6,_,_,news,_,_,_,_,_,_,hS,hels⟩:=aau (P:=P) (u:=t2) H (.inl ⟨_,ht2.sl.1⟩) zo hv0 hwv h5
   obtain⟨hle,h7⟩:=h6
   rw[bu h7]
   obtain⟨hka,iX⟩:=hu R hr (by omega)
   obtain⟨b,n,cp,ev,eh,en,hnc⟩:=Cb H hr hv hq he iX
   obtain⟨au,iO,_,_,_,hE⟩:=hels [] (λt ht=>by rw[A8 hf]at ht;simp at ht)
   have hb0:b.map (·.add (0*kk.size))=b:=by rw[Nat.zero_mul];exact add_zero b
   obtain⟨w',r1,r2,r3,r4,r5⟩:=Ql (P:=P) (zs:=s.xs) (s:=0) H hr hv hka hq hf he hks (by omega) (b:=b) (n:=n) (c:=cp) eh (bb:=b) (λ_=>hb0.symm) (news:=news) hS.nl (λi hi=>oC (λ_=>True) (λ_ _=>trivial) (λ_ _=>trivial) (hE i hi)) hS.one
   have hxs:xs.take 0++s.xs++xs.drop (0+s.xs.length)=s.xs++xs.drop s.xs.length:=by simp
   rw[hxs]at r4 r5
   have hrun:=an_ (P:=P) (ty:=o.type) (t:=t) (u:=t2) ht hS (b:=b) (n:=n) (c:=cp) (by omega)
   have Bt:(Builtin.copy_ #[t,t2] o.type #[a.eval x,a.eval y]).run P w=.ok (.int .i64 (s.xs.length:Int)) w':=by
    rw[ev,hrun]
    cases hbb:b with
    |none=>
     have:s.xs.length=0:=by
      refine jI λhne=>?_
      obtain⟨ad,had⟩:=r3 (by omega)
      rw[hbb]at had
      simp at had
     rw[r2 this]
     simp[Result.andThen]
    |some ad=>
     have:=r1 ad hbb
     simp only[this,eZ]
   have ahU:(execOp a.eval o).run P w=.ok (.value (.int .i64 (s.xs.length:Int))) w':=by
    obtain⟨cc,hcc⟩:=Cc (P:=P) (a:=a) (w:=w) ho hcb
    rw[hcc]
    have h1:c.args.map a.eval=#[a.eval x,a.eval y]:=by
     apply qV
     rw[uf,hxy]
     rfl
    have h2:Builtin.copy_ c.argTypes o.type #[a.eval x,a.eval y]=Builtin.copy_ #[t,t2] o.type #[a.eval x,a.eval y]:=by
     unfold Builtin.copy_
     simp only[hat]
     rfl
    rw[h1]
    simp only[builtin,dG,h2,Bt,eZ,dW]
   show dn P cx o a w (aB [Wr.s d (.one (.val (.int .i64) (s.xs.length:Int) []))] (aL Z r (qQ R e kk (s.xs++xs.drop s.xs.length))))
   exact nk (x:=.one (.val (.int .i64) (s.xs.length:Int) [])) r4 hd hdn ahU (oh .i64 (n:=((s.xs.length:Nat):Int)) trivial) nH
  ·exact h5.elim
 |_=>exact h.elim
theorem an9{t e:TypeId}(ht:cK P T t (.sl e (.int .u8))){b q n c:Nat}{arr:Array Value}{e':TypeId}{fr:Nat×Nat}(hb:hp w b=some (.cells arr e' fr)) :
  (convert t t (.slice (some ⟨b,q,none⟩) n c)).run P w=.ok (.slice (some ⟨b,q,none⟩) n c) (w.freeze ⟨b,arr.size,none⟩ 1):=by
 obtain⟨h1,h2,_⟩:=ht.sl
 have he:P.underlying e=some (.int .u8):=by
  unfold cK iV at h2
  exact h2.1
 have hsh:w.shape? b=some (e',arr.size):=by
  have:w.heap[b]?=some (.cells arr e' fr):=hb
  unfold World.shape?
  rw[this]
 simp[convert,gu h1,gu he,markStringish,hsh]
theorem af9{b:Nat}{arr:Array Value}{e':TypeId}{lo hi:Nat}(hb:hp w b=some (.cells arr e' (lo,hi)))(hf:iE arr.size lo hi) :
  (∀b',b'≠b->hp (w.freeze ⟨b,arr.size,none⟩ 1) b'=hp w b')/\∃lo' hi',hp (w.freeze ⟨b,arr.size,none⟩ 1) b=some (.cells arr e' (lo',hi'))/\iE arr.size lo' hi':=by
 have hb':w.heap[b]?=some (.cells arr e' (lo,hi)):=hb
 have e0:(w.freeze ⟨b,arr.size,none⟩ 1).heap=w.heap.modify b fun
   |.cells c elem (lo,hi)=>.cells c elem (if lo==hi then(arr.size,arr.size+1)else(min lo arr.size,max hi (arr.size+1)))
   |o=>o:=by
  unfold World.freeze
  rw[aj (by decide)]
  rfl
 refine⟨λb' hne=>?_,?_⟩
 ·show(w.freeze ⟨b,arr.size,none⟩ 1).heap[b']?=w.heap[b']?
  rw[e0,Kw,aj (Ne.symm hne)]
 ·have e1:hp (w.freeze ⟨b,arr.size,none⟩ 1) b=some (.cells arr e' (if lo==hi then(arr.size,arr.size+1)else(min lo arr.size,max hi (arr.size+1)))):=by
   show(w.freeze ⟨b,arr.size,none⟩ 1).heap[b]?=_
   rw[e0,Kw,ak rfl,hb']
   rfl
  cases hlh:(lo==hi)with
  |true=>rw[hlh]at e1;exact⟨_,_,e1,by omega,λi hi=>by omega⟩
  |false=>
   rw[hlh]at e1
   have hne:lo≠hi:=by simpa using hlh
   have hle:=hf.le
   have hs:arr.size<=lo:=jI λh=>hf.out lo (by omega) ⟨bT _,by omega⟩
   exact⟨_,_,e1,by omega,λi hi=>by omega⟩
theorem aeU(hT:eG P T)(H:Rel cx Z J F a w)(hd:o.dst=some d)(hdn:d<cx.nt){t e:TypeId}{x:Operand}{u:AV}(ho:o.op=.convert t t x)(ht0:T.ty t=some (.sl e (.int .u8)))(hu:aR cx Z J F w u (a.eval x))
  (h:(Md e d u λws=>(.ret ws:Prog (List Wr))).ends Z ws):dn P cx o a w (aB ws Z):=by
 have ht:=hT.ty t _ ht0
 cases u with
 |ref r g=>
  simp only[Md]at h
  obtain⟨R,e',kk,xs,hr,hv,hg,hq,hf,he,h⟩:=BU h
  rcases bz h with⟨hc,h5⟩|⟨_,h5⟩
  ·clear h
   obtain⟨h6,h7⟩:=h5
   rw[bu h7]
   have ek:=K.eq_of_beq hc
   obtain⟨rfl,rfl⟩:e'=e/\kk=.int .u8:=by simpa using ek
   obtain⟨hka,iX⟩:=hu R hr (by omega)
   have hO:=cast (congrArg (λq:Dat=>Ow (hp w) R.own (aO cx Z J F w R.tags) q.1 q.2 (J.hdr r) (J.fo r)) hq) ((H.roots r R hr).ow hv)
   have hV:VC (.sl e' (.int .u8)) (a.eval x) (J.hdr r):=cast (congrArg (λq:Dat=>VC q.1 (a.eval x) (J.hdr r)) hq) iX
   simp only at hO
   have Ip:=hO
   unfold Ow at hO
   rw[ak he]at hO
   obtain⟨ad,n,c,e1,e2,e3,hO⟩:=hO
   have h6':0<(show List Int from xs).length:=h6
   rcases hO with⟨hc0,_⟩|⟨b,q,arr,lo,hi,ea,hb,hfr,hs,au,hl,hpm,hE⟩
   ·have:n=(show List Int from xs).length:=e2
    omega
   ·subst ea
    have ev:a.eval x=.slice (some ⟨b,q,none⟩) n c:=by
     have:=hV.1
     rw[e1]at this
     simpa using this.symm
    have ahT:=an9 (P:=P) (w:=w) ht (n:=n) (c:=c) (q:=q) hb
    obtain⟨g1,lo',hi',g2,g3⟩:=af9 hb hfr
    have hcell:∀i,cellAt (hp (w.freeze ⟨b,arr.size,none⟩ 1)) b i=cellAt (hp w) b i:=λi=>by unfold cellAt;rw[g2,hb]
    have agN:b∈J.fo r:=hpm.mem_iff.2 (by simp)
    have IE:(w.freeze ⟨b,arr.size,none⟩ 1).os=w.os/\(w.freeze ⟨b,arr.size,none⟩ 1).tape=w.tape/\(w.freeze ⟨b,arr.size,none⟩ 1).output=w.output/\(w.freeze ⟨b,arr.size,none⟩ 1).heap.size=w.heap.size:=by
     unfold World.freeze
     rw[aj (by decide)]
     exact⟨rfl,rfl,rfl,by simp⟩
    have hE':∀(i:Nat) (hi:i<(show List Int from xs).length),∃ds,Cells (hp w) b (q+i*K.size (.int .u8)) ds/\Ow (hp w) R.own (aO cx Z J F w R.tags) (.int .u8) ((show List Int from xs)[i]) ds (au.getD i []):=hE
    obtain⟨r4,r5⟩:=Qn (w':=w.freeze ⟨b,arr.size,none⟩ 1) (ys:=xs) H hr hv hka hq hf rfl ⟨IE.1,IE.2.1,IE.2.2.1⟩ (by rw[IE.2.2.2];exact bT _)
     (λb' hne=>by
      by_cases hbb:b'=b
      ·subst hbb
       exact⟨agN,by unfold h_;rw[hb]⟩
      ·exact absurd (g1 b' hbb) hne)
     (λok=>by
      unfold Ow
      rw[ak he]
      refine⟨some ⟨b,q,none⟩,n,c,e1,e2,e3,.inr ⟨b,q,arr,lo',hi',rfl,g2,g3,hs,au,hl,hpm,λi hi=>?_⟩⟩
      obtain⟨ds,k1,k2⟩:=hE' i hi
      exact⟨ds,λj hj=>by rw[hcell];exact k1 j hj,k2⟩)
    have hrun:(execOp a.eval o).run P w=.ok (.value (a.eval x)) (w.freeze ⟨b,arr.size,none⟩ 1):=by
     simp only[execOp,ho,ev,dG,ahT,eZ,dW]
    show dn P cx o a w (aB [Wr.s d (.one (.ref r g))] (aL Z r (qQ R e' (.int .u8) xs)))
    exact nk (x:=.one (.ref r g)) r4 hd hdn hrun (r5 g (a.eval x) (by omega) hu) ⟨_,fF ..,.inr (by show g<=R.g;omega)⟩
  ·exact h5.elim
 |_=>exact h.elim
theorem afk(hT:eG P T)(H:Rel cx Z J F a w)(hd:o.dst=some d)(hdn:d<cx.nt)(h:(QE T o d λws=>(.ret ws:Prog (List Wr))).ends Z ws):dn P cx o a w (aB ws Z):=by
 unfold QE at h
 split at h
 ·rename_i t x lo hi mx ho
  exact afd hT H hd hdn h ho
 ·rename_i c ho
  split at h
  ·rename_i hcb
   obtain⟨vs,h1,h2,h⟩:=uH H h
   split at h
   ·split at h
    ·rename_i ht0
     rw[bu h]
     exact afc hT H hd hdn ho hcb h1 ht0
    ·exact h.elim
   ·exact h.elim
  ·rename_i hcb
   obtain⟨vs,h1,h2,h⟩:=uH H h
   split at h
   ·split at h
    ·rename_i ht0 ht1
     exact aeW hT H hd hdn ho hcb h1 ht0 ht1 h
    ·exact h.elim
   ·exact h.elim
  ·rename_i hcb
   obtain⟨vs,h1,h2,h⟩:=uH H h
   split at h
   ·split at h
    ·rename_i ht0 ht1
     exact aeY hT H hd hdn ho hcb h1 (h2 _ (by simp)) ht0 ht1 h
    ·exact h.elim
   ·exact h.elim
  ·exact h.elim
 ·rename_i t ps ho
  exact ae6 hT H hd hdn h ho
 ·rename_i s t x ho
  split at h
  ·rename_i hty
   rcases bz h with⟨hst,h9⟩|⟨_,h9⟩
   ·have hst:=a_ hst
    obtain⟨u,h1,h2,h9⟩:=iW H h9
    exact aeU hT H hd hdn (by rw[ho,hst]) hty h1 h9
   ·exact h9.elim
  ·exact h.elim
 ·exact h.elim
end
theorem EX{p:List Stp}:∀{q:List Stp},nD p q=true->xE p=xE q->p=q:=by
 induction p with
 |nil=>intro q h _;cases q with
  |nil=>rfl
  |cons s q=>cases s<;>simp[nD]at h
 |cons s p ih=>
  intro q h hi
  cases q with
  |nil=>cases s<;>simp[nD]at h
  |cons u q=>
   cases s with
   |aP n=>
    cases u with
    |aP m=>
     simp only[nD,bg]at h
     rw[a_ h.1,ih h.2 hi]
    |idx j=>simp[nD]at h
   |idx i=>
    cases u with
    |aP m=>simp[nD]at h
    |idx j=>
     simp only[xE,gQ]at hi
     rw[hi.1,ih h hi.2]
theorem JM{p:List Stp}:∀{q:List Stp},nD p q=true->p.all Stp.jo=true->q.all Stp.jo=true:=by
 induction p with
 |nil=>intro q h _;cases q with
  |nil=>rfl
  |cons s q=>cases s<;>simp[nD]at h
 |cons s p ih=>
  intro q h hi
  cases q with
  |nil=>cases s<;>simp[nD]at h
  |cons u q=>
   cases s with
   |idx i=>simp[Stp.jo]at hi
   |aP n=>
    cases u with
    |idx j=>simp[nD]at h
    |aP m=>
     simp only[nD,bg]at h
     simp only[List.all_cons,bg]at hi ⊢
     exact⟨rfl,ih h.2 hi.2⟩
theorem xG{p:List Stp}:p.all Stp.jo=true->xE p=[]:=by
 induction p with
 |nil=>intro _;rfl
 |cons s p ih=>
  intro h
  simp only[List.all_cons,bg]at h
  cases s with
  |aP n=>exact ih h.2
  |idx i=>exact absurd h.1 (by simp[Stp.jo])
section
variable {P:Program}{T:bF}{cx:Cx}{Z:St}{J:aF}{F:List Nat}{a:Act}{w:World}{o:Oper}{d:Nat}{ws:List Wr}{r:Nat}{R:Root}
theorem Qm{t e:TypeId}{kk:K}(hT:cK P T t (.sl e kk))(H:Rel cx Z J F a w)(hr:aU Z r R)(hv:cz Z R){p:List Stp}{xs ys:List (El kk)}{z:Dat}(hg:aA p R.k R.x=some ⟨.sl e kk,xs⟩)(hz:bJ p R.k R.x ⟨.sl e kk,ys⟩=some z)(b_:bM p R.k R.x)
  (hown:∀t∈az p R.k,ah t R.own=true) (hall:∀t∈(K.sl e kk).tys,ah t R.own=true) {cs1:List Value} {b o:Nat} (hn:aN (hp w) p R.k (J.hdr r) (aK J R r)=some (cs1,some (b,o))) {v:Value} (jm:∃bv nv cv,v=.slice bv nv cv) {lw:List TypeId} (DY:fU R p∈lw)
  (how:∀aS ok,Ow (hp w) R.own ok (.sl e kk) xs cs1 aS->aS.Nodup->(∀b∈aS,b∈J.fo r)->∃ft,ft.Nodup/\(∀b∈ft,b∈aS\/b∈F)/\Ow (hp w) R.own (λ_=>False) (.sl e kk) ys [v] ft) :
  ∃w',(Instr.storeAt t (.pointer (some ⟨b,o,none⟩)) v).run P w=.ok () w'/\∃J' F',Rel cx (aL Z r (fV R z R.own R.tags lw (K.sl e kk).tys R.keep)) J' F' a w':=by
 have K0:=H.roots r R hr
 have hnt:=H.fu r R hr.1
 obtain⟨_,_,hbb,⟨arr,te,lo,hi,hb,hf,hs,hlast⟩,_⟩:=tQ H hr hv hg b_ hown hn
 have hone:∀u∈[v],u.oneCell'=true:=by
  intro u hu
  simp only[gW]at hu
  subst hu
  obtain⟨bv,nv,cv,rfl⟩:=jm
  rfl
 have ah6:VC (.sl e kk) v [v]:=by
  obtain⟨bv,nv,cv,rfl⟩:=jm
  exact⟨rfl,by simp⟩
 have hrun:=aah (o:=o) hT hb hf (show [v].length=(K.sl e kk).size from rfl) hs ah6 hone
 obtain⟨s1,s2,fD,s3,s4,s5,s6⟩:=Cf b [v] w arr te (lo,hi) o hb hs
 have s7:=Cg b [v] w o
 refine⟨_,hrun,?_⟩
 obtain⟨fd,ok',aS,rest,iG,bZ,hn',hpf,hd1,hty,_,fM,hwf,hgo⟩:=H.place hr hv (own':=R.own) hg b_ (λt h=>h) hown
 rw[hn]at hn'
 simp only[aa,bK]at hn'
 obtain⟨rfl,rfl⟩:=hn'
 have hnd:=K0.nd
 rw[iN,rJ]at hnd
 have D6:=hpf.nodup hnd.2
 have IC:∀b∈aS,b∈J.fo r:=λb hb=>hpf.mem_iff.2 (bP _ (bP _ hb))
 obtain⟨ft,ahe,DX,ahf⟩:=how aS ok' hd1 (dA.1 (dA.1 D6).1).1 IC
 have kS:b∉F:=H.dM r R hr b hbb
 have agO:b∉ft:=λh=>by
  rcases DX b h with h|h
  ·exact hwf b o rfl h
  ·exact kS h
 have hF':∀b',b'∈F.filter (λb=>!ah b ft)↔b'∈F/\b'∉ft:=λb'=>by rw[iU];simp[gq]
 have hP:yJ cx Z J F w r R p ⟨.sl e kk,xs⟩ R.own cs1 (some (b,o)) aS rest ⟨.sl e kk,ys⟩ z R.tags lw (K.sl e kk).tys R.keep ft (F.filter λb=>!ah b ft) [v] (w.setCells b o [v]):=by
  refine⟨hz,rfl,λ_ h=>h,⟨s7.1,s7.2.1,s7.2.2⟩,by omega,λb' _ hne=>?_,λb' o' e'=>?_,λh=>by simp at h,rfl,.inl (λh=>by rw[h]at DY;simp at DY),⟨λ_ h=>h,hnt.1,hnt.2.2⟩,λb' hb'=>(DX b' hb').imp id .inl,ahe,λb' hb'=>.inl ((hF' b').1 hb').1,H.gD.filter _,
   λb' hb' h=>((hF' b').1 h).2 hb',.inl rfl,.inl rfl,λ_ q c0 w0 hpq qM hnq Bp=>?_,λJ' Tn hblk hval=>?_⟩
  ·refine .inr (.inr ?_)
   by_cases e:b'=b
   ·subst e;exact⟨o,rfl,DY⟩
   ·exact absurd (s1 b' e) hne
  ·simp only[aa,bK]at e'
   obtain⟨rfl,rfl⟩:=e'
   refine⟨λi hi=>?_,arr,fD,te,(lo,hi),hb,s3,s4,λi hi=>s6 i hi⟩
   unfold cellAt
   rw[s3]
   exact s5 i hi
  ·cases q with
   |nil=>
    simp only[aN,aa,bK]at hnq
    exact⟨trivial,[v],by simp only[aN];rw[hnq.2]⟩
   |cons s q=>
    cases s with
    |aP n=>exact hpq.elim
    |idx i=>exact absurd (show e∈(K.sl e kk).tys by simp[K.tys]) (qM e (by simp[az])).2
  ·exact lq (om hall) (dK (λ_ h=>h.elim) (λ_ h=>h) (λb' hb'=>s1 b' (λe=>agO (e▸hb'))) ahf)
 obtain⟨J',h,_⟩:=hgo hP
 exact⟨J',_,h⟩
theorem aeZ(hT:eG P T)(H:Rel cx Z J F a w)(hd:o.dst=none){t:TypeId}{x y:Operand}(ho:o.op=.store t x y){u:AV}{r n m:Nat}{p:List Stp}{k0:K}(hk0:T.ty t=some k0)(h1:aR cx Z J F w u (a.eval x))(h2:dB Z u)(h3:aR cx Z J F w (.lH r p n m) (a.eval y))
  (h:(MF k0 u r p n m λws=>(.ret ws:Prog (List Wr))).ends Z ws):dn P cx o a w (aB ws Z):=by
 have ht:=hT.ty t k0 hk0
 cases k0 with
 |sl e kk=>
  cases u with
  |ptr r' p' h0=>
   simp only[MF]at h
   rcases bz h with⟨hc,h5⟩|⟨_,h5⟩
   ·clear h
    simp only[bg]at hc
    obtain⟨hix,h6⟩:=h5
    have er:=a_ hc.1
    have ep:=EX hc.2 hix
    subst er ep
    obtain⟨R,hr,hv,h7⟩:=gJ h6
    rcases bz h7 with⟨hc2,h8⟩|⟨_,h8⟩
    ·simp only[bg]at hc2
     obtain⟨⟨⟨c1,c2⟩,c3⟩,c4⟩:=hc2
     have hall:=mQ c4
     cases hg:aA p R.k R.x with
     |none=>rw[hg]at h8;exact h8.elim
     |some dd=>
      rw[hg]at h8
      simp only at h8
      cases hck:bR dd.1 (.sl e kk) dd.2 with
      |none=>rw[hck]at h8;exact h8.elim
      |some xs=>
       rw[hck]at h8
       simp only at h8
       obtain⟨ek,ey⟩:=iw hck
       obtain⟨dk,dx⟩:=dd
       simp only at ek ey
       subst ek
       simp only at ey
       subst ey
       cases hz:bJ p R.k R.x ⟨.sl e kk,(show List (El kk)from xs).take m⟩with
       |none=>rw[hz]at h8;exact h8.elim
       |some z=>
        rw[hz]at h8
        rw[bu h8]
        obtain⟨b0,c,ev,h3⟩:=h3
        obtain⟨b_,hown,q,wh,hn,hmq⟩:=h3 R hr.1 hv (a_ c1) _ hg
        obtain⟨_,cs,b,o',hn2,ep⟩:=h1.2 R hr.1 hv c3 hown (by rw[hg];rfl)
        rw[hn]at hn2
        simp only[aa,bK]at hn2
        obtain⟨rfl,rfl⟩:=hn2
        obtain⟨w',r1,J',F',r2⟩:=Qm (P:=P) ht H hr hv hg hz b_ hown hall hn (v:=.slice b0 m c) ⟨_,_,_,rfl⟩ (lw:=fU R p :: (K.sl e kk).tys) (by simp) (λaS ok hO hnd hsub=>by
         unfold Ow at hO
         have he:ah e R.own=true:=hall e (by simp[K.tys])
         rw[ak he]at hO
         obtain⟨a0,n',c',e1,e2,e3,hO⟩:=hO
         simp only[gQ,mE,dZ]at e1
         obtain⟨rfl,rfl,rfl⟩:=e1
         have e2:q=@List.length (El kk) xs:=e2
         have hmx:m<=@List.length (El kk) xs:=by omega
         have hlen:(@List.take (El kk) m xs).length=m:=by rw[uq];omega
         rcases hO with⟨hc0,hf0⟩|⟨bb,o0,arr,lo,hi,ea,hb,hfr,hs,au,hl,hp0,hO⟩
         ·refine⟨[],lM,by simp,?_⟩
          unfold Ow
          rw[ak he]
          exact⟨b0,m,c,rfl,hlen.symm,by omega,.inl ⟨hc0,rfl⟩⟩
         ·have hl:au.length=(show List (El kk)from xs).length:=hl
          have kU:=hp0.nodup hnd
          have NQ:((au.take m).flatten).Sublist au.flatten:=by
           have:(au.take m++au.drop m).flatten=au.flatten:=by rw[Am]
           rw[<-this,Tf]
           exact List.sublist_append_left _ _
          refine⟨bb :: (au.take m).flatten,(jB.2 ⟨λh=>(jB.1 kU).1 (NQ.subset h),(jB.1 kU).2.sublist NQ⟩),λb' hb'=>.inl (hp0.mem_iff.2 (by
           rcases bH.1 hb' with h|h
           ·rw[h];exact jl
           ·exact ji _ (NQ.subset h))),?_⟩
          have DL:Ow (hp w) R.own (λ_=>False) (.sl e kk) (show List (El kk)from(show List (El kk)from xs).take m) [.slice b0 m c] (bb :: (au.take m).flatten):=by
           unfold Ow
           rw[ak he]
           refine⟨b0,m,c,rfl,hlen.symm,by omega,.inr ⟨bb,o0,arr,lo,hi,ea,hb,hfr,hs,au.take m,by show(au.take m).length=((show List (El kk)from xs).take m).length;simp[hl],.refl _,λi hi'=>?_⟩⟩
           have hi2:i<((show List (El kk)from xs).take m).length:=hi'
           have hi3:i<m/\i < @List.length (El kk) xs:=by
            have h9:i<(@List.take (El kk) m xs).length:=hi'
            rw[hlen]at h9;omega
           obtain⟨ds,g1,g2⟩:=hO i hi3.2
           refine⟨ds,g1,?_⟩
           have e1:(show List (El kk)from(show List (El kk)from xs).take m)[i]'hi'=(show List (El kk)from xs)[i]'hi3.2:=by
            show((show List (El kk)from xs).take m)[i]=_
            simp
           have e2:(au.take m).getD i []=au.getD i []:=by simp[gy,Lh,hi3.1]
           rw[e1,e2]
           exact lq (om (λt ht=>hall t (by simp[K.tys,ht]))) g2
          exact DL)
        refine⟨undef,w',J',F',.inr ⟨?_,rfl⟩,?_⟩
        ·simp only[execOp,ho,ep,ev,dG,r1,eZ,dW]
        ·rw[hd]
         exact r2
    ·exact h8.elim
   ·exact h5.elim
  |_=>exact h.elim
 |_=>exact h.elim
end
section
variable {P:Program}{T:bF}{cx:Cx}{Z:St}{J:aF}{F:List Nat}{a:Act}{w:World}{o:Oper}{d:Nat}{ws:List Wr}{r:Nat}{R:Root}
theorem adP{t u ty e:TypeId}{kk:K}(ht:cK P T t (.sl e kk)){own:List TypeId}{ok:Nat->Prop}{xs:List (El kk)}{b:Option Addr}{n c:Nat}{x:Value}{fK:List Nat}{news:List Value}
  (hO:Ow (hp w) own ok (.sl e kk) xs [.slice b n c] fK) (hown:ah e own=true) (hS:Src P w kk.size u x 1 news) (hb:(xs.length+1)*T.bytes e<=140737488355328) :
  ∃w' b1 o1 c1 arr lo hi,(Builtin.append_ #[t,u] ty #[.slice b n c,x]).run P w=.ok (.slice (some ⟨b1,o1,none⟩) (n+1) c1) w'/\(w'.os=w.os/\w'.tape=w.tape/\w'.output=w.output)/\w.heap.size<=w'.heap.size/\n+1<=c1/\n=xs.length/\
   hp w' b1=some (.cells arr e (lo,hi))/\iE arr.size lo hi/\o1+c1*kk.size<=arr.size/\Cells (hp w') b1 (o1+n*kk.size) news/\(∀b',b'<w.heap.size->b'≠b1->hp w' b'=hp w b')/\
   ((b=some ⟨b1,o1,none⟩/\c=c1/\b1∈fK/\h_ (hp w) b1=some e/\j_ (hp w) (hp w') b1 (o1+n*kk.size) kk.size)\/
    (b1=w.heap.size/\w.heap.size<w'.heap.size/\(0<n->∃b0 o0,b=some ⟨b0,o0,none⟩/\b0∈fK/\∀i,i<n*kk.size->cellAt (hp w') b1 (o1+i)=cellAt (hp w) b0 (o0+i)))):=by
 have hnl:news.length=kk.size:=by simpa using hS.nl
 unfold Ow at hO
 rw[ak hown]at hO
 obtain⟨a,n',c',e1,e2,e3,hO⟩:=hO
 simp only[gQ,mE,dZ]at e1
 obtain⟨rfl,rfl,rfl⟩:=e1
 have e2':n=xs.length:=e2
 by_cases hr:n+1<=c
 ·have hrun:=J7 (ty:=ty) ht hS (b:=b) (n:=n) hr
  rcases hO with⟨hc0,_⟩|⟨bb,q,arr,lo,hi,ea,hbk,hf,hs,kR,hl0,hp0,hO⟩
  ·omega
  ·subst ea
   have hle:(n+1)*kk.size<=c*kk.size:=jC _ hr
   rw[gX,kZ]at hle
   have hst:=FH (P:=P) (o:=q+n*kk.size) news hbk hf (by rw[hnl];omega) hS.one
   simp only[Result.andThen,addr_add,hst]at hrun
   obtain⟨s1,s2,fD,s3,s4,s5,s6⟩:=Cf bb news w arr e (lo,hi) (q+n*kk.size) hbk (by rw[hnl];omega)
   refine⟨_,bb,q,c,fD,lo,hi,hrun,Cg bb news w _,by omega,hr,e2',s3,by rw[s4];exact hf,by rw[s4];exact hs,λi hi'=>?_,λb' _ h=>s1 b' h,.inl ⟨rfl,rfl,hp0.mem_iff.2 (by simp),by unfold h_;rw[hbk],arr,fD,e,(lo,hi),hbk,s3,s4,λi hi'=>?_⟩⟩
   ·unfold cellAt
    rw[s3]
    exact s5 i hi'
   ·exact s6 i (by rw[hnl];exact hi')
 ·obtain⟨olds,ho1,ho2,ho3⟩:∃olds:List Value,olds.length=n*kk.size/\(Builtin.firstCells kk.size n (.slice b n c)).run P w.drew=.ok olds.toArray w.drew/\(0<n->∃b0 o0,b=some ⟨b0,o0,none⟩/\b0∈fK/\∀i,i<n*kk.size->olds[i]?=cellAt (hp w) b0 (o0+i)):=by
   rcases hO with⟨hc0,hf0⟩|⟨bb,q,arr,lo,hi,ea,hbk,hf,hs,kR,hl0,hp0,hO⟩
   ·have hn0:n=0:=by omega
    subst hn0
    refine⟨[],by simp,?_,λh=>by omega⟩
    cases b with
    |none=>exact Qq w.drew kk.size 0 0 c
    |some ad=>exact zP (P:=P) w.drew kk.size 0 ad 0 c [] (by simp) (λj v hj=>by simp at hj)
   ·subst ea
    have hle:n*kk.size<=c*kk.size:=jC _ e3
    have hrow:=Cv (n:=n*kk.size) hbk (by omega:q+n*kk.size<=arr.size)
    have hrl:(gZ (hp w) bb q (n*kk.size)).length=n*kk.size:=by simp[gZ]
    refine⟨gZ (hp w) bb q (n*kk.size),hrl,?_,λ_=>⟨bb,q,rfl,hp0.mem_iff.2 (by simp),λi hi'=>(hrow i (by rw[hrl];exact hi')).symm⟩⟩
    refine zP (P:=P) w.drew kk.size n ⟨bb,q,none⟩ n c _ hrl (λj v hj=>?_)
    rw[addr_add,uC]
    have:=hrow j (by rw[hrl];have:=(nL.1 hj).1;rw[hrl]at this;exact this)
    rw[hj]at this
    exact this
  obtain⟨nc,hnc,hrun⟩:=Qp (ty:=ty) ht hS ho2 hr (by rw[e2'];exact hb)
  have hnew:=Bo w.drew (.cells (olds.toArray++news.toArray++Builtin.zeroCells (iK kk).cells (nc-(n+1))) e)
  have hold:∀b',b'<w.heap.size->hp (w.drew.alloc (.cells (olds.toArray++news.toArray++Builtin.zeroCells (iK kk).cells (nc-(n+1))) e)) b'=hp w b':=λb' h=>zw w.drew _ h
  have hws:w.drew.heap.size=w.heap.size:=rfl
  rw[hws]at hnew
  have hsz2:(w.drew.alloc (.cells (olds.toArray++news.toArray++Builtin.zeroCells (iK kk).cells (nc-(n+1))) e)).heap.size=w.heap.size+1:=Array.size_push ..
  have hzl:(iK kk).cells.size=kk.size:=by
   rw[Cu ht.sl.2.1.shape]
   simpa using eO (zU (h:=hp w) (own:=own) (ok:=ok) ht.sl.2.1.fq)
  have hcell:∀q,q<(olds++news).length->cellAt (hp (w.drew.alloc (.cells (olds.toArray++news.toArray++Builtin.zeroCells (iK kk).cells (nc-(n+1))) e))) w.heap.size (0+q)=(olds++news)[q]?:=by
   intro q hq
   unfold cellAt
   rw[hnew]
   simp only[jN]
   rw[Kv (by simpa using hq)]
   simp
  refine⟨_,w.heap.size,0,nc,_,0,0,hrun,⟨rfl,rfl,rfl⟩,by omega,hnc,e2',hnew,iE.zero,?_,λi hi=>?_,λb' h1 _=>hold b' h1,.inr ⟨rfl,by omega,λhn=>?_⟩⟩
  ·simp only[Array.size_append,Al,size_zeroCells,hzl,ho1,hnl]
   have h9:n*kk.size+kk.size+(nc-(n+1))*kk.size=(n+1+(nc-(n+1)))*kk.size:=by rw[gX,gX,kZ]
   rw[h9]
   have:n+1+(nc-(n+1))=nc:=by omega
   rw[this]
   omega
  ·rw[nO,hcell _ (by rw[d_,ho1];omega),u7 (by omega),ho1]
   congr 1
   omega
  ·obtain⟨b0,o0,z1,z2,z3⟩:=ho3 hn
   refine⟨b0,o0,z1,z2,λi hi=>?_⟩
   rw[hcell _ (by rw[d_,ho1];omega),uo (by rw[ho1];exact hi)]
   exact z3 i hi
end
section
variable {P:Program}{T:bF}{cx:Cx}{Z:St}{J:aF}{F:List Nat}{a:Act}{w:World}{o:Oper}{d:Nat}{ws:List Wr}{r:Nat}{R:Root}
theorem adt{h h':Heap}{own:List TypeId}{ok ok':Nat->Prop}{e:TypeId}{kk:K}{xs:List (El kk)}{b1 o1 n c:Nat}{fo:List Nat}(hall:∀t∈(K.sl e kk).tys,ah t own=true)(hnd:fo.Nodup)
  (H:Ow h own ok (.sl e kk) xs [.slice (some ⟨b1,o1,none⟩) n c] fo) (hb1:b1∈fo) (hs:j_ h h' b1 (o1+n*kk.size) kk.size) (ho:∀b∈fo,b≠b1->h' b=h b):Ow h' own ok' (.sl e kk) xs [.slice (some ⟨b1,o1,none⟩) n c] fo:=by
 have he:ah e own=true:=hall e (by simp[K.tys])
 unfold Ow at H ⊢
 rw[ak he]at H ⊢
 obtain⟨a,n',c',e1,e2,e3,H⟩:=H
 simp only[gQ,mE,dZ]at e1
 obtain⟨rfl,rfl,rfl⟩:=e1
 have e2':n=xs.length:=e2
 refine⟨_,n,c,rfl,e2,e3,?_⟩
 rcases H with⟨hc0,hf0⟩|⟨bb,q,arr,lo,hi,ea,hbk,hf,hsz,au,hl,hp,H⟩
 ·rw[hf0]at hb1;simp at hb1
 ·simp only[aa,oP,dZ]at ea
  obtain⟨rfl,rfl⟩:=ea
  obtain⟨T9,fD,te,fr,s1,s2,s3,s4⟩:=hs
  rw[hbk]at s1
  simp only[aa,Obj.cells.injEq]at s1
  obtain⟨rfl,rfl,rfl⟩:=s1
  have kU:=hp.nodup hnd
  refine .inr ⟨b1,o1,fD,lo,hi,rfl,s2,by rw[s3];exact hf,by rw[s3];exact hsz,au,hl,hp,λi hi'=>?_⟩
  obtain⟨ds,g1,g2⟩:=H i hi'
  have hds:=eO g2
  refine⟨ds,λj hj=>?_,?_⟩
  ·have:=g1 j hj
   unfold cellAt at this ⊢
   rw[hbk]at this
   rw[s2]
   simp only at this ⊢
   have hlt:(i+1)*kk.size<=n*kk.size:=jC _ (by have:i<xs.length:=hi';omega)
   rw[gX,kZ]at hlt
   rw[s4 _ (by omega)]
   exact this
  ·refine lq (om (λt ht=>hall t (by simp[K.tys,ht]))) (dK (ok:=λ_=>False) (ok':=λ_=>False) (λ_ h=>h.elim) (λ_ h=>h) (λb' hb'=>?_) (lq (om (λt ht=>hall t (by simp[K.tys,ht]))) g2))
   have hm:=tu hb'
   exact ho b' (hp.mem_iff.2 (ji _ hm)) (λe=>(jB.1 kU).1 (e▸hm))
end
section
variable {P:Program}{T:bF}{cx:Cx}{Z:St}{J:aF}{F:List Nat}{a:Act}{w:World}{o:Oper}{d:Nat}{ws:List Wr}{r:Nat}{R:Root}
theorem aeM(hT:eG P T)(H:Rel cx Z J F a w)(hd:o.dst=some d)(hdn:d<cx.nt){c:Call}(ho:o.op=.call c)(hcb:c.callee=.builtin .append){u v:AV}{t:TypeId}{e1:TypeId}{k1:K}(hl:gU cx Z J F w [u,v] (c.args.toList.map a.eval))
  (hat:c.argTypes[0]?=some t) (ht1:(c.argTypes[1]?).bind T.ty=some (.sl e1 k1)) (h:(LK T d t u v λws=>(.ret ws:Prog (List Wr))).ends Z ws):dn P cx o a w (aB ws Z):=by
 obtain⟨x,y,hxy,hu,hv0⟩:=Kk hl
 obtain⟨t2,vN,ht2⟩:=qR hT ht1
 unfold LK at h
 split at h
 ·rename_i e kk r p n0 rb gb hty
  have ht:=hT.ty t _ hty
  obtain⟨B,NJ,hvB,h⟩:=gJ h
  rcases bz h with⟨hc,h5⟩|⟨_,h5⟩
  ·clear h
   simp only[bg,jU,gq]at hc
   obtain⟨⟨⟨⟨⟨c1,c2⟩,c3⟩,c4⟩,c5⟩,c6⟩:=hc
   have hne:r≠rb:=λe=>by rw[e]at c3;simp at c3
   have M3:=mQ c6
   cases hcB:bR B.k (.sl e kk) B.x with
   |none=>rw[hcB]at h5;exact h5.elim
   |some ys=>
    rw[hcB]at h5
    simp only at h5
    obtain⟨R,hr,hv,h6⟩:=gJ h5
    rcases bz h6 with⟨hc2,h7⟩|⟨_,h7⟩
    ·clear h5 h6
     simp only[bg]at hc2
     obtain⟨⟨⟨q1,q2⟩,q3⟩,q4⟩:=hc2
     have hall:=mQ q3
     cases hg:aA p R.k R.x with
     |none=>rw[hg]at h7;exact h7.elim
     |some dd=>
      rw[hg]at h7
      simp only at h7
      cases hck:bR dd.1 (.sl e kk) dd.2 with
      |none=>rw[hck]at h7;exact h7.elim
      |some xs=>
       rw[hck]at h7
       simp only at h7
       obtain⟨ek,ey⟩:=iw hck
       obtain⟨dk,dx⟩:=dd
       simp only at ek ey
       subst ek
       simp only at ey
       subst ey
       cases hz:bJ p R.k R.x ⟨.sl e kk,xs⟩with
       |none=>rw[hz]at h7;exact h7.elim
       |some z=>
        rw[hz]at h7
        simp only at h7
        obtain⟨⟨hy1,hbd⟩,h8⟩:=h7
        obtain⟨hfr,h9⟩:=nS h8
        rw[bu h9]
        obtain⟨hkB,hVB⟩:=hv0 B NJ (a_ c1)
        obtain⟨UM,eyB⟩:=iw hcB
        obtain⟨H1,T1,hH,hcl⟩:=kill H NJ hkB hvB
        have hSr:Same Z J (aL Z rb gM) (iC J rb) r:=kg hne
        have hr1:=(hSr.live R).2 hr
        have htB:∀n,(rb,n)∉R.tags:=λn hn=>by
         have:=dX.1 q4 _ hn
         simp at this
        have hv1:cz (aL Z rb gM) R:=⟨hv.1,by rw[uD htB];exact hv.2⟩
        obtain⟨b_,hown,cs,wh,hn,iX⟩:=hu R hr.1 hv (a_ q1) _ hg
        have hn1:aN (hp w) p R.k ((iC J rb).hdr r) (aK (iC J rb) R r)=some (cs,wh):=by rw[hSr.hdr,hSr.wh];exact hn
        obtain⟨fd,ok',aS,rest,iG,bZ,hn',hpf,hd1,apa,_,fM,hwf,hgo⟩:=H1.place hr1 hv1 (own':=R.own) hg b_ (λt h=>h) hown
        rw[hn1]at hn'
        simp only[aa,bK]at hn'
        obtain⟨rfl,rfl⟩:=hn'
        have K1:=H1.roots r R hr1
        have hnd:=K1.nd
        rw[iN,rJ]at hnd
        have D6:=hpf.nodup hnd.2
        have IC:∀b∈aS,b∈(iC J rb).fo r:=λb hb=>hpf.mem_iff.2 (bP _ (bP _ hb))
        have VN:=(dA.1 (dA.1 D6).1).1
        have Be:∀b∈aS,b<w.heap.size:=λb hb=>(K1.mine b (by rw[iN,kW];exact .inr (IC b hb))).1
        have VM:∀b∈aS,b∉J.fo rb++F:=λb hb=>H1.dM r R hr1 b (by rw[iN,kW];exact .inr (IC b hb))
        have hhd:∃b n c,a.eval x=.slice b n c/\cs=[.slice b n c]:=by
         have hO:=hd1
         unfold Ow at hO
         rw[ak (hall e (by simp[K.tys]))]at hO
         obtain⟨b,n,c,e1,_⟩:=hO
         have hV1:=iX.1
         rw[e1]at hV1
         simp only[gQ,dZ]at hV1
         exact⟨b,n,c,hV1.symm,e1⟩
        obtain⟨b,n,cp,evx,rfl⟩:=hhd
        have hlen1 : @List.length (El kk) ys=1:=hy1
        have hOB:Ow (hp w) B.own (aO cx (aL Z rb gM) (iC J rb) (J.fo rb++F) w B.tags) (.sl e kk) ys (J.hdr rb) (J.fo rb):=by
         have h0:=hH.ow hcl
         exact uw UM eyB h0
        have agA:VC (.sl e kk) (a.eval y) (J.hdr rb):=UM▸hVB
        obtain⟨news,hS,au,hfl,vP,ahd,hE⟩:=Zr (P:=P) (u:=t2) (.inl ⟨_,ht2.sl.1⟩) ht.sl.2.1.fq agA (M3 e (by simp[K.tys])) hOB hH.nd
        rw[hlen1]at hS
        have hnl:news.length=kk.size:=by simpa using hS.nl
        have Nw:0 < @List.length (El kk) ys:=by omega
        have hE0:=hE 0 Nw
        have hseg:gH news kk.size 0=news:=by
         unfold gH
         simp only[Nat.zero_mul,u6]
         exact Tp (by omega)
        rw[hseg]at hE0
        generalize hfe:au.getD 0 []=fe at hE0
        have IB:∀b∈fe,b∈J.fo rb:=λb hb=>ahd b (tu (by rw[hfe];exact hb))
        have VL:fe.Nodup:=by
         have:au=[fe]:=by
          cases au with
          |nil=>simp[hlen1]at hfl
          |cons f l=>cases l with
           |nil=>simp at hfe;rw[hfe]
           |cons _ _=>simp[hlen1]at hfl
         rw[this]at vP
         simpa using vP
        obtain⟨w',b1,o1,c1',arr,lo,hi,hrun,hos,hsz,hnc,hnx,hblk1,VQ,hsize,hcells,hoth,hcase⟩:=adP (P:=P) (u:=t2) (ty:=o.type) (x:=a.eval y) ht hd1 (hall e (by simp[K.tys])) hS hbd
        obtain⟨F',hF1,hF2,Io,M4⟩:∃F':List Nat,(∀b∈F',b∈J.fo rb++F\/(w.heap.size<=b/\b<w'.heap.size))/\F'.Nodup/\(∀b∈J.fo rb++F,b∈F')/\(b1=w.heap.size->w.heap.size<w'.heap.size->b1∈F'):=by
         by_cases hs:w.heap.size<w'.heap.size
         ·refine⟨w.heap.size :: (J.fo rb++F),λb hb=>?_,jB.2 ⟨λhm=>?_,H1.gD⟩,λb hb=>ji _ hb,λe _=>by rw[e];exact jl⟩
          ·rcases bH.1 hb with h|h
           ·exact .inr ⟨by omega,by omega⟩
           ·exact .inl h
          ·have:=(H1.fl _ hm).1;omega
         ·exact⟨J.fo rb++F,λb hb=>.inl hb,H1.gD,λb hb=>hb,λ_ h=>absurd h hs⟩
        have ag9:∀b∈aS,b∉F':=λb hb hm=>by
         rcases hF1 b hm with h|h
         ·exact VM b hb h
         ·have:=Be b hb;omega
        have Wo:∀b',b'<w.heap.size->b'∉aS->hp w' b'=hp w b':=λb' hlt hno=>hoth b' hlt (λe=>by
         rcases hcase with⟨_,_,h,_⟩|⟨h,_⟩
         ·exact hno (e▸h)
         ·omega)
        have hP:yJ cx (aL Z rb gM) (iC J rb) (J.fo rb++F) w r R p ⟨.sl e kk,xs⟩ R.own [.slice b n cp] wh aS rest ⟨.sl e kk,xs⟩ z R.tags [e] (K.sl e kk).tys R.keep aS F' [.slice b n cp] w':=by
         have hnt:=H1.fu r R hr1.1
         refine⟨hz,rfl,λ_ h=>h,hos,hsz,λb' hlt hne'=>?_,λb' o' e'=>?_,λ_=>rfl,rfl,.inl (by simp),⟨λ_ h=>h,hnt.1,hnt.2.2⟩,λb' hb'=>.inl hb',VN,λb' hb'=>(hF1 b' hb').imp id .inl,hF2,ag9,.inl rfl,.inl rfl,λ_ q c0 w0 hpq qM hnq Bp=>?_,λJ' Tn hblk hval=>?_⟩
         ·refine .inr (.inl ?_)
          by_cases e':b'=b1
          ·rcases hcase with⟨_,_,h1,h2,_⟩|⟨h,_⟩
           ·exact⟨e'▸h1,e,by simp,e'▸h2⟩
           ·omega
          ·exact absurd (hoth b' hlt e') hne'
         ·obtain⟨m1,_,m2,⟨T9,te,l0,h0,m3,_⟩,_⟩:=tQ H1 hr1 hv1 hg b_ hown (by rw[hn1,e'])
          have hlt:=(K1.mine b' m2).1
          have hs:=Wo b' hlt (hwf b' o' e')
          exact⟨m1.congr hs,j_.of_same _ _ m3 hs⟩
         ·cases q with
          |nil=>
           simp only[aN,aa,bK]at hnq
           exact⟨trivial,[.slice b n cp],by simp only[aN];rw[hnq.2]⟩
          |cons s q=>
           cases s with
           |aP n=>exact hpq.elim
           |idx i=>exact absurd (show e∈(K.sl e kk).tys by simp[K.tys]) (qM e (by simp[az])).2
         ·rcases hcase with⟨hb,_,h1,h2,h3⟩|⟨hb,_⟩
          ·rw[hb]at hd1 ⊢
           refine adt hall VN hd1 h1 h3 (λb' hb' hne'=>hoth b' (Be b' hb') hne')
          ·exact lq (om hall) (dK (ok:=λ_=>False) (ok':=λ_=>False) (λ_ h=>h.elim) (λ_ h=>h) (λb' hb'=>hoth b' (Be b' hb') (λe=>by have:=Be b' hb';omega)) (lq (om hall) hd1))
        obtain⟨fZ,hR2,M_,hb2,NC,DX⟩:=hgo hP
        have nV:aG d 0≠r:=λe=>by have:=hr.1;rw[<-e,hfr]at this;simp at this
        have hqB:aG d 0≠rb:=λe=>by have:=NJ.1;rw[<-e,hfr]at this;simp at this
        have hq0:(aL (aL Z rb gM) r (fV R z R.own R.tags [e] (K.sl e kk).tys R.keep)).roots (aG d 0)=none:=by
         rw[jf _ _ nV,jf _ _ hqB];exact hfr
        obtain⟨vR,mK,Nn,Np,Nq,Nr⟩:∃(vR:Value) (mK:List Nat),(∀b'∈mK,b'∈F')/\mK.Nodup/\
          Ow (hp w') (e :: kk.tys) (λ_=>False) (wY e kk) ((show List (El kk)from ys).getD 0 kk.zero,(([]:List Unit),())) (news++[vR]) mK/\
          ((b=some ⟨b1,o1,none⟩/\b1∈aS/\vR=.slice none 0 0/\cp=c1')\/(vR=.slice (some ⟨b1,o1,none⟩) 0 c1'/\b1∈mK/\(0<n->∃b0 o0,b=some ⟨b0,o0,none⟩/\b0∈aS/\∀i,i<n*kk.size->cellAt (hp w') b1 (o1+i)=cellAt (hp w') b0 (o0+i)))):=by
         have VK:∀b'∈fe,b'<w.heap.size:=λb' hb'=>(H1.fl b' (bP _ (IB b' hb'))).1
         have ag3:∀b'∈fe,b'∉aS:=λb' hb' h=>VM b' h (bP _ (IB b' hb'))
         have hy0:(show List (El kk)from ys).getD 0 kk.zero=@getElem (List (El kk)) Nat (El kk) _ _ ys 0 Nw:=mM Nw
         have Iq:Ow (hp w') (e :: kk.tys) (λ_=>False) kk ((show List (El kk)from ys).getD 0 kk.zero) news fe:=by
          rw[hy0]
          have h1:=lq (ok':=λ_=>False) (om (λt ht=>M3 t (by simp[K.tys,ht]))) hE0
          have h2:=dK (h':=hp w') (ok':=λ_=>False) (λ_ h=>h.elim) (λ_ h=>h) (λb' hb'=>Wo b' (VK b' hb') (ag3 b' hb')) h1
          exact q8 (λt ht=>by rw[fA.2 (ji _ ht),M3 t (by simp[K.tys,ht])]) h2
         rcases hcase with⟨hb,hcc,h1,h2,h3⟩|⟨hb,hlt,hcp⟩
         ·refine⟨.slice none 0 0,fe,λb' hb'=>Io b' (bP _ (IB b' hb')),VL,?_,.inl ⟨hb,h1,rfl,hcc⟩⟩
          exact⟨news,[.slice none 0 0],fe,[],rfl,by simp,Iq,[.slice none 0 0],[],[],[],rfl,by simp,Fp,rfl,rfl⟩
         ·refine⟨.slice (some ⟨b1,o1,none⟩) 0 c1',fe++[b1],λb' hb'=>?_,dA.2 ⟨VL,by simp,λb' h1 b2 h2 e=>by
            simp only[gW]at h2
            subst h2
            have:=VK b' h1
            omega⟩,?_,.inr ⟨rfl,by simp,λhn0=>?_⟩⟩
          ·rcases cZ.1 hb' with h|h
           ·exact Io b' (bP _ (IB b' h))
           ·simp only[gW]at h
            rw[h]
            exact M4 hb hlt
          ·refine⟨news,[.slice (some ⟨b1,o1,none⟩) 0 c1'],fe,[b1],rfl,.refl _,Iq,[.slice (some ⟨b1,o1,none⟩) 0 c1'],[],[b1],[],rfl,by simp,?_,rfl,rfl⟩
           have hOs:Ow (hp w') (e :: kk.tys) (λ_=>False) (.sl e (.gap kk.size)) (show List (El (.gap kk.size))from []) [.slice (some ⟨b1,o1,none⟩) 0 c1'] [b1]:=by
            unfold Ow
            rw[ak (fA.2 jl)]
            exact⟨_,0,c1',rfl,rfl,dY _,.inr ⟨b1,o1,arr,lo,hi,rfl,hblk1,VQ,hsize,[],rfl,by simp,λi hi'=>absurd hi' (Nat.not_lt_zero _)⟩⟩
           exact hOs
          ·obtain⟨b0,o0,z1,z2,z3⟩:=hcp hn0
           have hs0:hp w' b0=hp w b0:=hoth b0 (Be b0 z2) (λe=>by have:=Be b0 z2;omega)
           exact⟨b0,o0,z1,z2,λi hi'=>by rw[z3 i hi',xe hs0]⟩
        have hkq:(bL (wY e kk) ((show List (El kk)from ys).getD 0 kk.zero,(([]:List Unit),())) (e :: kk.tys) [] .anon).kind=.anon:=rfl
        obtain⟨A1,A2⟩:=Av (R':=bL (wY e kk) ((show List (El kk)from ys).getD 0 kk.zero,(([]:List Unit),())) (e :: kk.tys) [] .anon) hR2 hq0 (nX d 0) rfl (by simp[bL]) (λt ht=>by simp[bL]at ht) (0,0) (news++[vR]) mK []
         (λb' hb'=>by rw[o7 hkq]at hb';exact⟨Nn b' hb',by simp⟩) (by rw[o7 hkq];exact Np) (λb' hb'=>by simp at hb') lM
         (λ_=>dK (λ_ h=>h.elim) (λ_ h=>h.elim) (λ_ _=>rfl) Nq) (by simp[bL,K.size,hnl]) (λb' o' hb'=>by rw[Cs hkq]at hb';simp at hb')
        have Bu:(Builtin.append_ #[t,t2] o.type #[a.eval x,a.eval y]).run P w=.ok (.slice (some ⟨b1,o1,none⟩) (n+1) c1') w':=by rw[evx];exact hrun
        refine nk (x:=.one (.app r p (dz (e :: R.w)+dz ((K.sl e kk).tys++R.h)) (aG d 0))) A1 hd hdn (FE ho hcb hxy hat vN Bu) ?_ ?_
        ·intro R2 M7 Wu _ Q2 sO _
         rw[jf _ _ nV.symm,fF]at M7
         simp only[aa]at M7
         subst M7
         obtain⟨rfl,_⟩:=nE sO
         have hv2:cz (aL (aL Z rb gM) r (fV R z R.own R.tags [e] (K.sl e kk).tys R.keep)) (fV R z R.own R.tags [e] (K.sl e kk).tys R.keep):=by
          refine⟨Wu.1,?_⟩
          have h0:=Wu.2
          rw[uD]at h0
          ·exact h0
          ·intro m hm
           have hm':(aG d 0,m)∈R.tags:=hm
           rcases(H.fu r R hr.1).1 _ hm' with h|⟨Q,h1,_⟩
           ·simp only[nX]at h;simp at h
           ·simp only at h1;rw[hfr]at h1;simp at h1
         have lX:=NC c5 hv2
         have hd2:(aW fZ (aG d 0) (0,0) (news++[vR]) mK).hdr r=fZ.hdr r:=upd_ne _ _ nV.symm
         have hw2:aK (aW fZ (aG d 0) (0,0) (news++[vR]) mK) (fV R z R.own R.tags [e] (K.sl e kk).tys R.keep) r=aK fZ (fV R z R.own R.tags [e] (K.sl e kk).tys R.keep) r:=by
          unfold aK;simp[aW,upd_ne _ _ nV.symm]
         have hf2:(aW fZ (aG d 0) (0,0) (news++[vR]) mK).fo r=fZ.fo r:=upd_ne _ _ nV.symm
         obtain⟨g1,g2,g3,g4⟩:=Vd (h:=hp w') p c4 hg hz rfl
         refine⟨e,kk,xs,wh,b,n,cp,news,vR,b1,o1,c1',arr,lo,hi,g1,g2,λt ht=>?_,by rw[hd2,hw2];exact lX,⟨rfl,rfl⟩,by simp[aW,upd_same],hnl,rfl,hnc,hblk1,VQ,hsize,hcells,?_⟩
         ·have ht':t∈az p z.1:=ht
          rw[g3]at ht'
          simp at ht'
         ·rcases Nr with⟨z1,z2,z3⟩|⟨z1,z2,z3⟩
          ·exact .inl ⟨z1,by rw[hf2];exact DX b1 z2,z3⟩
          ·refine .inr ⟨z1,by simp only[aW,upd_same];exact z2,λhn0=>?_⟩
           obtain⟨b0,o0,y1,y2,y3⟩:=z3 hn0
           exact⟨b0,o0,y1,by rw[hf2];exact DX b0 y2,y3⟩
        ·refine⟨⟨fV R z R.own R.tags [e] (K.sl e kk).tys R.keep,?_,.inr (bT _)⟩,_,fF ..⟩
         rw[jf _ _ nV.symm,fF]
    ·exact h7.elim
  ·exact h5.elim
 ·exact h.elim
end
section
variable {P:Program}{T:bF}{cx:Cx}{Z:St}{J:aF}{F:List Nat}{a:Act}{w:World}{o:Oper}{d:Nat}{ws:List Wr}{r:Nat}{R:Root}
theorem aeN(hT:eG P T)(H:Rel cx Z J F a w)(hd:o.dst=none){t:TypeId}{x y:Operand}(ho:o.op=.store t x y){u:AV}{r n q:Nat}{p:List Stp}{k0:K}(hk0:T.ty t=some k0)(h1:aR cx Z J F w u (a.eval x))(h2:dB Z u)(h3:aR cx Z J F w (.app r p n q) (a.eval y))
  (h:(LM k0 u r p n q λws=>(.ret ws:Prog (List Wr))).ends Z ws):dn P cx o a w (aB ws Z):=by
 have ht:=hT.ty t k0 hk0
 cases k0 with
 |sl e kk=>
  cases u with
  |ptr r' p' h0=>
   simp only[LM]at h
   rcases bz h with⟨hc,h5⟩|⟨_,h5⟩
   ·clear h
    simp only[bg,jU]at hc
    obtain⟨⟨⟨c1,c2⟩,c3⟩,c4⟩:=hc
    have hne:r≠q:=λe=>by rw[e]at c4;simp at c4
    have er:=a_ c1
    have II:p'.all Stp.jo=true:=JM c2 c3
    have ep:=EX c2 (by rw[xG c3,xG II])
    subst er ep
    obtain⟨Q,oJ,lF,h6⟩:=gJ h5
    rcases bz h6 with⟨qK,h7⟩|⟨_,h7⟩
    ·clear h5 h6
     simp only[bg]at qK
     have M6:=mQ qK.2
     cases pq:bR Q.k (wY e kk) Q.x with
     |none=>rw[pq]at h7;exact h7.elim
     |some yq=>
      rw[pq]at h7
      simp only at h7
      obtain⟨R,hr,hv,h8⟩:=gJ h7
      rcases bz h8 with⟨hcR,h9⟩|⟨_,h9⟩
      ·clear h7 h8
       simp only[bg]at hcR
       obtain⟨⟨⟨⟨d1,d2⟩,d3⟩,d4⟩,d5⟩:=hcR
       have hall:=mQ d4
       cases hg:aA p R.k R.x with
       |none=>rw[hg]at h9;exact h9.elim
       |some dd=>
        rw[hg]at h9
        simp only at h9
        cases hck:bR dd.1 (.sl e kk) dd.2 with
        |none=>rw[hck]at h9;exact h9.elim
        |some xs=>
         rw[hck]at h9
         simp only at h9
         obtain⟨ek,ey⟩:=iw hck
         obtain⟨dk,dx⟩:=dd
         simp only at ek ey
         subst ek
         simp only at ey
         subst ey
         cases hz:bJ p R.k R.x ⟨.sl e kk,(show List (El kk)from xs)++[(show El kk from yq.1)]⟩with
         |none=>rw[hz]at h9;exact h9.elim
         |some z=>
          rw[hz]at h9
          rw[bu h9]
          obtain⟨e',BI,xs',wh,b,n',c,ce,hq,b1,o1,cc,arr,lo,hi,a1,a2,a3,a4,⟨a5,akd⟩,a6,a7,a8,a9,Di,LG,a12,LH,yK⟩:=h3 R hr.1 hv (a_ d1) Q oJ (a_ qK.1)
          rw[hg]at a1
          simp only[aa,Sigma.mk.injEq,K.sl.injEq]at a1
          obtain⟨⟨rfl,rfl⟩,a1⟩:=a1
          have a1:=eq_of_heq a1
          subst a1
          obtain⟨H1,T1,hH,hcl⟩:=kill H oJ akd lF
          have hSr:Same Z J (aL Z q gM) (iC J q) r:=kg hne
          have hr1:=(hSr.live R).2 hr
          have qM:∀m,(q,m)∉R.tags:=λm hm=>by
           have:=dX.1 d5 _ hm
           simp at this
          have hv1:cz (aL Z q gM) R:=⟨hv.1,by rw[uD qM];exact hv.2⟩
          obtain⟨_,cs,bA,oA,hn2,eA⟩:=h1.2 R hr.1 hv d3 a3 (by rw[hg];rfl)
          rw[a4]at hn2
          simp only[aa,bK]at hn2
          obtain⟨rfl,rfl⟩:=hn2
          have hn1:aN (hp w) p R.k ((iC J q).hdr r) (aK (iC J q) R r)=some ([.slice b n' c],some (bA,oA)):=by rw[hSr.hdr,hSr.wh];exact a4
          obtain⟨xh,yY⟩:=iw pq
          have lD:Ow (hp w) Q.own (aO cx (aL Z q gM) (iC J q) (J.fo q++F) w Q.tags) (wY e kk) yq (ce++[hq]) (J.fo q):=by
           have h0:=uw xh yY (hH.ow hcl)
           rw[a6]at h0
           exact h0
          obtain⟨c1',c2',f1,f2,ec,hpq,o_,hO2⟩:=lD
          have hlc:=eO o_
          have hcc:=List.append_inj ec (by rw[a7,hlc])
          obtain⟨rfl,rfl⟩:=hcc
          obtain⟨c3',Mf,f3,f4,UL,ahH,hO3,hO4⟩:=hO2
          have hpn:=hpq.nodup hH.nd
          have Wl:=dA.1 hpn
          have Nk:∀b'∈f1,b'∈J.fo q:=λb' hb'=>hpq.mem_iff.2 (bP _ hb')
          have agn:Ow (hp w) R.own (λ_=>False) kk yq.1 ce f1:=q8 (λt ht=>by rw[hall t (by simp[K.tys,ht]),M6 t (ji _ ht)]) (lq (om (λt ht=>M6 t (ji _ ht))) o_)
          have agI:b1∉f1\/b1∈J.fo r:=by
           rcases yK with⟨_,z2,_⟩|⟨z1,z2,_⟩
           ·exact .inr z2
           ·refine .inl λhm=>?_
            have hlen3:=eO hO3
            have hc3:c3'=[hq]/\Mf=[]:=by
             cases c3' with
             |nil=>simp[K.size]at hlen3
             |cons a l=>
              simp only[iR,gQ]at UL
              obtain⟨rfl,h⟩:=UL
              have:=List.append_eq_nil_iff.1 h.symm
              rw[this.1,this.2]
              exact⟨rfl,rfl⟩
            rw[hc3.1,z1]at hO3
            unfold Ow at hO3
            rw[ak (M6 e jl)]at hO3
            obtain⟨a',m',cm,g1,_,_,g4⟩:=hO3
            simp only[gQ,mE,dZ]at g1
            obtain⟨rfl,rfl,rfl⟩:=g1
            rcases g4 with⟨g4,_⟩|⟨bb,q',_,_,_,g5,_,_,_,au,_,g6,_⟩
            ·omega
            ·simp only[aa,oP,dZ]at g5
             obtain⟨rfl,rfl⟩:=g5
             exact Wl.2.2 b1 hm b1 (ahH.mem_iff.2 (bP _ (g6.mem_iff.2 jl))) rfl
          have DV:∀b'∈(iC J q).fo r,b'∉J.fo q++F:=λb' hb'=>H1.dM r R hr1 b' (by rw[iN,kW];exact .inr hb')
          obtain⟨w',r1,J',F',r2⟩:=Qm (P:=P) ht H1 hr1 hv1 hg hz a2 a3 hall hn1 (v:=.slice (some ⟨b1,o1,none⟩) (n'+1) cc) ⟨_,_,_,rfl⟩ (lw:=[fU R p,e]) (by simp) (λaS ok hO hnd hsub=>by
           have he:ah e R.own=true:=hall e (by simp[K.tys])
           unfold Ow at hO
           rw[ak he]at hO
           obtain⟨a0,n2,c2,e1,e2,e3,hO⟩:=hO
           simp only[gQ,mE,dZ]at e1
           obtain⟨rfl,rfl,rfl⟩:=e1
           have e2:n'=@List.length (El kk) xs:=e2
           obtain⟨au,hfl,hfs,hfn,hfe⟩:∃au:List (List Nat),au.length=@List.length (El kk) xs/\(∀b'∈au.flatten,b'∈aS/\b'≠b1)/\au.flatten.Nodup/\∀(i:Nat) (hi:i < @List.length (El kk) xs),∃ds,Cells (hp w) b1 (o1+i*kk.size) ds/\Ow (hp w) R.own ok kk (@getElem (List (El kk)) Nat (El kk) _ _ xs i hi) ds (au.getD i []):=by
            rcases hO with⟨hc0,hf0⟩|⟨bb,q',fD,lo',hi',ea,hbk,hfz,hs,au,hl,hp0,hO⟩
            ·have hx0 : @List.length (El kk) xs=0:=by omega
             exact⟨[],by simp[hx0],by simp,by simp,λi hi=>by omega⟩
            ·have kU:=hp0.nodup hnd
             have ao_:bb∈(iC J q).fo r:=hsub bb (hp0.mem_iff.2 jl)
             refine⟨au,hl,λb' hb'=>⟨hp0.mem_iff.2 (ji _ hb'),λeb=>?_⟩,(jB.1 kU).2,λi hi=>?_⟩
             ·subst eb
              rcases yK with⟨z1,_,_⟩|⟨_,z2,_⟩
              ·rw[z1]at ea
               simp only[aa,oP,dZ]at ea
               rw[ea.1]at hb'
               exact(jB.1 kU).1 hb'
              ·exact DV b' (hsub b' (hp0.mem_iff.2 (ji _ hb'))) (bP _ z2)
             ·obtain⟨ds,g1,g2⟩:=hO i hi
              refine⟨ds,?_,g2⟩
              rcases yK with⟨z1,_,_⟩|⟨_,_,z3⟩
              ·rw[z1]at ea
               simp only[aa,oP,dZ]at ea
               rw[ea.1,ea.2]
               exact g1
              ·obtain⟨b0,o0,y1,_,y3⟩:=z3 (by omega)
               rw[y1]at ea
               simp only[aa,oP,dZ]at ea
               obtain⟨rfl,rfl⟩:=ea
               have hdl:=eO g2
               intro j hj
               rw[<-g1 j hj,nO,y3 (i*kk.size+j) (by
                have hb2:(i+1)*kk.size<=n'*kk.size:=jC _ (by omega)
                rw[gX,kZ]at hb2
                omega),<-nO]
           have agJ:b1∉f1:=by
            rcases agI with h|h
            ·exact h
            ·intro hm
             exact DV b1 (by rw[hSr.fo];exact h) (bP _ (Nk b1 hm))
           refine⟨b1 :: (au.flatten++f1),jB.2 ⟨λhm=>?_,dA.2 ⟨hfn,Wl.1,λb' h1' b2 h2' eb=>?_⟩⟩,λb' hb'=>?_,?_⟩
           ·rcases cZ.1 hm with h|h
            ·exact(hfs b1 h).2 rfl
            ·exact agJ h
           ·subst eb
            exact DV b' (hsub b' (hfs b' h1').1) (bP _ (Nk b' h2'))
           ·rcases bH.1 hb' with h|h
            ·subst h
             rcases yK with⟨z1,_,_,z4⟩|⟨_,z2,_⟩
             ·refine .inl ?_
              rcases hO with⟨hc0,_⟩|⟨bb,q',_,_,_,ea,_,_,_,_,_,hp0,_⟩
              ·omega
              ·rw[z1]at ea
               simp only[aa,oP,dZ]at ea
               rw[ea.1]
               exact hp0.mem_iff.2 jl
             ·exact .inr (bP _ z2)
            ·rcases cZ.1 h with h|h
             ·exact .inl (hfs b' h).1
             ·exact .inr (bP _ (Nk b' h))
           ·have DL:Ow (hp w) R.own (λ_=>False) (.sl e kk) (show List (El kk)from(show List (El kk)from xs)++[(show El kk from yq.1)]) [.slice (some ⟨b1,o1,none⟩) (n'+1) cc] (b1 :: (au.flatten++f1)):=by
             unfold Ow
             rw[ak he]
             have hlen:(@HAppend.hAppend (List (El kk)) (List (El kk)) (List (El kk)) _ xs [yq.1]).length=n'+1:=by rw[d_,e2];rfl
             refine⟨_,n'+1,cc,rfl,hlen.symm,a9,.inr ⟨b1,o1,arr,lo,hi,rfl,Di,LG,a12,au++[f1],by show(au++[f1]).length=_;rw[d_,hfl,hlen,e2];rfl,by simp,λi hi'=>?_⟩⟩
             have hi2:i<(@HAppend.hAppend (List (El kk)) (List (El kk)) (List (El kk)) _ xs [yq.1]).length:=hi'
             rw[hlen]at hi2
             rw[DI]
             by_cases hi0:i < @List.length (El kk) xs
             ·obtain⟨ds,g1,g2⟩:=hfe i hi0
              rw[ak (by rw[hfl];exact hi0)]
              have hx:(show List (El kk)from(show List (El kk)from xs)++[(show El kk from yq.1)])[i]'hi'=@getElem (List (El kk)) Nat (El kk) _ _ xs i hi0:=yE hi0
              rw[hx]
              exact⟨ds,g1,lq (om (λt ht=>hall t (by simp[K.tys,ht]))) g2⟩
             ·have hin:i=n':=by omega
              rw[aj (by rw[hfl];exact hi0)]
              have hx:(show List (El kk)from(show List (El kk)from xs)++[(show El kk from yq.1)])[i]'hi'=yq.1:=by
               have:=@GR (El kk) xs [yq.1] i (by omega) hi'
               refine this.trans ?_
               simp
              rw[hx]
              have ahW:i-au.length=0:=by omega
              rw[ahW]
              exact⟨ce,by rw[hin];exact LH,agn⟩
            exact DL)
          refine⟨undef,w',J',F',.inr ⟨?_,rfl⟩,?_⟩
          ·simp only[execOp,ho,eA,a8,dG,r1,eZ,dW]
          ·rw[hd]
           exact r2
      ·exact h9.elim
    ·exact h7.elim
   ·exact h5.elim
  |_=>exact h.elim
 |_=>exact h.elim
end
section
variable {P:Program}{T:bF}{cx:Cx}{Z:St}{J:aF}{F:List Nat}{a:Act}{w:World}{o:Oper}{d:Nat}{ws:List Wr}{r:Nat}{R:Root}
theorem am2{h h':Heap}:∀{p:List Stp} {k:K} {cs:List Value} {wh:Option (Nat×Nat)},p.all Stp.jo=true->aN h' p k cs wh=aN h p k cs wh:=by
 intro p
 induction p with
 |nil=>intro k cs wh _;rfl
 |cons s p ih=>
  intro k cs wh hp
  cases s with
  |idx i=>simp[Stp.jo]at hp
  |aP n=>
   have hp':p.all Stp.jo=true:=by simpa[Stp.jo]using hp
   cases k with
   |st c=>
    simp only[aN]
    cases bI n c with
    |none=>rfl
    |some q=>exact ih hp'
   |_=>rfl
theorem adO{t u ty e:TypeId}{kk:K}(ht:cK P T t (.sl e kk)){b:Option Addr}{n c m:Nat}{x:Value}{news:List Value}(hnc:n<=c)
  (hrow:c=0\/∃bb q arr lo hi,b=some ⟨bb,q,none⟩/\hp w bb=some (.cells arr e (lo,hi))/\iE arr.size lo hi/\q+c*kk.size<=arr.size) (hS:Src P w kk.size u x m news) (hb:(n+m)*T.bytes e<=140737488355328) :
  ∃w' b1 c1,(Builtin.append_ #[t,u] ty #[.slice b n c,x]).run P w=.ok (.slice b1 (n+m) c1) w'/\(w'.os=w.os/\w'.tape=w.tape/\w'.output=w.output)/\w.heap.size<=w'.heap.size/\n+m<=c1/\
   (c1=0\/∃bb o1 arr lo hi,b1=some ⟨bb,o1,none⟩/\hp w' bb=some (.cells arr e (lo,hi))/\iE arr.size lo hi/\o1+c1*kk.size<=arr.size/\Cells (hp w') bb (o1+n*kk.size) news/\
    (∀i,i<n*kk.size->∃b0 o0,b=some ⟨b0,o0,none⟩/\cellAt (hp w') bb (o1+i)=cellAt (hp w) b0 (o0+i))/\((c≠0/\b=some ⟨bb,o1,none⟩)\/(bb=w.heap.size/\w.heap.size<w'.heap.size)))/\
   (∀b',b'<w.heap.size->(c=0\/∀o',b≠some ⟨b',o',none⟩)->hp w' b'=hp w b'):=by
 have hnl:=hS.nl
 by_cases hr:n+m<=c
 ·have hrun:=J7 (ty:=ty) ht hS (b:=b) (n:=n) hr
  rcases(show c=0\/(c≠0/\∃bb q arr lo hi,b=some ⟨bb,q,none⟩/\hp w bb=some (.cells arr e (lo,hi))/\iE arr.size lo hi/\q+c*kk.size<=arr.size)from by
   by_cases h:c=0
   ·exact .inl h
   ·exact .inr ⟨h,hrow.resolve_left h⟩)with hc0|⟨hc0,bb,q,arr,lo,hi,eb,hbk,hf,hs⟩
  ·have hm0:m=0:=by omega
   have hn0:n=0:=by omega
   subst hm0 hn0
   have hnn:news=[]:=qB (by rw[hnl];simp)
   subst hnn
   refine⟨w,b,c,?_,⟨rfl,rfl,rfl⟩,bT _,hr,.inl hc0,λ_ _ _=>rfl⟩
   rw[hrun]
   cases b with
   |none=>rfl
   |some ad=>simp[storeCells,Result.andThen]
  ·subst eb
   have hle:(n+m)*kk.size<=c*kk.size:=jC _ hr
   rw[gX]at hle
   have hst:=FH (P:=P) (o:=q+n*kk.size) news hbk hf (by rw[hnl];omega) hS.one
   simp only[Result.andThen,addr_add,hst]at hrun
   obtain⟨s1,s2,fD,s3,s4,s5,s6⟩:=Cf bb news w arr e (lo,hi) (q+n*kk.size) hbk (by rw[hnl];omega)
   refine⟨_,_,c,hrun,Cg bb news w _,by omega,hr,.inr ⟨bb,q,fD,lo,hi,rfl,s3,by rw[s4];exact hf,by rw[s4];exact hs,λi hi'=>?_,λi hi'=>⟨bb,q,rfl,?_⟩,.inl ⟨hc0,rfl⟩⟩,λb' _ h=>s1 b' (λe=>(h.resolve_left hc0) q (by rw[e]))⟩
   ·unfold cellAt
    rw[s3]
    exact s5 i hi'
   ·unfold cellAt
    rw[s3,hbk]
    exact s6 (q+i) (by omega)
 ·obtain⟨olds,ho1,ho2,ho3⟩:∃olds:List Value,olds.length=n*kk.size/\(Builtin.firstCells kk.size n (.slice b n c)).run P w.drew=.ok olds.toArray w.drew/\∀i,i<n*kk.size->∃b0 o0,b=some ⟨b0,o0,none⟩/\olds[i]?=cellAt (hp w) b0 (o0+i):=by
   rcases hrow with hc0|⟨bb,q,arr,lo,hi,ea,hbk,hf,hs⟩
   ·have hn0:n=0:=by omega
    subst hn0
    refine⟨[],by simp,?_,λi h=>by simp at h⟩
    cases b with
    |none=>exact Qq w.drew kk.size 0 0 c
    |some ad=>exact zP (P:=P) w.drew kk.size 0 ad 0 c [] (by simp) (λj v hj=>by simp at hj)
   ·subst ea
    have hle:n*kk.size<=c*kk.size:=jC _ hnc
    have hrow:=Cv (n:=n*kk.size) hbk (by omega:q+n*kk.size<=arr.size)
    have hrl:(gZ (hp w) bb q (n*kk.size)).length=n*kk.size:=by simp[gZ]
    refine⟨gZ (hp w) bb q (n*kk.size),hrl,?_,λi hi'=>⟨bb,q,rfl,(hrow i (by rw[hrl];exact hi')).symm⟩⟩
    refine zP (P:=P) w.drew kk.size n ⟨bb,q,none⟩ n c _ hrl (λj v hj=>?_)
    rw[addr_add,uC]
    have:=hrow j (by rw[hrl];have:=(nL.1 hj).1;rw[hrl]at this;exact this)
    rw[hj]at this
    exact this
  obtain⟨nc,hnc',hrun⟩:=Qp (ty:=ty) ht hS ho2 hr hb
  have hnew:=Bo w.drew (.cells (olds.toArray++news.toArray++Builtin.zeroCells (iK kk).cells (nc-(n+m))) e)
  have hold:∀b',b'<w.heap.size->hp (w.drew.alloc (.cells (olds.toArray++news.toArray++Builtin.zeroCells (iK kk).cells (nc-(n+m))) e)) b'=hp w b':=λb' h=>zw w.drew _ h
  have hws:w.drew.heap.size=w.heap.size:=rfl
  rw[hws]at hnew
  have hsz2:(w.drew.alloc (.cells (olds.toArray++news.toArray++Builtin.zeroCells (iK kk).cells (nc-(n+m))) e)).heap.size=w.heap.size+1:=Array.size_push ..
  have hzl:(iK kk).cells.size=kk.size:=by
   rw[Cu ht.sl.2.1.shape]
   simpa using eO (zU (h:=hp w) (own:=[]) (ok:=λ_=>True) ht.sl.2.1.fq)
  have hcell:∀q,q<(olds++news).length->cellAt (hp (w.drew.alloc (.cells (olds.toArray++news.toArray++Builtin.zeroCells (iK kk).cells (nc-(n+m))) e))) w.heap.size (0+q)=(olds++news)[q]?:=by
   intro q hq
   unfold cellAt
   rw[hnew]
   simp only[jN]
   rw[Kv (by simpa using hq)]
   simp
  refine⟨_,_,nc,hrun,⟨rfl,rfl,rfl⟩,by omega,hnc',.inr ⟨w.heap.size,0,_,0,0,rfl,hnew,iE.zero,?_,λi hi=>?_,λi hi=>?_,.inr ⟨rfl,by omega⟩⟩,λb' h1 _=>hold b' h1⟩
  ·simp only[Array.size_append,Al,size_zeroCells,hzl,ho1,hnl]
   have h9:n*kk.size+m*kk.size+(nc-(n+m))*kk.size=(n+m+(nc-(n+m)))*kk.size:=by rw[gX,gX]
   rw[h9]
   have:n+m+(nc-(n+m))=nc:=by omega
   rw[this]
   omega
  ·rw[nO,hcell _ (by rw[d_,ho1];omega),u7 (by omega),ho1]
   congr 1
   omega
  ·obtain⟨b0,o0,z1,z3⟩:=ho3 i hi
   refine⟨b0,o0,z1,?_⟩
   rw[hcell _ (by rw[d_,ho1];omega),uo (by rw[ho1];exact hi)]
   exact z3
theorem aai(H:Rel cx Z J F a w)(hd:o.dst=some d)(hdn:d<cx.nt){c:Call}(ho:o.op=.call c)(hcb:c.callee=.builtin .append){x y:Operand}(hxy:c.args.toList=[x,y]){t t2 e:TypeId}(hat:c.argTypes[0]?=some t)(vN:c.argTypes[1]?=some t2)
  {kk:K} (ht:cK P T t (.sl e kk)) {p:List Stp} {xs:List (El kk)} {n q:Nat} {Q:Root} (hr:aU Z r R) (qN:R.dF=n) (hne:r≠q) (oJ:aU Z q Q) (lF:cz Z Q) (zm:Q.kind=.anon) (hfl:p.all Stp.jo=true)
  (hg:aA p R.k R.x=some ⟨.sl e kk,xs⟩) (b_:bM p R.k R.x) (hown:∀t∈az p R.k,ah t R.own=true) {b:Option Addr} {m cp:Nat} {wh:Option (Nat×Nat)} (hn:aN (hp w) p R.k (J.hdr r) (aK J R r)=some ([.slice b m cp],wh)) (hm:m=xs.length)
  {bx:Option Addr} {a0 sM:Nat} (hx:a.eval x=.slice bx a0 sM) (hxc:a0<=sM)
  (hrow:sM=0\/∃bb q' arr l u,bx=some ⟨bb,q',none⟩/\hp w bb=some (.cells arr e (l,u))/\iE arr.size l u/\q'+sM*kk.size<=arr.size/\bb∈J.fo q)
  (hold:0<a0->∃bb q' b0 o0,bx=some ⟨bb,q',none⟩/\b=some ⟨b0,o0,none⟩/\b0∈J.fo r/\∀j i,j<a0->i<kk.size->cellAt (hp w) bb (q'+(j*kk.size+i))=cellAt (hp w) b0 (o0+(j*kk.size+i)))
  {lo hi:Nat} {news:List Value} (hS:Src P w kk.size t2 (a.eval y) (hi-lo) news)
  (hsc:∀i,i<hi-lo->∃b0 o0,b=some ⟨b0,o0,none⟩/\b0∈J.fo r/\Cells (hp w) b0 (o0+(lo+i)*kk.size) (gH news kk.size i))
  (hbd:(a0+(hi-lo))*T.bytes e<=140737488355328) (hfr:Z.roots (aG d 0)=none) {A B:Nat} (M0:A<=B/\B<=m/\a0+(hi-lo)=A+(m-B)) (hidx:∀j,j<a0+(hi-lo)->(if j<A then j else B+(j-A))=(if j<a0 then j else lo+(j-a0))) :
  dn P cx o a w (aB [.r q none,.r (aG d 0) (some (bL (.sl e (.gap kk.size)) (List.replicate (a0+(hi-lo)) ()) [e] [] .anon)),.s d (.one (.sel r p n (aG d 0) A B))] Z):=by
 obtain⟨H1,T1,hH,_⟩:=kill H oJ zm lF
 have hSr:Same Z J (aL Z q gM) (iC J q) r:=kg hne
 have hr1:=(hSr.live R).2 hr
 have ahQ:∀b∈J.fo r,b<w.heap.size:=λb hb=>((H.roots r R hr).mine b (by rw[iN,kW];exact .inr hb)).1
 have hrF:∀b∈J.fo r,b∉J.fo q++F:=λb hb=>H1.dM r R hr1 b (by rw[iN,kW,hSr.fo];exact .inr hb)
 obtain⟨w',b1,c1,hrun,hos,hsz,hnc,hres,hoth⟩:=adO (P:=P) (u:=t2) (ty:=o.type) (x:=a.eval y) ht (b:=bx) (n:=a0) (c:=sM) hxc (by
  rcases hrow with h|⟨bb,q',arr,l,u,h1,h2,h3,h4,_⟩
  ·exact .inl h
  ·exact .inr ⟨bb,q',arr,l,u,h1,h2,h3,h4⟩) hS hbd
 have VB:∀b' o',bx=some ⟨b',o',none⟩->sM≠0->b'∈J.fo q:=λb' o' e' h0=>by
  rcases hrow with h|⟨bb,q',arr,l,u,h1,_,_,_,h5⟩
  ·exact absurd h h0
  ·rw[h1]at e'
   simp only[aa,oP,dZ]at e'
   rw[<-e'.1];exact h5
 have nT:∀b',b'<w.heap.size->hp w' b'≠hp w b'->b'∈J.fo q++F:=by
  intro b' hlt hne'
  by_cases h0:sM=0
  ·exact absurd (hoth b' hlt (.inl h0)) hne'
  ·by_cases he:∃o',bx=some ⟨b',o',none⟩
   ·obtain⟨o',he⟩:=he
    exact bP _ (VB b' o' he h0)
   ·exact absurd (hoth b' hlt (.inr λo' he'=>he ⟨o',he'⟩)) hne'
 obtain⟨F2,hF1,hF2,Io,M4⟩:∃F2:List Nat,(∀b∈F2,b∈J.fo q++F\/(w.heap.size<=b/\b<w'.heap.size))/\F2.Nodup/\(∀b∈J.fo q++F,b∈F2)/\(w.heap.size<w'.heap.size->w.heap.size∈F2):=by
  by_cases hs:w.heap.size<w'.heap.size
  ·refine⟨w.heap.size :: (J.fo q++F),λb hb=>?_,jB.2 ⟨λhm=>?_,H1.gD⟩,λb hb=>ji _ hb,λ_=>jl⟩
   ·rcases bH.1 hb with h|h
    ·exact .inr ⟨by omega,by omega⟩
    ·exact .inl h
   ·have:=(H1.fl _ hm).1;omega
  ·exact⟨J.fo q++F,λb hb=>.inl hb,H1.gD,λb hb=>hb,λh=>absurd h hs⟩
 have T2:=BO (w':=w') (F':=F2) H1 hos hsz nT hF1 hF2
 have H2:=H1.mem T2
 have nV:aG d 0≠r:=λe=>by have:=hr.1;rw[<-e,hfr]at this;simp at this
 have hqq:aG d 0≠q:=λe=>by have:=oJ.1;rw[<-e,hfr]at this;simp at this
 have hq0:(aL Z q gM).roots (aG d 0)=none:=by rw[jf _ _ hqq];exact hfr
 have hsame:∀b∈J.fo r,hp w' b=hp w b:=λb hb=>jI λh=>hrF b hb (nT b (ahQ b hb) h)
 obtain⟨mK,Nn,Np,Nq,Nr⟩:∃mK:List Nat,(∀b'∈mK,b'∈F2)/\mK.Nodup/\
   Ow (hp w') [e] (λ_=>False) (.sl e (.gap kk.size)) (show List (El (.gap kk.size))from List.replicate (a0+(hi-lo)) ()) [.slice b1 (a0+(hi-lo)) c1] mK/\
   (c1≠0->∀bb o1,b1=some ⟨bb,o1,none⟩->bb∈mK):=by
  rcases hres with h0|⟨bb,o1,arr,l,u,h1,h2,h3,h4,h5,h6,h7⟩
  ·refine⟨[],by simp,lM,?_,λh=>absurd h0 h⟩
   unfold Ow
   rw[ak (fA.2 (by simp))]
   exact⟨b1,_,c1,rfl,by show _=(List.replicate _ ()).length;simp,hnc,.inl ⟨h0,rfl⟩⟩
  ·by_cases hc1:c1=0
   ·refine⟨[],by simp,lM,?_,λh=>absurd hc1 h⟩
    unfold Ow
    rw[ak (fA.2 (by simp))]
    exact⟨b1,_,c1,rfl,by show _=(List.replicate _ ()).length;simp,hnc,.inl ⟨hc1,rfl⟩⟩
   ·have agM:bb∈F2:=by
     rcases h7 with⟨h0,h7⟩|⟨h7,h8⟩
     ·exact Io _ (bP _ (VB bb o1 h7 h0))
     ·rw[h7];exact M4 h8
    refine⟨[bb],by simpa using agM,by simp,?_,λ_ bb' o' e'=>by rw[h1]at e';simp only[aa,oP,dZ]at e';simp[e'.1]⟩
    unfold Ow
    rw[ak (fA.2 (by simp))]
    refine⟨b1,_,c1,rfl,by show _=(List.replicate _ ()).length;simp,hnc,.inr ⟨bb,o1,arr,l,u,h1,h2,h3,h4,List.replicate (a0+(hi-lo)) [],by show(List.replicate _ _).length=(List.replicate _ ()).length;simp,by simp,λi hi'=>?_⟩⟩
    have hi2:i<a0+(hi-lo):=by
     have h9:i<(List.replicate (a0+(hi-lo)) ()).length:=hi'
     simpa using h9
    have hle:(i+1)*kk.size<=c1*kk.size:=jC _ (by omega)
    rw[gX,kZ]at hle
    have hgs:(K.gap kk.size).size=kk.size:=rfl
    rw[hgs]
    refine⟨gZ (hp w') bb (o1+i*kk.size) kk.size,Cv h2 (by omega),?_⟩
    show Ow (hp w') [e] (λ_=>False) (.gap kk.size) () _ _
    exact⟨by rw[MZ],by simp[gZ]⟩
 have hkq:(bL (.sl e (.gap kk.size)) (show List (El (.gap kk.size))from List.replicate (a0+(hi-lo)) ()) [e] [] .anon).kind=.anon:=rfl
 obtain⟨A1,A2⟩:=Av (R':=bL (.sl e (.gap kk.size)) (show List (El (.gap kk.size))from List.replicate (a0+(hi-lo)) ()) [e] [] .anon) H2 hq0 (nX d 0) rfl (by simp[bL]) (λt ht=>by simp[bL]at ht) (0,0) [.slice b1 (a0+(hi-lo)) c1] mK []
  (λb' hb'=>by rw[o7 hkq]at hb';exact⟨Nn b' hb',by simp⟩) (by rw[o7 hkq];exact Np) (λb' hb'=>by simp at hb') lM
  (λ_=>dK (λ_ h=>h.elim) (λ_ h=>h.elim) (λ_ _=>rfl) Nq) rfl (λb' o' hb'=>by rw[Cs hkq]at hb';simp at hb')
 have Bu:(Builtin.append_ #[t,t2] o.type #[a.eval x,a.eval y]).run P w=.ok (.slice b1 (a0+(hi-lo)) c1) w':=by rw[hx];exact hrun
 refine nk (x:=.one (.sel r p n (aG d 0) A B)) A1 hd hdn (FE ho hcb hxy hat vN Bu) ?_ ?_
 ·intro R2 hR2 _ _ Q2 sO _
  rw[jf _ _ nV.symm,jf _ _ hne,hr.1]at hR2
  simp only[aa]at hR2
  subst hR2
  obtain⟨rfl,_⟩:=nE sO
  have e1:(aW (iC J q) (aG d 0) (0,0) [.slice b1 (a0+(hi-lo)) c1] mK).hdr r=J.hdr r:=by simp[aW,iC,upd_ne _ _ nV.symm,upd_ne _ _ hne]
  have e2:aK (aW (iC J q) (aG d 0) (0,0) [.slice b1 (a0+(hi-lo)) c1] mK) R r=aK J R r:=by
   unfold aK
   simp[aW,iC,upd_ne _ _ nV.symm,upd_ne _ _ hne]
  have e3:(aW (iC J q) (aG d 0) (0,0) [.slice b1 (a0+(hi-lo)) c1] mK).fo r=J.fo r:=by simp[aW,iC,upd_ne _ _ nV.symm,upd_ne _ _ hne]
  refine⟨e,kk,xs,wh,b,m,cp,b1,a0+(hi-lo),c1,hg,b_,hown,by rw[e1,e2,am2 (h:=hp w) hfl];exact hn,⟨rfl,rfl⟩,by simp[aW,upd_same],rfl,⟨M0.1,M0.2.1,hm,M0.2.2⟩,λhm0=>?_⟩
  rcases hres with h0|⟨bb,o1,arr,l,u,h1,h2,h3,h4,h5,h6,h7⟩
  ·omega
  ·obtain⟨b0,o0,hb0,Vx⟩:∃b0 o0,b=some ⟨b0,o0,none⟩/\b0∈J.fo r:=by
    by_cases ha:0<a0
    ·obtain⟨_,_,b0,o0,_,z2,z3,_⟩:=hold ha
     exact⟨b0,o0,z2,z3⟩
    ·obtain⟨b0,o0,z1,z2,_⟩:=hsc 0 (by omega)
     exact⟨b0,o0,z1,z2⟩
   refine⟨bb,o1,b0,o0,h1,hb0,by simp only[aW,upd_same];exact Nr (by omega) bb o1 h1,by rw[e3];exact Vx,λj i hj hi'=>?_⟩
   rw[hidx j hj,xe (hsame b0 Vx)]
   by_cases hja:j<a0
   ·rw[ak hja]
    obtain⟨bb',q',b0',Zg,z1,z2,_,z4⟩:=hold (by omega)
    rw[hb0]at z2
    simp only[aa,oP,dZ]at z2
    obtain⟨rfl,rfl⟩:=z2
    have hlt:(j+1)*kk.size<=a0*kk.size:=jC _ (by omega)
    rw[gX,kZ]at hlt
    obtain⟨bx',ox',y1,y2⟩:=h6 (j*kk.size+i) (by omega)
    rw[z1]at y1
    simp only[aa,oP,dZ]at y1
    obtain⟨rfl,rfl⟩:=y1
    rw[y2]
    exact z4 j i hja hi'
   ·rw[aj hja]
    have hk:j-a0<hi-lo:=by omega
    obtain⟨b0',Zg,z1,_,z3⟩:=hsc (j-a0) hk
    rw[hb0]at z1
    simp only[aa,oP,dZ]at z1
    obtain⟨rfl,rfl⟩:=z1
    have hsl:=uQ hS.nl hk
    have y1:=z3 i (by rw[hsl];exact hi')
    rw[qo hi']at y1
    have hlt:(j-a0+1)*kk.size<=(hi-lo)*kk.size:=jC _ (by omega)
    rw[gX,kZ]at hlt
    have y2:=h5 ((j-a0)*kk.size+i) (by rw[hS.nl];omega)
    have hj2:j*kk.size=a0*kk.size+(j-a0)*kk.size:=by rw[<-gX];congr 1;omega
    rw[show o1+(j*kk.size+i)=o1+a0*kk.size+((j-a0)*kk.size+i) by omega,y2,<-y1,nO]
 ·refine⟨⟨R,?_,.inr (by omega)⟩,_,fF ..⟩
  rw[jf _ _ nV.symm,jf _ _ hne]
  exact hr.1
theorem aff(hT:eG P T)(H:Rel cx Z J F a w)(hd:o.dst=some d)(hdn:d<cx.nt){c:Call}(ho:o.op=.call c)(hcb:c.callee=.builtin .append){u:AV}{p:List Stp}{n lo hi sz:Nat}{t:TypeId}{e1:TypeId}{k1:K}(hl:gU cx Z J F w [u,.sub r p n lo hi sz] (c.args.toList.map a.eval))
  (hat:c.argTypes[0]?=some t) (ht1:(c.argTypes[1]?).bind T.ty=some (.sl e1 k1)) (h:(Qs T d t u r p n lo hi sz λws=>(.ret ws:Prog (List Wr))).ends Z ws):dn P cx o a w (aB ws Z):=by
 obtain⟨x,y,hxy,hu,hv0⟩:=Kk hl
 obtain⟨t2,vN,ht2⟩:=qR hT ht1
 unfold Qs at h
 split at h
 case h_2=>exact h.elim
 case h_1 e kk hty=>
  have ht:=hT.ty t _ hty
  obtain⟨R,hr,hv,h⟩:=gJ h
  rcases bz h with⟨hc,h5⟩|⟨_,h5⟩
  case inr=>exact h5.elim
  clear h
  simp only[bg]at hc
  obtain⟨⟨⟨c1,c2⟩,c3⟩,c4⟩:=hc
  have hsz:=a_ c1
  subst hsz
  have qN:=a_ c2
  have hall:=mQ c4
  cases hg:aA p R.k R.x with
  |none=>rw[hg]at h5;exact h5.elim
  |some dd=>
   rw[hg]at h5
   simp only at h5
   cases hck:bR dd.1 (.sl e kk) dd.2 with
   |none=>rw[hck]at h5;exact h5.elim
   |some xs=>
    rw[hck]at h5
    simp only at h5
    obtain⟨ek,ey⟩:=iw hck
    obtain⟨dk,dx⟩:=dd
    simp only at ek ey
    subst ek
    simp only at ey
    subst ey
    obtain⟨b',b,m,cp,UZ,eb,e2,e3,e4,hsub⟩:=hv0
    obtain⟨b_,hown,wh,hn⟩:=hsub R hr.1 hv qN _ hg
    obtain⟨aS,hO,VO⟩:=tT H hr hv hg b_ hown hn
    obtain⟨_,_,_,q1,hm,hmc⟩:=aas hO
    simp only[gQ,mE,dZ]at q1
    obtain⟨rfl,rfl,rfl⟩:=q1
    have hm':m=@List.length (El kk) xs:=hm
    obtain⟨news,hS,hsc⟩:∃news,Src P w kk.size t2 (a.eval y) (hi-lo) news/\∀i,i<hi-lo->∃b0 o0,b=some ⟨b0,o0,none⟩/\b0∈J.fo r/\Cells (hp w) b0 (o0+(lo+i)*kk.size) (gH news kk.size i):=by
     by_cases h0:0<hi-lo
     ·have hO2:=hO
      unfold Ow at hO2
      rw[ak (hall e (by simp[K.tys]))]at hO2
      obtain⟨a1,n1,c1',q1,q2,q3,hO2⟩:=hO2
      simp only[gQ,mE,dZ]at q1
      obtain⟨rfl,rfl,rfl⟩:=q1
      rcases hO2 with⟨hc0,_⟩|⟨b0,o0,arr,l,u',ea,hbk,hf,hs,au,hl0,hp0,hE⟩
      ·omega
      ·subst ea
       have ey':b'=some ⟨b0,o0+lo*kk.size,none⟩:=by rw[eb (.inr (by omega))];simp[addr_add]
       rw[UZ,ey']
       obtain⟨news,g1,g2⟩:=Qo (P:=P) (w:=w) (u:=t2) (size:=kk.size) (n:=hi-lo) (c:=cp-lo) (bb:=b0) (q:=o0+lo*kk.size) (.inl ⟨_,ht2.sl.1⟩) (λi ds=>Cells (hp w) b0 (o0+(lo+i)*kk.size) ds) (λi hi'=>by
        obtain⟨ds,g1,g2⟩:=hE (lo+i) (by show lo+i < @List.length (El kk) xs;omega)
        refine⟨ds,eO g2,?_,G6 ht.sl.2.1.fq g2,g1⟩
        rw[nO,<-gX]
        exact g1)
       exact⟨news,g1,λi hi'=>⟨b0,o0,rfl,VO b0 (hp0.mem_iff.2 jl),g2 i hi'⟩⟩
     ·refine⟨[],?_,λi hi'=>by omega⟩
      rw[UZ]
      have h1:hi-lo=0:=by omega
      rw[h1]
      exact FO (.inl ⟨_,ht2.sl.1⟩) (by simp) (λv hv=>by simp at hv) (λh=>by omega)
    split at h5
    ·rename_i q g
     obtain⟨Q,oJ,lF,h6⟩:=gJ h5
     rcases bz h6 with⟨qK,h7⟩|⟨_,h7⟩
     ·clear h5 h6
      simp only[bg,jU]at qK
      obtain⟨⟨⟨d1,d2⟩,d3⟩,d4⟩:=qK
      have hne:r≠q:=λe=>by rw[e]at d3;simp at d3
      cases pq:bR Q.k (.sl e kk) Q.x with
      |none=>rw[pq]at h7;exact h7.elim
      |some ys=>
       rw[pq]at h7
       simp only at h7
       obtain⟨⟨g1,g2,g3⟩,h8⟩:=h7
       obtain⟨hfr,h9⟩:=nS h8
       rw[bu h9]
       obtain⟨zm,hVQ⟩:=hu Q oJ (a_ d1)
       obtain⟨xh,yY⟩:=iw pq
       have lD:=uw xh yY ((H.roots q Q oJ).ow lF)
       have agE:VC (.sl e kk) (a.eval x) (J.hdr q):=xh▸hVQ
       unfold Ow at lD
       rw[ak d4]at lD
       obtain⟨bx,a0,sM,q1,q2,q3,lD⟩:=lD
       have hx:a.eval x=.slice bx a0 sM:=by
        have:=agE.1
        rw[q1]at this
        simpa using this.symm
       have g1' : @List.length (El kk) ys=0:=g1
       have ha0:a0=0:=by have:a0=@List.length (El kk) ys:=q2;omega
       subst ha0
       subst g2
       have hfin:=aai (P:=P) H hd hdn ho hcb hxy hat vN ht hr qN hne oJ lF zm c3 hg b_ hown hn hm hx (dY _) (by
        rcases lD with⟨h0,_⟩|⟨bb,q',arr,l,u',z1,z2,z3,z4,au,_,z5,_⟩
        ·exact .inl h0
        ·exact .inr ⟨bb,q',arr,l,u',z1,z2,z3,z4,z5.mem_iff.2 jl⟩) (λh=>by omega) hS hsc (by simpa using g3) hfr (A:=hi) (B:=m) ⟨by omega,bT _,by omega⟩ (λj hj=>by
         have:j<hi:=by omega
         simp[this])
       simp only[jN,Nat.sub_zero]at hfin
       rw[<-hm']
       exact hfin
     ·exact h7.elim
    ·rename_i r' p' n' q a' b''
     obtain⟨Q,oJ,lF,h6⟩:=gJ h5
     rcases bz h6 with⟨qK,h7⟩|⟨_,h7⟩
     ·clear h5 h6
      simp only[bg,jU]at qK
      obtain⟨⟨⟨⟨⟨⟨d1,d2⟩,d3⟩,d4⟩,d5⟩,d6⟩,d7⟩:=qK
      have hne:r≠q:=λe=>by rw[e]at d6;simp at d6
      have er:=a_ d1
      have en:=a_ d2
      have ep:=EX d3 (by rw[xG c3,xG (JM d3 c3)])
      subst er en ep
      cases pq:bR Q.k (.sl e (.gap kk.size)) Q.x with
      |none=>rw[pq]at h7;exact h7.elim
      |some ys=>
       rw[pq]at h7
       simp only at h7
       obtain⟨⟨g1,g2,g3,g4,g5⟩,h8⟩:=h7
       obtain⟨hfr,h9⟩:=nS h8
       rw[bu h9]
       obtain⟨e',BI,xs',bZ,bb,m',c',bq,m1,c1',s1,s2,s3,s4,⟨s5,skd⟩,s6,s7,⟨s8,s9,s10,s11⟩,s12⟩:=hu R hr.1 hv qN Q oJ (a_ d4)
       rw[hg]at s1
       simp only[aa,Sigma.mk.injEq,K.sl.injEq]at s1
       obtain⟨⟨rfl,rfl⟩,s1⟩:=s1
       have s1:=eq_of_heq s1
       subst s1
       rw[hn]at s4
       simp only[aa,bK,gQ,mE,dZ]at s4
       obtain⟨⟨rfl,rfl,rfl⟩,rfl⟩:=s4
       obtain⟨xh,yY⟩:=iw pq
       have lD:=uw xh yY ((H.roots q Q oJ).ow lF)
       rw[s6,s7]at lD
       unfold Ow at lD
       rw[ak d7]at lD
       obtain⟨bx,a0,sM,q1,q2,q3,lD⟩:=lD
       simp only[gQ,mE,dZ]at q1
       obtain⟨rfl,rfl,rfl⟩:=q1
       have g3':hi=@List.length (El kk) xs:=g3
       have g4':b''=@List.length (El kk) xs:=g4
       have ha0:m1=a':=by omega
       subst ha0
       exact aai (P:=P) H hd hdn ho hcb hxy hat vN ht hr qN hne oJ lF skd c3 hg b_ hown hn hm s7 q3 (by
        rcases lD with⟨h0,_⟩|⟨bb,q',arr,l,u',z1,z2,z3,z4,au,_,z5,_⟩
        ·exact .inl h0
        ·exact .inr ⟨bb,q',arr,l,u',z1,z2,z3,z4,z5.mem_iff.2 jl⟩) (λh=>by
         obtain⟨b1,o1,b0,o0,y1,y2,_,y4,y5⟩:=s12 h
         exact⟨b1,o1,b0,o0,y1,y2,y4,λj i hj hi'=>by have:=y5 j i hj hi';rw[ak hj]at this;exact this⟩) hS hsc g5 hfr (A:=m1) (B:=lo) ⟨g1,by omega,by omega⟩ (λj hj=>rfl)
     ·exact h7.elim
    ·exact h5.elim
end
section
variable {P:Program}{T:bF}{cx:Cx}{Z:St}{J:aF}{F:List Nat}{a:Act}{w:World}{o:Oper}{d:Nat}{ws:List Wr}{r:Nat}{R:Root}
theorem afi(hT:eG P T)(H:Rel cx Z J F a w)(hd:o.dst=some d)(hdn:d<cx.nt)(h:(QD T o d λws=>(.ret ws:Prog (List Wr))).ends Z ws):dn P cx o a w (aB ws Z):=by
 unfold QD at h
 split at h
 ·rename_i t ps ho
  obtain⟨us,h1,h2⟩:=L9 h
  rw[bu h2]
  exact afj hT H hd hdn h1 ho
 ·rename_i c ho
  split at h
  ·rename_i hcb
   obtain⟨vs,h1,h2,h⟩:=uH H h
   split at h
   ·split at h
    ·rename_i hat ht1
     split at h
     ·exact aff hT H hd hdn ho hcb h1 hat ht1 h
     ·exact aeM hT H hd hdn ho hcb h1 hat ht1 h
    ·exact h.elim
   ·exact h.elim
  ·exact h.elim
 ·rename_i t x ho
  exact ae8 hT H hd hdn ho h
 ·exact h.elim
theorem aoA{β:Type}{l:List (List β)}{a b:Nat}(h:a<=b):(l.take a++l.drop b).flatten.Sublist l.flatten:=by
 have h1:(l.take a++l.drop b).Sublist l:=by
  have h2:(l.drop b).Sublist (l.drop a):=by
   rw[show b=a+(b-a) by omega,<-uZ]
   exact List.drop_sublist _ _
  have h3:=Td h2 (l.take a)
  rwa[Am]at h3
 clear h
 generalize l.take a++l.drop b=l' at h1
 induction h1 with
 |slnil=>exact List.Sublist.refl _
 |cons x h ih=>
  rw[oW]
  exact ih.trans (List.sublist_append_right _ _)
 |cons_cons x h ih=>
  rw[oW,oW]
  exact Td ih _
theorem Uy{β:Type}{l:List β}{a b j:Nat}(h1:a<=b)(h2:b<=l.length)(hj:j<a+(l.length-b)):(l.take a++l.drop b)[j]?=l[if j<a then j else b+(j-a)]?:=by
 by_cases hja:j<a
 ·rw[ak hja,uo (by rw[uq];omega),Lh,ak hja]
 ·rw[aj hja,u7 (by rw[uq];omega),uq,yD]
  congr 1
  omega
theorem Uz{β:Type}{l:List β}{a b:Nat}(h1:a<=b)(h2:b<=l.length):(l.take a++l.drop b).length=a+(l.length-b):=by
 rw[d_,uq,GU]
 omega
theorem afg(hT:eG P T)(H:Rel cx Z J F a w)(hd:o.dst=none){t:TypeId}{x y:Operand}(ho:o.op=.store t x y){u:AV}{r n q a' b':Nat}{p:List Stp}{k0:K}(hk0:T.ty t=some k0)(h1:aR cx Z J F w u (a.eval x))(h2:dB Z u)(h3:aR cx Z J F w (.sel r p n q a' b') (a.eval y))
  (h:(Qt k0 u r p n q a' b' λws=>(.ret ws:Prog (List Wr))).ends Z ws):dn P cx o a w (aB ws Z):=by
 have ht:=hT.ty t k0 hk0
 cases k0 with
 |sl e kk=>
  cases u with
  |ptr r' p' h0=>
   simp only[Qt]at h
   rcases bz h with⟨hc,h5⟩|⟨_,h5⟩
   ·clear h
    simp only[bg,jU]at hc
    obtain⟨⟨⟨c1,c2⟩,c3⟩,c4⟩:=hc
    have hne:r≠q:=λe=>by rw[e]at c4;simp at c4
    have er:=a_ c1
    have II:p'.all Stp.jo=true:=JM c2 c3
    have ep:=EX c2 (by rw[xG c3,xG II])
    subst er ep
    obtain⟨Q,oJ,lF,h6⟩:=gJ h5
    rcases bz h6 with⟨qK,h7⟩|⟨_,h7⟩
    ·clear h5 h6
     simp only[bg]at qK
     cases pq:bR Q.k (.sl e (.gap kk.size)) Q.x with
     |none=>rw[pq]at h7;exact h7.elim
     |some yq=>
      rw[pq]at h7
      simp only at h7
      obtain⟨R,hr,hv,h8⟩:=gJ h7
      rcases bz h8 with⟨hcR,h9⟩|⟨_,h9⟩
      ·clear h7 h8
       simp only[bg]at hcR
       obtain⟨⟨⟨⟨d1,d2⟩,d3⟩,d4⟩,d5⟩:=hcR
       have hall:=mQ d4
       cases hg:aA p R.k R.x with
       |none=>rw[hg]at h9;exact h9.elim
       |some dd=>
        rw[hg]at h9
        simp only at h9
        cases hck:bR dd.1 (.sl e kk) dd.2 with
        |none=>rw[hck]at h9;exact h9.elim
        |some xs=>
         rw[hck]at h9
         simp only at h9
         obtain⟨ek,ey⟩:=iw hck
         obtain⟨dk,dx⟩:=dd
         simp only at ek ey
         subst ek
         simp only at ey
         subst ey
         cases hz:bJ p R.k R.x ⟨.sl e kk,(show List (El kk)from xs).take a'++(show List (El kk)from xs).drop b'⟩with
         |none=>rw[hz]at h9;exact h9.elim
         |some z=>
          rw[hz]at h9
          rw[bu h9]
          obtain⟨e',BI,xs',wh,b,m,c,bq,m1,cq,s1,s2,s3,s4,⟨s5,skd⟩,s6,s7,⟨s8,s9,s10,s11⟩,s12⟩:=h3 R hr.1 hv (a_ d1) Q oJ (a_ qK.1)
          rw[hg]at s1
          simp only[aa,Sigma.mk.injEq,K.sl.injEq]at s1
          obtain⟨⟨rfl,rfl⟩,s1⟩:=s1
          have s1:=eq_of_heq s1
          subst s1
          obtain⟨H1,T1,hH,hcl⟩:=kill H oJ skd lF
          have hSr:Same Z J (aL Z q gM) (iC J q) r:=kg hne
          have hr1:=(hSr.live R).2 hr
          have qM:∀m,(q,m)∉R.tags:=λm hm=>by
           have:=dX.1 d5 _ hm
           simp at this
          have hv1:cz (aL Z q gM) R:=⟨hv.1,by rw[uD qM];exact hv.2⟩
          obtain⟨_,cs,bA,oA,hn2,eA⟩:=h1.2 R hr.1 hv d3 s3 (by rw[hg];rfl)
          rw[s4]at hn2
          simp only[aa,bK]at hn2
          obtain⟨rfl,rfl⟩:=hn2
          have hn1:aN (hp w) p R.k ((iC J q).hdr r) (aK (iC J q) R r)=some ([.slice b m c],some (bA,oA)):=by rw[hSr.hdr,hSr.wh];exact s4
          obtain⟨xh,yY⟩:=iw pq
          have lD:=uw xh yY (hH.ow hcl)
          rw[s6,s7]at lD
          unfold Ow at lD
          rw[ak qK.2]at lD
          obtain⟨bx,a0,sM,q1,q2,q3,lD⟩:=lD
          simp only[gQ,mE,dZ]at q1
          obtain⟨rfl,rfl,rfl⟩:=q1
          have DV:∀b'∈(iC J q).fo r,b'∉J.fo q++F:=λb' hb'=>H1.dM r R hr1 b' (by rw[iN,kW];exact .inr hb')
          have hxl:m=@List.length (El kk) xs:=s10
          have IQ:(@HAppend.hAppend (List (El kk)) (List (El kk)) (List (El kk)) _ (@List.take (El kk) a' xs) (@List.drop (El kk) b' xs)).length=m1:=by
           rw[Uz s8 (by omega),s11,hxl]
          obtain⟨w',r1,J',F',r2⟩:=Qm (P:=P) ht H1 hr1 hv1 hg hz s2 s3 hall hn1 (v:=.slice bq m1 cq) ⟨_,_,_,rfl⟩ (lw:=fU R p :: (K.sl e kk).tys) (by simp) (λaS ok hO hnd hsub=>by
           have he:ah e R.own=true:=hall e (by simp[K.tys])
           rcases lD with⟨h0,_⟩|⟨bb,o1,arr,l,u',z1,z2,z3,z4,_,_,z5,_⟩
           ·refine⟨[],lM,by simp,?_⟩
            unfold Ow
            rw[ak he]
            exact⟨bq,m1,cq,rfl,IQ.symm,q3,.inl ⟨h0,rfl⟩⟩
           ·have Vz:bb∈J.fo q:=z5.mem_iff.2 jl
            unfold Ow at hO
            rw[ak he]at hO
            obtain⟨b2,m2,c2,e1,e2,e3,hO⟩:=hO
            simp only[gQ,mE,dZ]at e1
            obtain⟨rfl,rfl,rfl⟩:=e1
            obtain⟨au,hfl,hfs,hfn,hfe⟩:∃au:List (List Nat),au.length=@List.length (El kk) xs/\(∀b'∈au.flatten,b'∈aS)/\au.flatten.Nodup/\∀(i:Nat) (hi:i < @List.length (El kk) xs),∃b0 o0 ds,b=some ⟨b0,o0,none⟩/\Cells (hp w) b0 (o0+i*kk.size) ds/\Ow (hp w) R.own ok kk (@getElem (List (El kk)) Nat (El kk) _ _ xs i hi) ds (au.getD i []):=by
             rcases hO with⟨hc0,hf0⟩|⟨b0,o0,fD,lo',hi',ea,hbk,hfz,hs,au,hl,hp0,hO⟩
             ·have hx0 : @List.length (El kk) xs=0:=by omega
              exact⟨[],by simp[hx0],by simp,by simp,λi hi=>by omega⟩
             ·have kU:=hp0.nodup hnd
              refine⟨au,hl,λb' hb'=>hp0.mem_iff.2 (ji _ hb'),(jB.1 kU).2,λi hi=>?_⟩
              obtain⟨ds,g1,g2⟩:=hO i hi
              exact⟨b0,o0,ds,ea,g1,g2⟩
            have hsl:=aoA (l:=au) (a:=a') (b:=b') s8
            refine⟨bb :: (au.take a'++au.drop b').flatten,jB.2 ⟨λhm=>?_,hsl.nodup hfn⟩,λb'' hb'=>?_,?_⟩
            ·exact DV bb (hsub bb (hfs bb (hsl.subset hm))) (bP _ Vz)
            ·rcases bH.1 hb' with h|h
             ·rw[h];exact .inr (bP _ Vz)
             ·exact .inl (hfs b'' (hsl.subset h))
            ·have DL:Ow (hp w) R.own (λ_=>False) (.sl e kk) (show List (El kk)from(show List (El kk)from xs).take a'++(show List (El kk)from xs).drop b') [.slice bq m1 cq] (bb :: (au.take a'++au.drop b').flatten):=by
              unfold Ow
              rw[ak he]
              refine⟨_,m1,cq,rfl,IQ.symm,q3,.inr ⟨bb,o1,arr,l,u',z1,z2,z3,z4,au.take a'++au.drop b',by show(au.take a'++au.drop b').length=_;rw[IQ,Uz s8 (by rw[hfl];omega),hfl,s11,hxl],by simp,λi hi'=>?_⟩⟩
              have hi2:i<(@HAppend.hAppend (List (El kk)) (List (El kk)) (List (El kk)) _ (@List.take (El kk) a' xs) (@List.drop (El kk) b' xs)).length:=hi'
              have hi3:=hi2
              rw[IQ]at hi3
              obtain⟨b1,o1',b0,o0,y1,y2,y3,y4,y5⟩:=s12 (by omega)
              rw[z1]at y1
              simp only[aa,oP,dZ]at y1
              obtain⟨rfl,rfl⟩:=y1
              have hsi:(if i<a' then i else b'+(i-a')) < @List.length (El kk) xs:=by split<;>omega
              obtain⟨b0',Zg,ds,x1,x2,x3⟩:=hfe _ hsi
              rw[y2]at x1
              simp only[aa,oP,dZ]at x1
              obtain⟨rfl,rfl⟩:=x1
              have hx:(show List (El kk)from(show List (El kk)from xs).take a'++(show List (El kk)from xs).drop b')[i]'hi'=@getElem (List (El kk)) Nat (El kk) _ _ xs _ hsi:=by
               have h8:=Uy (l:=(show List (El kk)from xs)) (a:=a') (b:=b') (j:=i) s8 (by show b'<=@List.length (El kk) xs;omega) (by show i<a'+(@List.length (El kk) xs-b');omega)
               have h9:=gK (l:=(show List (El kk)from xs)) hsi
               rw[h9]at h8
               obtain⟨_,h8⟩:=nL.1 h8
               exact h8
              rw[hx]
              have hfo:(au.take a'++au.drop b').getD i []=au.getD (if i<a' then i else b'+(i-a')) []:=by
               rw[gy,gy,Uy s8 (by omega) (by omega)]
              rw[hfo]
              have hdl:=eO x3
              refine⟨ds,λj hj=>?_,lq (om (λt ht=>hall t (by simp[K.tys,ht]))) x3⟩
              rw[nO,y5 i j hi3 (by omega),<-nO]
              exact x2 j hj
             exact DL)
          refine⟨undef,w',J',F',.inr ⟨?_,rfl⟩,?_⟩
          ·simp only[execOp,ho,eA,s7,dG,r1,eZ,dW]
          ·rw[hd]
           exact r2
      ·exact h9.elim
    ·exact h7.elim
   ·exact h5.elim
  |_=>exact h.elim
 |_=>cases u<;>exact h.elim
theorem afl(hT:eG P T)(H:Rel cx Z J F a w)(hd:o.dst=none){t:TypeId}{x y:Operand}(ho:o.op=.store t x y)
  (h:(dP x λu=>dP y λv=>QG T t u v λws=>(.ret ws:Prog (List Wr))).ends Z ws):dn P cx o a w (aB ws Z):=by
 obtain⟨u,h1,h2,h⟩:=iW H h
 obtain⟨v,h3,h4,h⟩:=iW H h
 unfold QG at h
 split at h
 ·split at h
  ·rename_i hk0
   exact aeZ hT H hd ho hk0 h1 h2 h3 h
  ·exact h.elim
 ·split at h
  ·rename_i hk0
   exact aeN hT H hd ho hk0 h1 h2 h3 h
  ·exact h.elim
 ·split at h
  ·rename_i hk0
   exact afg hT H hd ho hk0 h1 h2 h3 h
  ·exact h.elim
 ·exact afm hT H hd ho h1 h2 h3 h4 h
end
end
section
open Go
variable [Fr]
section
variable {P:Program}{T:bF}{cx:Cx}{Z:St}{J:aF}{F:List Nat}{a:Act}{w:World}
structure Tk(cx:Cx)(Z:St)(J:aF)(F:List Nat)(a:Act)(w:World)(Z1:St)(aV:aF)(F1:List Nat)(ids:List Tag):Prop where
 rel:Rel cx Z1 aV F1 a w
 Kr:Views cx Z J F w Z1 aV F1 w
 same:∀t∈ids,Same Z J Z1 aV t.1
theorem Tk.sub{Z1:St}{aV:aF}{F1:List Nat}{ids ids':List Tag}(h:Tk cx Z J F a w Z1 aV F1 ids')(hs:∀t∈ids,t∈ids'):Tk cx Z J F a w Z1 aV F1 ids:=⟨h.rel,h.Kr,λt ht=>h.same t (hs t ht)⟩
def vE(cx:Cx)(Z:St)(J:aF)(F:List Nat)(a:Act)(w:World)(k:K)(x:El k)(ids:List Tag)(v:Value):Prop:=
 ∃cs,VC k v cs/\∀Z1 aV F1,Tk cx Z J F a w Z1 aV F1 ids->Vw (hp w) (aO cx Z1 aV F1 w ids) k x cs
def p9(cx:Cx)(Z:St)(J:aF)(F:List Nat)(a:Act)(w:World)(k:K)(x:El k)(ids:List Tag)(v:Value):Prop:=
 ∃b o cs,v=.pointer (some ⟨b,o,none⟩)/\Cells (hp w) b o cs/\∀Z1 aV F1,Tk cx Z J F a w Z1 aV F1 ids->Vw (hp w) (aO cx Z1 aV F1 w ids) k x cs/\kG Z1 aV F1 w ids b
def uj(cx:Cx)(Z:St)(J:aF)(F:List Nat)(a:Act)(w:World)(ids:List Tag):(ks:List K)->Cont ks->List Value->Prop
 | [],_,[]=>True
 |k :: ks,c,v :: vs=>p9 cx Z J F a w k c.1 ids v/\uj cx Z J F a w ids ks c.2 vs
 |_,_,_=>False
structure wQ(cx:Cx)(Z:St)(J:aF)(w:World)(k:K)(x:El k)(ow:List TypeId)(i:aQ)(wt ht:List TypeId)(r:Nat)(R:Root)(p:List Stp):Prop where
 wb:i.wb=some (r,p,wt,ht)
 ws:i.ws=[]
 ids:i.ids=R.tags
 lv:aU Z r R
 vl:cz Z R
 get:aA p R.k R.x=some ⟨k,x⟩
 pin:bM p R.k R.x
 own:∀t∈az p R.k,ah t R.own=true
 just:tN k R.own ow=true
theorem IU:∀{p:List (Option Nat)} {q:List Stp} {c:Cont (aH.into 0 p).kin},idxOf p q=some c->pathOf p c=q
 | [],[],_,_=>rfl
 | [],_ :: _,_,h=>by simp[idxOf]at h
 |some n :: p,[],_,h=>by simp[idxOf]at h
 |some n :: p,.idx i :: q,_,h=>by simp[idxOf]at h
 |some n :: p,.aP m :: q,c,h=>by
  have h':(bif Nat.beq n m then idxOf p q else none)=some c:=h
  cases hb:Nat.beq n m with
  |false=>rw[hb]at h';simp at h'
  |true=>
   rw[hb]at h'
   have:=a_ hb
   subst this
   show Stp.aP n :: pathOf p c=_
   rw[IU (p:=p) (q:=q) (c:=c) h']
 |none :: p,[],_,h=>by simp[idxOf]at h
 |none :: p,.aP i :: q,_,h=>by simp[idxOf]at h
 |none :: p,.idx i :: q,c,h=>by
  have h':(match idxOf p q with
   |some d=>some ((i,d):Cont (aH.into 0 (none :: p)).kin)
   |none=>none)=some c:=h
  cases hq:idxOf p q with
  |none=>rw[hq]at h';simp at h'
  |some d=>
   rw[hq]at h'
   have h2:((i,d):Cont (aH.into 0 (none :: p)).kin)=c:=jV h'
   rw[<-h2]
   show Stp.idx i :: pathOf p d=_
   rw[IU hq]
def Tc(Z:St)(J:aF)(w:World)(p:List (Option Nat))(c:Cont (aH.into 0 p).kin)(v:Value)(i:aQ):Prop:=
 (p=[]/\i.lie=none/\∃b,v=.slice b 0 0)\/(p≠[]/\∃r q R cs b o,i.lie=some (r,q)/\aU Z r R/\bM q R.k R.x/\(aA q R.k R.x).isSome=true/\aN (hp w) q R.k (J.hdr r) (aK J R r)=some (cs,some (b,o))/\v=.pointer (some ⟨b,o,none⟩)/\q.drop (q.length-p.length)=pathOf p c)
def pU(cx:Cx)(Z:St)(J:aF)(F:List Nat)(a:Act)(w:World):(ps:List aH)->Cont (kin ps)->List Value->List aQ->List (Value×dS)->Prop
 | [],_,[],[],[]=>True
 |.val k _ :: ps,c,v :: vs,i :: is,ts=>(i.wb=none/\i.ws=[]/\i.bt=[]/\vE cx Z J F a w k c.1 i.ids v)/\pU cx Z J F a w ps c.2 vs is ts
 |.ro k :: ps,c,v :: vs,i :: is,ts=>(i.wb=none/\i.ws=[]/\i.bt=[]/\p9 cx Z J F a w k c.1 i.ids v)/\pU cx Z J F a w ps c.2 vs is ts
 |.rw k ow wt ht :: ps,c,v :: vs,i :: is,ts=>(∃r R p,wQ cx Z J w k c.1 ow i wt ht r R p/\i.bt=[fU R p]/\∃cs b o,aN (hp w) p R.k (J.hdr r) (aK J R r)=some (cs,some (b,o))/\v=.pointer (some ⟨b,o,none⟩))/\pU cx Z J F a w ps c.2 vs is ts
 |.dH k ow wt :: ps,c,v :: vs,i :: is,ts=>(∃r R p,wQ cx Z J w k c.1 ow i wt k.tys r R p/\i.bt=[]/\∃cs wh,aN (hp w) p R.k (J.hdr r) (aK J R r)=some (cs,wh)/\VC k v cs)/\pU cx Z J F a w ps c.2 vs is ts
 |.own k ow :: ps,c,v :: vs,i :: is,q :: ts=>(q.1=v/\p_ cx Z J F w v q.2/\i=⟨q.2.tags,none,q.2.ws,[],none⟩/\(∃e:q.2.k=k,c.1=e▸q.2.x)/\tN k q.2.own ow=true)/\pU cx Z J F a w ps c.2 vs is ts
 |.fn f ks :: ps,c,v :: vs,i :: is,ts=>(i.wb=none/\i.ws=[]/\i.bt=[]/\∃us:List Value,v=.func (.func f) #[] us.toArray/\uj cx Z J F a w i.ids ks (Cont.fst ks (kin ps) c) us)/\pU cx Z J F a w ps (Cont.snd ks (kin ps) c) vs is ts
 |.into _ p :: ps,c,v :: vs,i :: is,ts=>(i.wb=none/\i.ws=[]/\i.bt=[]/\Tc Z J w p (Cont.fst (aH.into 0 p).kin (kin ps) c) v i)/\pU cx Z J F a w ps (Cont.snd (aH.into 0 p).kin (kin ps) c) vs is ts
 |_,_,_,_,_=>False
theorem A_:∀(ks ls:List K) (c:Cont ks) (d:Cont ls),Cont.fst ks ls (Cont.app ks ls c d)=c
 | [],_,_,_=>rfl
 |_ :: ks,ls,c,d=>by show(c.1,Cont.fst ks ls (Cont.app ks ls c.2 d))=c;rw[A_ ks ls c.2 d];rfl
theorem Ch:∀(ks ls:List K) (c:Cont ks) (d:Cont ls),Cont.snd ks ls (Cont.app ks ls c d)=d
 | [],_,_,_=>rfl
 |_ :: ks,ls,c,d=>Ch ks ls c.2 d
theorem p9.mono{ids ids':List Tag}(h:∀t∈ids,t∈ids'){k:K}{x:El k}{v:Value}(H:p9 cx Z J F a w k x ids v):p9 cx Z J F a w k x ids' v:=by
 obtain⟨b,o,cs,h1,h2,h3⟩:=H
 refine⟨b,o,cs,h1,h2,λZ1 aV F1 hT=>?_⟩
 obtain⟨g1,g2⟩:=h3 Z1 aV F1 (hT.sub h)
 exact⟨jO (λ_ _=>rfl) (λb hb=>zM hb h) g1,am_ g2 h⟩
theorem uj.mono{ids ids':List Tag}(h:∀t∈ids,t∈ids'):∀{ks:List K} {c:Cont ks} {vs:List Value},uj cx Z J F a w ids ks c vs->uj cx Z J F a w ids' ks c vs
 | [],_,[],_=>trivial
 |_ :: _,_,_ :: _,⟨h1,hh⟩=>⟨h1.mono h,uj.mono h hh⟩
 | [],_,_ :: _,hh=>hh.elim
 |_ :: _,_,[],hh=>hh.elim
theorem Tk.clean{Z1:St}{aV:aF}{F1:List Nat}{ids:List Tag}(h:Tk cx Z J F a w Z1 aV F1 ids)(tys:List TypeId):cu Z1 tys ids=cu Z tys ids:=qc (λt ht=>(h.same t ht).root)
theorem p9.Zi{bt:TypeId}{k:K}{x:El k}{T:List Tag}{v:Value}(h:tX cx Z J F w bt k x T v)(hw:fC Z T)(hc:cu Z (bt :: k.tys) T=true):p9 cx Z J F a w k x T v:=by
 obtain⟨b,o,cs,e,h1,h2,h3,h4⟩:=h.2 hc
 refine⟨b,o,cs,e,h1,λZ1 aV F1 hT=>?_⟩
 obtain⟨b',o',cs',e',h1',h2',h3',_⟩:=(hT.Kr.ro hw h).2 (by rw[hT.clean];exact hc)
 have:b'=b/\o'=o:=by rw[e]at e';simpa using e'.symm
 obtain⟨rfl,rfl⟩:=this
 have hcs:cs'=cs:=cells_eq h1 h1' ((lQ h2').trans (lQ h2).symm)
 subst hcs
 exact⟨h2',h3'⟩
theorem p9.Zh(H:Rel cx Z J F a w){r:Nat}{R:Root}{p:List Stp}{d:Dat}{cs:List Value}{b o:Nat}(hr:aU Z r R)(hv:cz Z R)(hg:aA p R.k R.x=some d)(b_:bM p R.k R.x)(hown:∀t∈az p R.k,ah t R.own=true)
  (hn:aN (hp w) p R.k (J.hdr r) (aK J R r)=some (cs,some (b,o))) (n:Nat):p9 cx Z J F a w d.1 d.2 ((r,n) :: R.tags) (.pointer (some ⟨b,o,none⟩)):=by
 obtain⟨hC,_⟩:=tQ H hr hv hg b_ hown hn
 refine⟨b,o,cs,rfl,hC,λZ1 aV F1 hT=>?_⟩
 have hS:=hT.same (r,n) (by simp)
 have hr1:=(hS.live R).2 hr
 have hv1:cz Z1 R:=⟨hv.1,by rw[qc (λt ht=>(hT.same t (by simp[ht])).root)];exact hv.2⟩
 obtain⟨_,⟨aS,hO,hf⟩,hbb,_,_⟩:=tQ hT.rel hr1 hv1 hg b_ hown (by rw[hS.hdr,hS.wh];exact hn)
 have hq:∀b∈blk aV R r,kG Z1 aV F1 w ((r,n) :: R.tags) b:=λb hb=>by
  refine⟨((hT.rel.roots r R hr1).mine b hb).1,hT.rel.dM r R hr1 b hb,λq Q hq hbq=>?_⟩
  by_cases e:q=r
  ·subst e;exact⟨n,by simp⟩
  ·exact absurd hb (hT.rel.jc q Q r R hq hr1 e b hbq)
 refine⟨oC _ (λb hb=>zM hb (λt ht=>by simp[ht])) (λb hb=>?_) hO,hq b hbb⟩
 have hbr:b∈blk aV R r:=bD _ (hf b hb)
 obtain⟨q1,q2,q3⟩:=hq b hbr
 refine⟨q1,q2,xu hT.rel hr1 (hf b hb),q3,λh0=>?_⟩
 rcases((hT.rel.roots r R hr1).mine b hbr).2 with h|⟨j,pi,h1,h2⟩
 ·omega
 ·exact .inr ⟨j,pi,h1,h2⟩
theorem Ua{A:Type}{z:A}(H:Rel cx Z J F a w){x:AV}{v:Value}{k:(kk:K)->El kk->List Tag->Prog A}(hx:aR cx Z J F w x v)(hw:dB Z x)(h:(oD x k).ends Z z) :
  ∃kk y T,vE cx Z J F a w kk y T v/\(k kk y T).ends Z z:=by
 have key:∀{r:Nat} {R:Root} {p:List Stp} {d:Dat} {cs:List Value} {wh:Option (Nat×Nat)},aU Z r R->cz Z R->aA p R.k R.x=some d->bM p R.k R.x->(∀t∈az p R.k,ah t R.own=true)->aN (hp w) p R.k (J.hdr r) (aK J R r)=some (cs,wh)->VC d.1 v cs->
   vE cx Z J F a w d.1 d.2 (R.out r d.1) v:=by
  intro r R p d cs wh hr hv hg h1 h2 h3 h4
  refine⟨cs,h4,λZ1 aV F1 hT=>?_⟩
  cases hf:d.1.flat with
  |true=>
   obtain⟨aS,h5,_⟩:=tT H hr hv hg h1 h2 h3
   exact kL hf (oC (λ_=>True) (λ_ _=>trivial) (λ_ _=>trivial) h5)
  |false=>
   rcases JU R r hf with ho|⟨ho,hn⟩
   ·rw[ho]at hT
    have hS:=hT.same (r,dz R.w) (by simp)
    have hr1:=(hS.live R).2 hr
    have hv1:cz Z1 R:=⟨hv.1,by rw[qc (λt ht=>(hT.same t (by simp[ht])).root)];exact hv.2⟩
    obtain⟨aS,h5,h6⟩:=tT hT.rel hr1 hv1 hg h1 h2 (by rw[hS.hdr,hS.wh];exact h3)
    exact tL hT.rel hr1 h5 h6
   ·obtain⟨aS,h5,h6⟩:=tT H hr hv hg h1 h2 h3
    have hV:=tL H hr h5 h6
    rw[ho]at hT hV ⊢
    exact hT.Kr.vw (H.fu r R hr.1).1 (by rw[hT.clean];exact yR hv.2 (λ_ h=>h) (λt ht=>Ko p hg h2 t ((FT ht).resolve_right (by rw[hn t ht];exact Bool.false_ne_true)))) (λ_ h=>h) hV
 cases x with
 |val kk y T=>
  obtain⟨h1,h2⟩:=qG h
  obtain⟨cs,h3,h4⟩:=hx (.inr h1)
  exact⟨kk,y,T,⟨cs,h3,λZ1 aV F1 hT=>hT.Kr.vw hw (by rw[hT.clean];exact h1) (λ_ h=>h) h4⟩,h2⟩
 |ref r g=>
  obtain⟨R,hr,hv,h⟩:=gJ h
  rcases bz h with⟨hg,h⟩|⟨_,h⟩
  ·obtain⟨_,h2⟩:=hx R hr (a_ hg)
   exact⟨R.k,R.x,R.out r R.k,key (p:=[]) (d:=⟨R.k,R.x⟩) hr hv rfl trivial (λt ht=>by simp[az]at ht) rfl h2,h⟩
  ·exact h.elim
 |dJ r p n=>
  obtain⟨R,hr,hv,h⟩:=gJ h
  rcases bz h with⟨hg,h⟩|⟨_,h⟩
  ·cases dQ:aA p R.k R.x with
   |none=>rw[dQ]at h;exact h.elim
   |some d=>
    rw[dQ]at h
    obtain⟨h1,h2,cs,wh,h3,h4⟩:=hx R hr.1 hv (a_ hg) d dQ
    exact⟨d.1,d.2,R.out r d.1,key hr hv dQ h1 h2 h3 h4,h⟩
  ·exact h.elim
 |undef=>exact h.elim
 |eH=>exact h.elim
 |ptr r p n=>exact h.elim
 |eY bt k x T=>exact h.elim
 |ko _ _ _ _=>exact h.elim
 |nG _=>exact h.elim
 |part _ _ _ _ _=>exact h.elim
 |lH _ _ _ _=>exact h.elim
 |sub _ _ _ _ _ _=>exact h.elim
 |sel _ _ _ _ _ _=>exact h.elim
 |app _ _ _ _=>exact h.elim
 |iI=>exact h.elim
 |fn f cs=>exact h.elim
theorem vE.flat{k:K}{x:El k}{ids:List Tag}{v:Value}(hf:k.flat=true)(h:vE cx Z J F a w k x ids v)(H:Rel cx Z J F a w):vE cx Z J F a w k x [] v:=by
 obtain⟨cs,h1,h2⟩:=h
 have h3:=h2 Z J F ⟨H,λT tys _ h=>⟨h,λb hb _=>⟨hb,rfl⟩,λb hb _=>⟨hb,rfl⟩⟩,λ_ _=>sG ..⟩
 exact⟨cs,h1,λ_ _ _ _=>kL hf h3⟩
theorem aeh{A:Type}{z:A}:∀{ks:List K} {l:List (TypeId×Dat×List Tag)} {vs:List Value} {k:Cont ks->List Tag->Prog A},mH cx Z J F w l vs->(∀c∈l,fC Z c.2.2)->(H7 ks l k).ends Z z->
  ∃c T,uj cx Z J F a w T ks c vs/\(k c T).ends Z z:=by
 intro ks
 induction ks with
 |nil=>
  intro l vs k h1 h2 h
  cases l with
  |nil=>
   cases vs with
   |nil=>exact⟨(),[],trivial,h⟩
   |cons v vs=>exact h1.elim
  |cons q l=>exact h.elim
 |cons kk ks ih=>
  intro l vs k h1 h2 h
  cases l with
  |nil=>exact h.elim
  |cons q l=>
   obtain⟨t,d,tags⟩:=q
   cases vs with
   |nil=>exact h1.elim
   |cons v vs=>
    simp only[H7]at h
    obtain⟨hc,h⟩:=qG h
    cases hk:bR d.1 kk d.2 with
    |none=>rw[hk]at h;exact h.elim
    |some x=>
     rw[hk]at h
     simp only at h
     obtain⟨ek,ey⟩:=iw hk
     obtain⟨c,T,g1,g2⟩:=ih h1.2 (λc hc=>h2 c (by simp[hc])) h
     refine⟨(x,c),jS tags T,⟨?_,g1.mono (λt ht=>kF.2 (.inr ht))⟩,g2⟩
     obtain⟨dk,dx⟩:=d
     simp only at ek ey h1
     subst ek
     subst ey
     exact(p9.Zi h1.1 (h2 _ jl) hc).mono (λt ht=>kF.2 (.inl ht))
theorem agd{A:Type}{z:A}(H:Rel cx Z J F a w):∀{ps:List aH} {lT:List AV} {vs:List Value} {k:Cont (kin ps)->List aQ->Prog A},gU cx Z J F w lT vs->(∀v∈lT,dB Z v)->(lW ps lT k).ends Z z->
  ∃c is ts,pU cx Z J F a w ps c vs is ts/\(k c is).ends Z z:=by
 intro ps
 induction ps with
 |nil=>
  intro lT vs k h1 _ h
  cases lT with
  |nil=>
   cases vs with
   |nil=>exact⟨(),[],[],trivial,h⟩
   |cons v vs=>exact h1.elim
  |cons x lT=>exact h.elim
 |cons p ps ih=>
  intro lT vs k h1 h2 h
  cases lT with
  |nil=>
   cases p with
   |into j q=>cases q<;>exact h.elim
   |_=>exact h.elim
  |cons x lT=>
   cases vs with
   |nil=>exact h1.elim
   |cons v vs=>
    have h2':∀v∈lT,dB Z v:=λv hv=>h2 v (by simp[hv])
    cases p with
    |val kk bB=>
     have hgo:∀(y:El kk) (tags:List Tag),vE cx Z J F a w kk y tags v->
       (lW ps lT λc is=>k (y,c) (⟨tags,none,[],[],none⟩ :: is)).ends Z z->∃c is ts,pU cx Z J F a w (.val kk bB :: ps) c (v :: vs) is ts/\(k c is).ends Z z:=by
      intro y tags hy h
      obtain⟨c,is,ts,g1,g2⟩:=ih h1.2 h2' h
      exact⟨(y,c),⟨tags,none,[],[],none⟩ :: is,ts,⟨⟨rfl,rfl,rfl,hy⟩,g1⟩,g2⟩
     have hval:(oD x λk' x tags=>match bR k' kk x with
       |some y=>lW ps lT λc is=>k (y,c) (⟨bif kk.flat then []else tags,none,[],[],none⟩ :: is)
       |none=>.fail).ends Z z->∃c is ts,pU cx Z J F a w (.val kk bB :: ps) c (v :: vs) is ts/\(k c is).ends Z z:=by
      intro h
      obtain⟨k',y,Tg,f1,f5⟩:=Ua H h1.1 (h2 x (by simp)) h
      cases hc:bR k' kk y with
      |none=>rw[hc]at f5;exact f5.elim
      |some y'=>
       rw[hc]at f5
       obtain⟨ek,ey⟩:=iw hc
       subst ek
       simp only at ey
       subst ey
       cases hf:k'.flat with
       |true=>
        rw[hf]at f5
        exact hgo _ _ (f1.flat hf H) f5
       |false=>
        rw[hf]at f5
        exact hgo _ _ f1 f5
     cases x with
     |eH=>
      cases kk with
      |sl e kk=>
       obtain⟨b,rfl⟩:=h1.1
       exact hgo [] [] ⟨[.slice b 0 0],Ka,λ_ _ _ _=>⟨b,0,0,rfl,rfl,bT _,λh=>by omega⟩⟩ h
      |_=>exact h.elim
     |undef=>exact hval h
     |val _ _ _=>exact hval h
     |ref _ _=>exact hval h
     |dJ _ _ _=>exact hval h
     |ptr _ _ _=>exact hval h
     |eY _ _ _ _=>exact hval h
     |ko _ _ _ _=>exact hval h
     |nG _=>exact hval h
     |part _ _ _ _ _=>exact hval h
     |lH _ _ _ _=>exact hval h
     |sub _ _ _ _ _ _=>exact hval h
     |sel _ _ _ _ _ _=>exact hval h
     |app _ _ _ _=>exact hval h
     |iI=>exact hval h
     |fn _ _=>exact hval h
    |ro kk=>
     simp only[lW]at h
     have hgo:∀(d:Dat) (tags:List Tag),p9 cx Z J F a w d.1 d.2 tags v->(match bR d.1 kk d.2 with
       |some y=>lW ps lT λc is=>k (y,c) (⟨tags,none,[],[],none⟩ :: is)
       |none=>.fail).ends Z z->∃c is ts,pU cx Z J F a w (.ro kk :: ps) c (v :: vs) is ts/\(k c is).ends Z z:=by
      intro d tags hd h
      cases hc:bR d.1 kk d.2 with
      |none=>rw[hc]at h;exact h.elim
      |some y=>
       rw[hc]at h
       obtain⟨ek,ey⟩:=iw hc
       obtain⟨dk,dx⟩:=d
       simp only at ek ey hd
       subst ek
       subst ey
       obtain⟨c,is,ts,g1,g2⟩:=ih h1.2 h2' h
       exact⟨(y,c),⟨tags,none,[],[],none⟩ :: is,ts,⟨⟨rfl,rfl,rfl,hd⟩,g1⟩,g2⟩
     cases x with
     |ptr r p n=>
      rcases Ht H h1.1 (h2 (.ptr r p n) (by simp)) h with⟨r',R,p',d,cs,b,o,hr,hv,hg,b_,hown,hn,e,h5⟩|⟨bt,d,Tg,b,o,cs,hw,e,hcs,hV,hok,hb,h5⟩
      ·subst e
       exact hgo d _ (p9.Zh H hr hv hg b_ hown hn _) h5
      ·simp only[addrOf]at h
       obtain⟨R,hr,hv,h⟩:=gJ h
       rcases bz h with⟨hc,h⟩|⟨_,h⟩
       ·simp only[bg]at hc
        cases dQ:aA p R.k R.x with
        |none=>rw[dQ]at h;exact h.elim
        |some d=>
         rw[dQ]at h
         have hown:=mQ hc.2
         obtain⟨g1,cs,b,o,g2,g3⟩:=h1.1.2 R hr.1 hv hc.1 hown (by rw[dQ];rfl)
         subst g3
         exact hgo d _ (p9.Zh H hr hv dQ g1 hown g2 _) h
       ·exact h.elim
     |eY bt kx y Tg=>
      simp only[addrOf]at h
      obtain⟨hc,h⟩:=qG h
      exact hgo ⟨kx,y⟩ Tg (p9.Zi h1.1 (h2 (.eY bt kx y Tg) (by simp)) hc) h
     |_=>exact h.elim
    |rw kk ow wt ht=>
     simp only[lW]at h
     cases x with
     |ptr r p n=>
      simp only at h
      obtain⟨R,hr,hv,h⟩:=gJ h
      rcases bz h with⟨hc,h⟩|⟨_,h⟩
      ·simp only[bg]at hc
       cases dQ:aA p R.k R.x with
       |none=>rw[dQ]at h;exact h.elim
       |some d=>
        rw[dQ]at h
        simp only at h
        cases hck:bR d.1 kk d.2 with
        |none=>rw[hck]at h;exact h.elim
        |some y=>
         rw[hck]at h
         obtain⟨ek,ey⟩:=iw hck
         obtain⟨dk,dx⟩:=d
         simp only at ek ey h
         subst ek
         subst ey
         rcases bz h with⟨hj,h⟩|⟨_,h⟩
         ·have hown:=mQ hc.2
          obtain⟨g1,cs,b,o,g2,g3⟩:=h1.1.2 R hr.1 hv hc.1 hown (by rw[dQ];rfl)
          obtain⟨c,is,ts,f1,f2⟩:=ih h1.2 h2' h
          exact⟨(y,c),⟨R.tags,some (r,p,wt,ht),[],[fU R p],none⟩ :: is,ts,⟨⟨r,R,p,⟨rfl,rfl,rfl,hr,hv,dQ,g1,hown,hj⟩,rfl,cs,b,o,g2,g3⟩,f1⟩,f2⟩
         ·exact h.elim
      ·exact h.elim
     |_=>exact h.elim
    |dH kk ow wt=>
     simp only[lW]at h
     have hgo:∀(r:Nat) (R:Root) (p:List Stp) (d:Dat),aU Z r R->cz Z R->aA p R.k R.x=some d->bM p R.k R.x->(∀t∈az p R.k,ah t R.own=true)->(∃cs wh,aN (hp w) p R.k (J.hdr r) (aK J R r)=some (cs,wh)/\VC d.1 v cs)->
       (match bR d.1 kk d.2 with
       |some y=>bif tN kk R.own ow then lW ps lT λc is=>k (y,c) (⟨R.tags,some (r,p,wt,kk.tys),[],[],none⟩ :: is)else .fail
       |none=>.fail).ends Z z->∃c is ts,pU cx Z J F a w (.dH kk ow wt :: ps) c (v :: vs) is ts/\(k c is).ends Z z:=by
      intro r R p d hr hv hg b_ hown hn h
      cases hck:bR d.1 kk d.2 with
      |none=>rw[hck]at h;exact h.elim
      |some y=>
       rw[hck]at h
       obtain⟨ek,ey⟩:=iw hck
       obtain⟨dk,dx⟩:=d
       simp only at ek ey h hn
       subst ek
       subst ey
       rcases bz h with⟨hj,h⟩|⟨_,h⟩
       ·obtain⟨c,is,ts,f1,f2⟩:=ih h1.2 h2' h
        exact⟨(y,c),⟨R.tags,some (r,p,wt,dk.tys),[],[],none⟩ :: is,ts,⟨⟨r,R,p,⟨rfl,rfl,rfl,hr,hv,hg,b_,hown,hj⟩,rfl,hn⟩,f1⟩,f2⟩
       ·exact h.elim
     cases x with
     |dJ r p n=>
      simp only at h
      obtain⟨R,hr,hv,h⟩:=gJ h
      rcases bz h with⟨hc,h⟩|⟨_,h⟩
      ·cases dQ:aA p R.k R.x with
       |none=>rw[dQ]at h;exact h.elim
       |some d=>
        rw[dQ]at h
        obtain⟨g1,g2,cs,wh,g3,g4⟩:=h1.1 R hr.1 hv (a_ hc) d dQ
        exact hgo r R p d hr hv dQ g1 g2 ⟨cs,wh,g3,g4⟩ h
      ·exact h.elim
     |ref r g=>
      simp only at h
      obtain⟨R,hr,hv,h⟩:=gJ h
      rcases bz h with⟨hc,h⟩|⟨_,h⟩
      ·obtain⟨_,g4⟩:=h1.1 R hr (a_ hc)
       exact hgo r R [] ⟨R.k,R.x⟩ hr hv rfl trivial (λt ht=>by simp[az]at ht) ⟨_,_,rfl,g4⟩ h
      ·exact h.elim
     |_=>exact h.elim
    |own kk ow=>
     simp only[lW]at h
     obtain⟨tk,htk,h⟩:=xS H h1.1 (h2 x (by simp)) h
     cases hck:bR tk.k kk tk.x with
     |none=>rw[hck]at h;exact h.elim
     |some y=>
      rw[hck]at h
      obtain⟨ek,ey⟩:=iw hck
      simp only at h
      rcases bz h with⟨hj,h⟩|⟨_,h⟩
      ·obtain⟨c,is,ts,f1,f2⟩:=ih h1.2 h2' h
       exact⟨(y,c),⟨tk.tags,none,tk.ws,[],none⟩ :: is,(v,tk) :: ts,⟨⟨rfl,htk,rfl,⟨ek,ey⟩,hj⟩,f1⟩,f2⟩
      ·exact h.elim
    |fn f ks=>
     simp only[lW]at h
     cases x with
     |fn f' caps=>
      simp only at h
      rcases bz h with⟨hf,h⟩|⟨_,h⟩
      ·obtain⟨us,e1,e2⟩:=h1.1
       obtain⟨c0,T0,g1,h⟩:=aeh (a:=a) e2 (λc hc=>h2 (.fn f' caps) (by simp) c hc) h
       obtain⟨c,is,ts,f1,f2⟩:=ih h1.2 h2' h
       refine⟨Cont.app ks (kin ps) c0 c,⟨T0,none,[],[],none⟩ :: is,ts,⟨⟨rfl,rfl,rfl,us,?_,?_⟩,?_⟩,f2⟩
       ·rw[e1,a_ hf]
       ·rw[A_];exact g1
       ·rw[Ch];exact f1
      ·exact h.elim
     |_=>exact h.elim
    |into j q=>
     cases q with
     |cons t q=>
      cases x with
      |ptr r q' n=>
       simp only[lW]at h
       obtain⟨R,hr,hv,h⟩:=gJ h
       rcases bz h with⟨hc,h⟩|⟨_,h⟩
       ·simp only[bg]at hc
        obtain⟨⟨c1,c2⟩,c3⟩:=hc
        cases hi:idxOf (t :: q) (q'.drop (q'.length-(t :: q).length))with
        |none=>rw[hi]at h;exact h.elim
        |some c0=>
         rw[hi]at h
         obtain⟨c,is,ts,f1,f2⟩:=ih h1.2 h2' h
         obtain⟨⟨bb,oo,ev⟩,hat⟩:=h1.1
         obtain⟨b_,cs,b,o,hn,ry⟩:=hat R hr.1 hv c1 (mQ c2) c3
         refine⟨Cont.app (aH.into 0 (t :: q)).kin (kin ps) c0 c,⟨[],none,[],[],some (r,q')⟩ :: is,ts,⟨⟨rfl,rfl,rfl,.inr ⟨by simp,r,q',R,cs,b,o,rfl,hr,b_,c3,hn,ry,?_⟩⟩,?_⟩,f2⟩
         ·rw[A_];exact(IU hi).symm
         ·rw[Ch];exact f1
       ·exact h.elim
      |_=>exact h.elim
     |nil=>
      cases x with
      |eH=>
       obtain⟨b,hb⟩:=h1.1
       obtain⟨c,is,ts,f1,f2⟩:=ih h1.2 h2' h
       exact⟨c,⟨[],none,[],[],none⟩ :: is,ts,⟨⟨rfl,rfl,rfl,.inl ⟨rfl,rfl,b,hb⟩⟩,f1⟩,f2⟩
      |_=>exact h.elim
end
end
section
open Go
variable [Fr]
structure GA where
 v:Value
 cs:List Value
 fo:List Nat
 base:Option (Nat×Nat)
 ow:Bool
 wb:Bool
def xI(p:aH)(i:Nat)(c:Cont p.kin):AV:=match p,c with
 |.val k bB,c=>.val k c.1 (bif k.flat then []else(gB i,0) :: bB.map λj=>(aC j,0))
 |.ro k,c=>.eY SENT k c.1 [(gB i,0)]
 |.rw _ _ _ _,_=>.ptr (aC i) [] 0
 |.dH _ _ _,_=>.ref (aC i) 0
 |.own _ _,_=>.ref (aC i) 0
 |.fn f ks,c=>.fn f (eU.AP i ks c)
 |.into j p,c=>WE j p c
def jF(p:aH)(i:Nat)(c:Cont p.kin):Option Root:=match p,c with
 |.rw k ow _ _,c=>some (bL k c.1 ow (bif k.tys.all (λt=>ah t ow)then []else [(gB i,0)]) .par true)
 |.dH k ow _,c=>some { bL k c.1 ow (bif k.tys.all (λt=>ah t ow)then []else [(gB i,0)]) .anon true with fixed:=true }
 |.own k ow,c=>some (bL k c.1 ow (bif k.tys.all (λt=>ah t ow)then []else [(gB i,0)]) .anon)
 |_,_=>none
def sP:(p:aH)->(ps:List aH)->Cont (kin (p :: ps))->Cont p.kin
 |.val _ _,_,c=>(c.1,())
 |.ro _,_,c=>(c.1,())
 |.rw _ _ _ _,_,c=>(c.1,())
 |.dH _ _ _,_,c=>(c.1,())
 |.own _ _,_,c=>(c.1,())
 |.fn _ ks,ps,c=>Cont.fst ks (kin ps) c
 |.into _ p,ps,c=>Cont.fst (aH.into 0 p).kin (kin ps) c
def xU:(p:aH)->(ps:List aH)->Cont (kin (p :: ps))->Cont (kin ps)
 |.val _ _,_,c=>c.2
 |.ro _,_,c=>c.2
 |.rw _ _ _ _,_,c=>c.2
 |.dH _ _ _,_,c=>c.2
 |.own _ _,_,c=>c.2
 |.fn _ ks,ps,c=>Cont.snd ks (kin ps) c
 |.into _ p,ps,c=>Cont.snd (aH.into 0 p).kin (kin ps) c
theorem NZ(p:aH)(ps:List aH)(i:Nat)(c:Cont (kin (p :: ps))):eU (p :: ps) i c=(i,xI p i (sP p ps c)) :: eU ps (i+1) (xU p ps c):=by cases p<;>rfl
theorem Ei(p:aH)(ps:List aH)(i:Nat)(c:Cont (kin (p :: ps))):jd (p :: ps) i c=(match jF p i (sP p ps c)with
 |some R=>[(aC i,R)]
 |none=>[])++jd ps (i+1) (xU p ps c):=by cases p<;>rfl
theorem Zv{i j:Nat}(h:aC i=aC j):i=j:=by unfold aC at h;omega
theorem YZ:∀(ps:List aH) (i:Nat) (c:Cont (kin ps)) (s:Nat),gG (eU ps i c) s=.one .undef\/∃j p cj,s=i+j/\ps[j]?=some p/\gG (eU ps i c) s=.one (xI p s cj)
 | [],i,c,s=>.inl rfl
 |p :: ps,i,c,s=>by
  rw[NZ]
  simp only[gG]
  by_cases h:s=i
  ·subst h
   refine .inr ⟨0,p,sP p ps c,rfl,rfl,?_⟩
   simp
  ·have:Nat.beq s i=false:=by
    cases hb:Nat.beq s i with
    |true=>exact absurd (a_ hb) h
    |false=>rfl
   rw[this]
   simp only[jr]
   rcases YZ ps (i+1) (xU p ps c) s with h1|⟨j,q,cj,h1,h2,h3⟩
   ·exact .inl h1
   ·exact .inr ⟨j+1,q,cj,by omega,by simpa using h2,h3⟩
theorem E8(l m:List (Nat×Root))(n:Nat):iY (l++m) n=match iY l n with
 |some R=>some R
 |none=>iY m n:=by
 induction l with
 |nil=>rfl
 |cons q l ih=>
  obtain⟨s,a⟩:=q
  simp only[iR,iY]
  cases Nat.beq n s with
  |true=>rfl
  |false=>exact ih
theorem YY:∀(ps:List aH) (i:Nat) (c:Cont (kin ps)) (r:Nat),r<aC i->iY (jd ps i c) r=none
 | [],_,_,_,_=>rfl
 |p :: ps,i,c,r,h=>by
  rw[Ei,E8]
  have h2:=YY ps (i+1) (xU p ps c) r (by unfold aC at h ⊢;omega)
  cases jF p i (sP p ps c)with
  |none=>exact h2
  |some R=>
   have:Nat.beq r (aC i)=false:=by
    cases hb:Nat.beq r (aC i)with
    |true=>have:=a_ hb;omega
    |false=>rfl
   simp only[iY,this,jr]
   exact h2
def Lr(cx:Cx)(Z:St)(J:aF)(F:List Nat)(a:Act)(w:World)(r:Nat)(R:Root)(p:List Stp)(d:Dat)(cs1:List Value)(bZ:Option (Nat×Nat))(aS:List Nat):Prop:=
 ∃rest,(J.fo r).Perm (aS++rest)/\(∀b o,bZ=some (b,o)->b∈rest\/∃o0,aK J R r=some (b,o0)/\o0<=o/\o+d.1.size<=o0+R.k.size)/\(∀b o,bZ=some (b,o)->b∉aS)/\
  ∀{t z:Dat} {tags':List Tag} {lw lh:List TypeId} {kp:Bool} {ft F':List Nat} {cs':List Value} {w':World},yJ cx Z J F w r R p d R.own cs1 bZ aS rest t z tags' lw lh kp ft F' cs' w'->
    ∃J',Rel cx (aL Z r (fV R z R.own tags' lw lh kp)) J' F' a w'/\gL cx Z J F w (aL Z r (fV R z R.own tags' lw lh kp)) J' F' w' (jG r lw) (jG r lh)/\(∀b∈blk J' (fV R z R.own tags' lw lh kp) r,(∃o,aK J R r=some (b,o))\/b∈ft\/b∈rest)/\
     (iZ∉lh->cz (aL Z r (fV R z R.own tags' lw lh kp)) (fV R z R.own tags' lw lh kp)->aN (hp w') p z.1 (J'.hdr r) (aK J' (fV R z R.own tags' lw lh kp) r)=some (cs',bZ))/\∀b∈ft,b∈J'.fo r
def qz(cx:Cx)(Z:St)(J:aF)(F:List Nat)(a:Act)(w:World)(p:aH)(c:Cont p.kin)(v:Value)(i:aQ)(g:GA):Prop:=g.v=v/\match p,c with
 |.val k _,c=>g.ow=false/\g.wb=false/\i.wb=none/\g.fo=[]/\g.base=none/\VC k v g.cs/\Vw (hp w) (aO cx Z J F w i.ids) k c.1 g.cs
 |.ro k,c=>g.ow=false/\g.wb=false/\i.wb=none/\g.fo=[]/\g.base=none/\∃b o,v=.pointer (some ⟨b,o,none⟩)/\Cells (hp w) b o g.cs/\Vw (hp w) (aO cx Z J F w i.ids) k c.1 g.cs/\kG Z J F w i.ids b
 |.rw k ow wt ht,c=>g.ow=false/\g.wb=true/\∃r R p b o,wQ cx Z J w k c.1 ow i wt ht r R p/\i.bt=[fU R p]/\aN (hp w) p R.k (J.hdr r) (aK J R r)=some (g.cs,some (b,o))/\v=.pointer (some ⟨b,o,none⟩)/\g.base=some (b,o)/\
   Ow (hp w) R.own (aO cx Z J F w R.tags) k c.1 g.cs g.fo/\(∀b∈g.fo,b∈J.fo r)/\g.fo.Nodup/\b∉g.fo/\Lr cx Z J F a w r R p ⟨k,c.1⟩ g.cs (some (b,o)) g.fo
 |.dH k ow wt,c=>g.ow=false/\g.wb=true/\∃r R p wh,wQ cx Z J w k c.1 ow i wt k.tys r R p/\i.bt=[]/\aN (hp w) p R.k (J.hdr r) (aK J R r)=some (g.cs,wh)/\VC k v g.cs/\g.base=none/\
   Ow (hp w) R.own (aO cx Z J F w R.tags) k c.1 g.cs g.fo/\(∀b∈g.fo,b∈J.fo r)/\g.fo.Nodup/\Lr cx Z J F a w r R p ⟨k,c.1⟩ g.cs wh g.fo
 |.own k ow,c=>g.ow=true/\g.wb=false/\i.wb=none/\g.base=none/\VC k v g.cs/\Ow (hp w) ow (aO cx Z J F w i.ids) k c.1 g.cs g.fo/\(∀b∈g.fo,b∈F)/\g.fo.Nodup
 |.fn f ks,c=>g.ow=false/\g.wb=false/\i.wb=none/\g.fo=[]/\g.base=none/\∃us:List Value,v=.func (.func f) #[] us.toArray/\FZ ks c us i.ids
 |.into _ p,c=>g.ow=false/\g.wb=false/\i.wb=none/\g.fo=[]/\g.base=none/\Tc Z J w p c v i
where FZ:(ks:List K)->Cont ks->List Value->List Tag->Prop
 | [],_,[],_=>True
 |k :: ks,c,v :: vs,ids=>(∃b o cs,v=.pointer (some ⟨b,o,none⟩)/\Cells (hp w) b o cs/\Vw (hp w) (aO cx Z J F w ids) k c.1 cs/\kG Z J F w ids b)/\FZ ks c.2 vs ids
 |_,_,_,_=>False
def qY(cx:Cx)(Z:St)(J:aF)(F:List Nat)(a:Act)(w:World):(ps:List aH)->Cont (kin ps)->List Value->List aQ->List GA->Prop
 | [],_,[],[],[]=>True
 |p :: ps,c,v :: vs,i :: is,g :: gs=>qz cx Z J F a w p (sP p ps c) v i g/\qY cx Z J F a w ps (xU p ps c) vs is gs
 |_,_,_,_,_=>False
section
variable {P:Program}{T:bF}{cx:Cx}{Z:St}{J:aF}{F:List Nat}{a:Act}{w:World}
theorem uj.caps{Z1:St}{aV:aF}{F1:List Nat}{ids:List Tag}(hT:Tk cx Z J F a w Z1 aV F1 ids):∀{ks:List K} {c:Cont ks} {us:List Value},uj cx Z J F a w ids ks c us->qz.FZ cx Z1 aV F1 w ks c us ids
 | [],_,[],_=>trivial
 |_ :: _,_,_ :: _,⟨⟨b,o,cs,h1,h2,h3⟩,hh⟩=>⟨⟨b,o,cs,h1,h2,h3 Z1 aV F1 hT⟩,uj.caps hT hh⟩
 | [],_,_ :: _,hh=>hh.elim
 |_ :: _,_,[],hh=>hh.elim
theorem adR{Z1:St}{aV:aF}{F1:List Nat}(H1:Rel cx Z1 aV F1 a w)(hV:Views cx Z J F w Z1 aV F1 w):∀{ps:List aH} {c:Cont (kin ps)} {vs:List Value} {is:List aQ} {ts:List (Value×dS)} {hs:List (List Value×List Nat)},
  pU cx Z J F a w ps c vs is ts->sw cx Z1 aV F1 w ts hs->(∀i∈is,∀t∈i.ids,Same Z J Z1 aV t.1)->(∀i∈is,∀r q,i.wb=some (r,q)->Same Z J Z1 aV r)->(∀(j m:Nat) (p:List (Option Nat)) (i:aQ) (r:Nat) (q:List Stp),ps[j]?=some (.into m p)->is[j]?=some i->i.lie=some (r,q)->Same Z J Z1 aV r)->
  ∃gs,qY cx Z1 aV F1 a w ps c vs is gs/\(gs.flatMap λg=>bif g.ow then g.fo else [])=hs.flatMap (·.2):=by
 intro ps
 induction ps with
 |nil=>
  intro c vs is ts hs h hh _ _ _
  cases vs with
  |cons _ _=>exact h.elim
  |nil=>cases is with
   |cons _ _=>exact h.elim
   |nil=>cases ts with
    |cons _ _=>exact h.elim
    |nil=>cases hs with
     |cons _ _=>exact hh.elim
     |nil=>exact⟨[],trivial,rfl⟩
 |cons p ps ih=>
  intro c vs is ts hs h hh hS hR hL
  have hpl:∀{k:K} {x:El k} {ow:List TypeId} {i:aQ} {wt ht:List TypeId} {r:Nat} {R:Root} {p:List Stp} {cs:List Value} {wh:Option (Nat×Nat)},wQ cx Z J w k x ow i wt ht r R p->(∀t∈i.ids,Same Z J Z1 aV t.1)->Same Z J Z1 aV r->
    aN (hp w) p R.k (J.hdr r) (aK J R r)=some (cs,wh)->wQ cx Z1 aV w k x ow i wt ht r R p/\aN (hp w) p R.k (aV.hdr r) (aK aV R r)=some (cs,wh)/\
     ∃fo,Ow (hp w) R.own (aO cx Z1 aV F1 w R.tags) k x cs fo/\(∀b∈fo,b∈aV.fo r)/\fo.Nodup/\(∀b o,wh=some (b,o)->b∉fo)/\Lr cx Z1 aV F1 a w r R p ⟨k,x⟩ cs wh fo:=by
   intro k x ow i wt ht r R p cs wh hP hid hr hn
   have hr1:=(hr.live R).2 hP.lv
   have hv1:cz Z1 R:=⟨hP.vl.1,by rw[qc (λt ht=>(hid t (by rw[hP.ids];exact ht)).root)];exact hP.vl.2⟩
   have hn1:aN (hp w) p R.k (aV.hdr r) (aK aV R r)=some (cs,wh):=by rw[hr.hdr,hr.wh];exact hn
   have K:=H1.roots r R hr1
   have hnd:=K.nd
   rw[iN,rJ]at hnd
   obtain⟨fd,ok',aS,rest,iG,wh2,hn',hpf,hd1,hty,hall,fM,hwf,hgo⟩:=H1.place hr1 hv1 (own':=R.own) hP.get hP.pin (λ_ h=>h) hP.own
   rw[hn1]at hn'
   simp only[aa,bK]at hn'
   obtain⟨rfl,rfl⟩:=hn'
   obtain⟨IA,hO⟩:=hall (λ_ _=>rfl)
   subst IA
   rw[jJ]at hpf
   have kU:=hpf.nodup hnd.2
   exact⟨⟨hP.wb,hP.ws,hP.ids,hr1,hv1,hP.get,hP.pin,hP.own,hP.just⟩,hn1,aS,hO,λb hb=>hpf.mem_iff.2 (bP _ hb),(dA.1 kU).1,hwf,rest,hpf,fM,hwf,hgo⟩
  cases vs with
  |nil=>cases p<;>exact h.elim
  |cons v vs=>
   cases is with
   |nil=>cases p<;>exact h.elim
   |cons i is=>
    have hS1:=hS i (by simp)
    have Vo:=hR i (by simp)
    have qh:Tk cx Z J F a w Z1 aV F1 i.ids:=⟨H1,hV,hS1⟩
    have hS2:∀i∈is,∀t∈i.ids,Same Z J Z1 aV t.1:=λi hi=>hS i (by simp[hi])
    have hR2:∀i∈is,∀r q,i.wb=some (r,q)->Same Z J Z1 aV r:=λi hi=>hR i (by simp[hi])
    have hL2:∀(j m:Nat) (p:List (Option Nat)) (i:aQ) (r:Nat) (q:List Stp),ps[j]?=some (.into m p)->is[j]?=some i->i.lie=some (r,q)->Same Z J Z1 aV r:=λj m p i r q h1 h2=>hL (j+1) m p i r q (by simpa using h1) (by simpa using h2)
    cases p with
    |val k bB=>
     obtain⟨⟨h1,h2,h3,cs,h4,h5⟩,h6⟩:=h
     obtain⟨gs,g1,g2⟩:=ih h6 hh hS2 hR2 hL2
     exact⟨⟨v,cs,[],none,false,false⟩ :: gs,⟨⟨rfl,rfl,rfl,h1,rfl,rfl,h4,h5 Z1 aV F1 qh⟩,g1⟩,by simpa using g2⟩
    |ro k=>
     obtain⟨⟨h1,h2,h3,b,o,cs,h4,h5,h7⟩,h6⟩:=h
     obtain⟨gs,g1,g2⟩:=ih h6 hh hS2 hR2 hL2
     exact⟨⟨v,cs,[],none,false,false⟩ :: gs,⟨⟨rfl,rfl,rfl,h1,rfl,rfl,b,o,h4,h5,h7 Z1 aV F1 qh⟩,g1⟩,by simpa using g2⟩
    |rw k ow wt ht=>
     obtain⟨⟨r,R,p,hP,hbt,cs,b,o,hn,hv⟩,h6⟩:=h
     obtain⟨gs,g1,g2⟩:=ih h6 hh hS2 hR2 hL2
     obtain⟨q1,q2,fo,q3,q4,q5,q6,q7⟩:=hpl hP hS1 (Vo r _ hP.wb) hn
     exact⟨⟨v,cs,fo,some (b,o),false,true⟩ :: gs,⟨⟨rfl,rfl,rfl,r,R,p,b,o,q1,hbt,q2,hv,rfl,q3,q4,q5,q6 b o rfl,q7⟩,g1⟩,by simpa using g2⟩
    |dH k ow wt=>
     obtain⟨⟨r,R,p,hP,hbt,cs,wh,hn,hv⟩,h6⟩:=h
     obtain⟨gs,g1,g2⟩:=ih h6 hh hS2 hR2 hL2
     obtain⟨q1,q2,fo,q3,q4,q5,q6,q7⟩:=hpl hP hS1 (Vo r _ hP.wb) hn
     exact⟨⟨v,cs,fo,none,false,true⟩ :: gs,⟨⟨rfl,rfl,rfl,r,R,p,wh,q1,hbt,q2,hv,rfl,q3,q4,q5,q7⟩,g1⟩,by simpa using g2⟩
    |own k ow=>
     cases ts with
     |nil=>exact h.elim
     |cons q ts=>
      cases hs with
      |nil=>exact hh.elim
      |cons hd hs=>
       obtain⟨⟨h1,h2,h3,⟨ek,ey⟩,h5⟩,h6⟩:=h
       obtain⟨⟨k1,k2,k3⟩,k4⟩:=hh
       obtain⟨gs,g1,g2⟩:=ih h6 k4 hS2 hR2 hL2
       obtain⟨v',tk⟩:=q
       simp only at h1 h2 h3 ek ey h5 k1 k2 k3
       subst h1
       have hO:Ow (hp w) ow (aO cx Z1 aV F1 w tk.tags) k c.1 hd.1 hd.2:=by
        refine q8 (λt ht=>?_) (uw ek ey (k2.ow k3))
        have:=dX.1 h5 t ht
        exact(by simpa using this:ah t tk.own=ah t ow).symm
       refine⟨⟨v',hd.1,hd.2,none,true,false⟩ :: gs,⟨⟨rfl,rfl,rfl,by rw[h3],rfl,ek▸k1,by rw[h3];exact hO,k2.sub,k2.nd⟩,g1⟩,by simp[g2]⟩
    |fn f ks=>
     obtain⟨⟨h1,h2,h3,us,h4,h5⟩,h6⟩:=h
     obtain⟨gs,g1,g2⟩:=ih h6 hh hS2 hR2 hL2
     exact⟨⟨v,[],[],none,false,false⟩ :: gs,⟨⟨rfl,rfl,rfl,h1,rfl,rfl,us,h4,h5.caps qh⟩,g1⟩,by simpa using g2⟩
    |into j q=>
     obtain⟨⟨h1,h2,h3,h4⟩,h6⟩:=h
     obtain⟨gs,g1,g2⟩:=ih h6 hh hS2 hR2 hL2
     refine⟨⟨v,[],[],none,false,false⟩ :: gs,⟨⟨rfl,rfl,rfl,h1,rfl,rfl,?_⟩,g1⟩,by simpa using g2⟩
     rcases h4 with h4|⟨e0,r,q',R,cs,b,o,e1,e2,e3,e4,e5,e6,e7⟩
     ·exact .inl h4
     ·have hr:=hL 0 j q i r q' (by simp) (by simp) e1
      exact .inr ⟨e0,r,q',R,cs,b,o,e1,(hr.live R).2 e2,e3,e4,by rw[hr.hdr,hr.wh];exact e5,e6,e7⟩
theorem qY.at:∀{ps:List aH} {c:Cont (kin ps)} {vs:List Value} {is:List aQ} {gs:List GA} {i0:Nat},qY cx Z J F a w ps c vs is gs->
  vs.length=ps.length/\is.length=ps.length/\gs.length=ps.length/\∀j p,ps[j]?=some p->∃cj v i g,vs[j]?=some v/\is[j]?=some i/\gs[j]?=some g/\qz cx Z J F a w p cj v i g/\
   gG (eU ps i0 c) (i0+j)=.one (xI p (i0+j) cj)/\iY (jd ps i0 c) (aC (i0+j))=jF p (i0+j) cj:=by
 intro ps
 induction ps with
 |nil=>
  intro c vs is gs i0 h
  cases vs with
  |cons _ _=>exact h.elim
  |nil=>cases is with
   |cons _ _=>exact h.elim
   |nil=>cases gs with
    |cons _ _=>exact h.elim
    |nil=>exact⟨rfl,rfl,rfl,λj p hp=>by simp at hp⟩
 |cons p ps ih=>
  intro c vs is gs i0 h
  cases vs with
  |nil=>exact h.elim
  |cons v vs=>cases is with
   |nil=>exact h.elim
   |cons i is=>cases gs with
    |nil=>exact h.elim
    |cons g gs=>
     obtain⟨h1,h2⟩:=h
     obtain⟨l1,l2,l3,h3⟩:=ih (i0:=i0+1) h2
     refine⟨by simp[l1],by simp[l2],by simp[l3],λj q hq=>?_⟩
     cases j with
     |zero=>
      simp only[qC,aa]at hq
      subst hq
      refine⟨sP p ps c,v,i,g,rfl,rfl,rfl,h1,?_,?_⟩
      ·rw[NZ];simp[gG]
      ·rw[Ei,E8]
       cases hr:jF p i0 (sP p ps c)with
       |none=>
        simp only[iY,lN]
        rw[YY ps (i0+1) (xU p ps c) (aC i0) (by unfold aC;omega)]
       |some R=>simp[iY]
     |succ j=>
      obtain⟨cj,v',i',g',e1,e2,e3,e4,e5,e6⟩:=h3 j q (by simpa using hq)
      have ej:i0+(j+1)=i0+1+j:=by omega
      refine⟨cj,v',i',g',e1,e2,e3,e4,?_,?_⟩
      ·rw[NZ,ej]
       simp only[gG]
       have:Nat.beq (i0+1+j) i0=false:=by
        cases hb:Nat.beq (i0+1+j) i0 with
        |true=>have:=a_ hb;omega
        |false=>rfl
       rw[this]
       exact e5
      ·rw[Ei,E8,ej]
       cases hr:jF p i0 (sP p ps c)with
       |none=>exact e6
       |some R=>
        have:Nat.beq (aC (i0+1+j)) (aC i0)=false:=by
         cases hb:Nat.beq (aC (i0+1+j)) (aC i0)with
         |true=>have:=Zv (a_ hb);omega
         |false=>rfl
        simp only[iY,this,jr]
        exact e6
theorem amG:∀{ps:List aH} {c:Cont (kin ps)} {i0 r:Nat} {R:Root},iY (jd ps i0 c) r=some R->∃j p,r=aC (i0+j)/\ps[j]?=some p:=by
 intro ps
 induction ps with
 |nil=>intro c i0 r R h;simp[jd,iY]at h
 |cons p ps ih=>
  intro c i0 r R h
  rw[Ei,E8]at h
  have hrec:iY (jd ps (i0+1) (xU p ps c)) r=some R->∃j q,r=aC (i0+j)/\(p :: ps)[j]?=some q:=by
   intro h
   obtain⟨j,q,h1,h2⟩:=ih h
   exact⟨j+1,q,by rw[h1];congr 1;omega,by simpa using h2⟩
  cases hr:jF p i0 (sP p ps c)with
  |none=>rw[hr]at h;exact hrec h
  |some Q=>
   rw[hr]at h
   simp only[iY]at h
   cases hb:Nat.beq r (aC i0)with
   |true=>exact⟨0,p,a_ hb,rfl⟩
   |false=>rw[hb]at h;exact hrec h
end
end
section
open Go
variable [Fr]
def fT(g:GA):List Nat:=(match g.base with
 |some q=>[q.1]
 |none=>[])++g.fo
def zN:aH->List Nat
 |.val _ bB=>bB
 |_=>[]
def n_:aH->Nat
 |.rw k _ _ _=>k.size
 |_=>0
def iB(cx:Cx)(Z:St)(J:aF)(F:List Nat)(w:World)(ps:List aH)(c:Cont (kin ps))(is:List aQ)(gs:List GA):Cx where
 nt:=0
 w0:=w
 ext:=λj b=>(∃i,is[j]?=some i/\aO cx Z J F w i.ids b)/\∀(m:Nat) (g:GA) (q:Nat×Nat),gs[m]?=some g->g.base=some q->b≠q.1
 par:=λj=>match gs[j]?,ps[j]? with
  |some g,some p=>bif g.ow||g.wb then some ⟨g.base.map λq=>(q.1,q.2,n_ p),fT g,g.wb⟩else none
  |_,_=>none
 ptrs:=λj q ts v=>∃g R0 c0 b o,gs[j]?=some g/\g.wb=true/\iY (jd ps 0 c) (aC j)=some R0/\ts=iD q R0.k/\(∀t∈az q R0.k,ah t R0.own=true)/\bM q R0.k R0.x/\aN (hp w) q R0.k g.cs g.base=some (c0,some (b,o))/\v=.pointer (some ⟨b,o,none⟩)
 refs:=λj v=>∃g,gs[j]?=some g/\g.v=v/\g.base=none/\g.wb=true
def qa(gs:List GA):aF where
 loc:=λr=>((gs[r / 4]?).bind (·.base)).getD (0,0)
 hdr:=λr=>((gs[r / 4]?).map (·.cs)).getD []
 fo:=λr=>((gs[r / 4]?).map (·.fo)).getD []
theorem Zu(j:Nat):aC j / 4=j:=by unfold aC;omega
theorem En(j:Nat):fO (aC j)=false:=by
 unfold fO aC
 have:4*j%4=0:=by omega
 rw[this];rfl
section
variable {P:Program}{T:bF}{cx:Cx}{Z:St}{J:aF}{F:List Nat}{a:Act}{w:World}{ps:List aH}{c:Cont (kin ps)}{vs:List Value}{is:List aQ}{gs:List GA}
structure Apart(cx:Cx)(Z:St)(J:aF)(F:List Nat)(w:World)(ps:List aH)(is:List aQ)(gs:List GA):Prop where
 one:∀(j j':Nat) (i i':aQ) (r:Nat) (u u':List Stp×List TypeId×List TypeId),is[j]?=some i->is[j']?=some i'->i.wb=some (r,u)->i'.wb=some (r,u')->j=j'
 own:(gs.flatMap λg=>bif g.ow then g.fo else []).Nodup
 bB:∀(j:Nat) (p:aH) (i:aQ) (r n:Nat),ps[j]?=some p->is[j]?=some i->(r,n)∈i.ids->∀(m:Nat) (i':aQ) q,is[m]?=some i'->i'.wb=some (r,q)->m∈zN p/\∃k bB,p=.val k bB/\∀b∈i'.bt,b∉k.tys
 prw:∀(j:Nat) (p:aH),ps[j]?=some p->∀m∈zN p,∃(i':aQ) (q:Nat×List Stp×List TypeId×List TypeId),is[m]?=some i'/\i'.wb=some q
 lie:∀(j m:Nat) (p:List (Option Nat)) (i:aQ) (r:Nat) (q:List Stp),ps[j]?=some (.into m p)->is[j]?=some i->i.lie=some (r,q)->∃(k:K) (ow wt ht:List TypeId) (i':aQ) (q':List Stp) (u:List TypeId×List TypeId),ps[m]?=some (.rw k ow wt ht)/\is[m]?=some i'/\i'.wb=some (r,q',u)/\q=q'++q.drop (q.length-p.length)
theorem flatMap_apart{A:Type}{f:A->List Nat}:∀{l:List A} {i j:Nat} {x y:A},(l.flatMap f).Nodup->l[i]?=some x->l[j]?=some y->i≠j->∀b∈f x,b∉f y:=by
 intro l
 induction l with
 |nil=>intro i j x y _ h;simp at h
 |cons z l ih=>
  intro i j x y hnd hi hj hne b hb hb'
  simp only[kK]at hnd
  have n:=dA.1 hnd
  cases i with
  |zero=>
   simp only[qC,aa]at hi
   subst hi
   cases j with
   |zero=>exact hne rfl
   |succ j=>exact n.2.2 b hb b (nN.2 ⟨y,pX (by simpa using hj),hb'⟩) rfl
  |succ i=>
   cases j with
   |zero=>
    simp only[qC,aa]at hj
    subst hj
    exact n.2.2 b hb' b (nN.2 ⟨x,pX (by simpa using hi),hb⟩) rfl
   |succ j=>exact ih n.2.1 (by simpa using hi) (by simpa using hj) (by omega) b hb hb'
theorem aoN{p:aH}{cj:Cont p.kin}{v:Value}{i:aQ}{g:GA}(h:qz cx Z J F a w p cj v i g)(hw:g.wb=true) :
  ∃(k:K) (x:El k) (ow wt ht:List TypeId) (r:Nat) (R:Root) (q:List Stp) (wh:Option (Nat×Nat)),((p=.rw k ow wt ht/\i.bt=[fU R q]/\∃b o,wh=some (b,o)/\v=.pointer (some ⟨b,o,none⟩)/\g.base=some (b,o)/\b∉g.fo)\/(p=.dH k ow wt/\ht=k.tys/\i.bt=[]/\VC k v g.cs/\g.base=none))/\
   wQ cx Z J w k x ow i wt ht r R q/\aN (hp w) q R.k (J.hdr r) (aK J R r)=some (g.cs,wh)/\Ow (hp w) R.own (aO cx Z J F w R.tags) k x g.cs g.fo/\(∀b∈g.fo,b∈J.fo r)/\g.fo.Nodup/\g.ow=false/\g.v=v:=by
 obtain⟨hv,h⟩:=h
 cases p with
 |val k bB=>rw[h.2.1]at hw;simp at hw
 |ro k=>rw[h.2.1]at hw;simp at hw
 |rw k ow wt ht=>
  obtain⟨h1,h2,r,R,q,b,o,h3,h4,h5,h6,h7,h8,h9,h10,h11,_⟩:=h
  exact⟨k,cj.1,ow,wt,ht,r,R,q,some (b,o),.inl ⟨rfl,h4,b,o,rfl,h6,h7,h11⟩,h3,h5,h8,h9,h10,h1,hv⟩
 |dH k ow wt=>
  obtain⟨h1,h2,r,R,q,wh,h3,h4,h5,h6,h7,h8,h9,h10,_⟩:=h
  exact⟨k,cj.1,ow,wt,k.tys,r,R,q,wh,.inr ⟨rfl,rfl,h4,h6,h7⟩,h3,h5,h8,h9,h10,h1,hv⟩
 |own k ow=>rw[h.2.1]at hw;simp at hw
 |fn f ks=>rw[h.2.1]at hw;simp at hw
 |into j q=>rw[h.2.1]at hw;simp at hw
structure RD(cx:Cx)(Z:St)(J:aF)(F:List Nat)(w:World)(ps:List aH)(vs:List Value)(is:List aQ)(gs:List GA)(j:Nat)(R:Root)(g:GA)(i:aQ)(p:aH):Prop where
 hg:gs[j]?=some g
 hi:is[j]?=some i
 hq:ps[j]?=some p
 hv:vs[j]?=some g.v
 held:g.ow=true\/g.wb=true
 bB:zN p=[]
 am9:∀k bB,p≠.val k bB
 lw:R.w=[]
 lh:R.h=[]
 g0:R.g=0
 ew:R.ew=[]
 eh:R.eh=[]
 tags:R.tags=bif R.k.tys.all (λt=>ah t R.own)then []else [(gB j,0)]
 ow:Ow (hp w) R.own (aO cx Z J F w i.ids) R.k R.x g.cs g.fo
 nd:g.fo.Nodup
 kind:(R.kind=.par/\n_ p=R.k.size/\g.wb=true/\∃b o,g.base=some (b,o)/\b∉g.fo)\/(R.kind=.anon/\g.base=none/\VC R.k g.v g.cs)
theorem Ej{p:aH}{cj:Cont p.kin}{v:Value}{i:aQ}{g:GA}{j:Nat}{R:Root}(h:qz cx Z J F a w p cj v i g)(hg:gs[j]?=some g)(hi:is[j]?=some i)(hp:ps[j]?=some p)(hv:vs[j]?=some v)(hR:jF p j cj=some R):RD cx Z J F w ps vs is gs j R g i p:=by
 obtain⟨h0,h⟩:=h
 subst h0
 have hall:∀{k:K} {ow own:List TypeId},tN k own ow=true->∀t∈k.tys,ah t ow=ah t own:=λhj t ht=>by
  have:=dX.1 hj t ht
  exact(by simpa using this:ah t _=ah t _).symm
 cases p with
 |rw k ow wt ht=>
  obtain⟨h1,h2,r,R0,q,b,o,h3,h4,h5,h6,h7,h8,h9,h10,h11,_⟩:=h
  simp only[jF,aa]at hR
  subst hR
  refine⟨hg,hi,hp,hv,.inr h2,rfl,by simp,rfl,rfl,rfl,rfl,rfl,rfl,?_,h10,.inl ⟨rfl,rfl,h2,b,o,h7,h11⟩⟩
  rw[h3.ids]
  exact q8 (hall h3.just) h8
 |dH k ow wt=>
  obtain⟨h1,h2,r,R0,q,wh,h3,h4,h5,h6,h7,h8,h9,h10,_⟩:=h
  simp only[jF,aa]at hR
  subst hR
  refine⟨hg,hi,hp,hv,.inr h2,rfl,by simp,rfl,rfl,rfl,rfl,rfl,rfl,?_,h10,.inr ⟨rfl,h7,h6⟩⟩
  rw[h3.ids]
  exact q8 (hall h3.just) h8
 |own k ow=>
  obtain⟨h1,h2,h3,h4,h5,h6,h7,h8⟩:=h
  simp only[jF,aa]at hR
  subst hR
  exact⟨hg,hi,hp,hv,.inl h1,rfl,by simp,rfl,rfl,rfl,rfl,rfl,rfl,h6,h8,.inr ⟨rfl,h4,h5⟩⟩
 |val k bB=>simp[jF]at hR
 |ro k=>simp[jF]at hR
 |fn f ks=>simp[jF]at hR
 |into j q=>simp[jF]at hR
theorem Iz{p:aH}{cj:Cont p.kin}{v:Value}{i:aQ}{g:GA}(j:Nat)(h:qz cx Z J F a w p cj v i g)(hh:g.ow=true\/g.wb=true):∃R,jF p j cj=some R:=by
 obtain⟨h0,h⟩:=h
 cases p with
 |rw k ow wt ht=>exact⟨_,rfl⟩
 |dH k ow wt=>exact⟨_,rfl⟩
 |own k ow=>exact⟨_,rfl⟩
 |val k bB=>rcases hh with hh|hh<;>simp[h.1,h.2.1]at hh
 |ro k=>rcases hh with hh|hh<;>simp[h.1,h.2.1]at hh
 |fn f ks=>rcases hh with hh|hh<;>simp[h.1,h.2.1]at hh
 |into j q=>rcases hh with hh|hh<;>simp[h.1,h.2.1]at hh
theorem oG(H:Rel cx Z J F a w){p:aH}{cj:Cont p.kin}{v:Value}{i:aQ}{g:GA}(h:qz cx Z J F a w p cj v i g):(∀b∈fT g,(g.ow=true/\b∈F)\/(g.wb=true/\∃r R q,i.wb=some (r,q)/\aU Z r R/\b∈blk J R r))/\
  (∀b o,g.base=some (b,o)->∃r R q arr e lo hi,i.wb=some (r,q)/\aU Z r R/\b∈blk J R r/\hp w b=some (.cells arr e (lo,hi))/\iE arr.size lo hi/\o+n_ p<=arr.size/\Cells (hp w) b o g.cs/\((∀t∈i.bt,t=e)/\i.bt≠[]/\¬kV cx b\/kV cx b))/\
  (∀b∈g.fo,g.wb=true->∃r R q,i.wb=some (r,q)/\aU Z r R/\b∈J.fo r)/\(g.wb=true↔i.wb≠none):=by
 obtain⟨hv,h⟩:=h
 cases p with
 |val k bB=>
  obtain⟨h1,h2,h3,h4,h5,_⟩:=h
  exact⟨λb hb=>by simp[fT,h4,h5]at hb,λb o hb=>by rw[h5]at hb;simp at hb,λb hb=>by rw[h4]at hb;simp at hb,by simp[h2,h3]⟩
 |ro k=>
  obtain⟨h1,h2,h3,h4,h5,_⟩:=h
  exact⟨λb hb=>by simp[fT,h4,h5]at hb,λb o hb=>by rw[h5]at hb;simp at hb,λb hb=>by rw[h4]at hb;simp at hb,by simp[h2,h3]⟩
 |fn f ks=>
  obtain⟨h1,h2,h3,h4,h5,_⟩:=h
  exact⟨λb hb=>by simp[fT,h4,h5]at hb,λb o hb=>by rw[h5]at hb;simp at hb,λb hb=>by rw[h4]at hb;simp at hb,by simp[h2,h3]⟩
 |own k ow=>
  obtain⟨h1,h2,h3,h4,h5,h6,h7,h8⟩:=h
  exact⟨λb hb=>.inl ⟨h1,h7 b (by simpa[fT,h4]using hb)⟩,λb o hb=>by rw[h4]at hb;simp at hb,λb hb hw=>by rw[h2]at hw;simp at hw,by simp[h2,h3]⟩
 |dH k ow wt=>
  obtain⟨h1,h2,r,R,q,wh,h3,h4,h5,h6,h7,h8,h9,h10,_⟩:=h
  have hf:∀b∈g.fo,b∈blk J R r:=λb hb=>bD _ (h9 b hb)
  exact⟨λb hb=>.inr ⟨h2,r,R,_,h3.wb,h3.lv,hf b (by simpa[fT,h7]using hb)⟩,λb o hb=>by rw[h7]at hb;simp at hb,λb hb _=>⟨r,R,_,h3.wb,h3.lv,h9 b hb⟩,by simp[h2,h3.wb]⟩
 |rw k ow wt ht=>
  obtain⟨h1,h2,r,R,q,b,o,h3,h4,h5,h6,h7,h8,h9,h10,h11,_⟩:=h
  have hf:∀b∈g.fo,b∈blk J R r:=λb hb=>bD _ (h9 b hb)
  obtain⟨m1,_,m2,⟨arr,e,lo,hi,m3,m4,m5,m6⟩,_⟩:=tQ H h3.lv h3.vl h3.get h3.pin h3.own h5
  refine⟨λb' hb=>?_,λb' o' hb=>?_,λb hb _=>⟨r,R,_,h3.wb,h3.lv,h9 b hb⟩,by simp[h2,h3.wb]⟩
  ·refine .inr ⟨h2,r,R,_,h3.wb,h3.lv,?_⟩
   simp only[fT,h7,iR,jq,bH]at hb
   rcases hb with hb|hb
   ·subst hb;exact m2
   ·exact hf b' hb
  ·rw[h7]at hb
   simp only[aa,bK]at hb
   obtain⟨rfl,rfl⟩:=hb
   refine⟨r,R,_,arr,e,lo,hi,h3.wb,h3.lv,m2,m3,m4,m5,m1,?_⟩
   rcases m6 with⟨m6,m7⟩|⟨m6,_⟩
   ·exact .inl ⟨λt ht=>by rw[h4]at ht;simp only[gW]at ht;rw[ht,m6],by rw[h4];simp,m7⟩
   ·exact .inr m6
 |into j q=>
  obtain⟨h1,h2,h3,h4,h5,_⟩:=h
  exact⟨λb hb=>by simp[fT,h4,h5]at hb,λb o hb=>by rw[h5]at hb;simp at hb,λb hb=>by rw[h4]at hb;simp at hb,by simp[h2,h3]⟩
end
end
end Go.Proofs.YtgppmpedglhhfaaGreatDoor.Ow

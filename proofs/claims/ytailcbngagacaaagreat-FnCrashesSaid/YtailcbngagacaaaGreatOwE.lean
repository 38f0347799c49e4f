/- A verified reading of translated code, part E of 7. No condition. -/
import Derived.Test.YtailcbngagacaaaGreatOwD
set_option linter.unusedSectionVars false
set_option linter.unusedVariables false
set_option linter.unusedSimpArgs false
namespace Go.Proofs.YtailcbngagacaaaGreat.Ow
section
open Go
variable [Fr]
section
variable {P:Program} {T:bH} {cx:Cx} {Z:St} {J:aH} {F:List Nat} {a:Act} {w:World} {o:Oper} {d:Nat} {ws:List Wr}
def nY (z:Array Value) (n:Nat):Array Value:=(Array.range n).map (z[· % z.size]!)
theorem run_buildSlice {t e:TypeId} {kk:K} (ht:dn P T t (.sl e kk)) {len:Nat} {parts:Array (Nat×Value)} {cells:Array Value} (hb:len * kk.size<=16777216)
    (hf:Instr.fill (fun i=>some (i * kk.size,kk.size)) (nY (dR kk).toArray (len * kk.size)) parts.toList=some cells) :
    (Instr.buildSlice t len parts).run P w=.ok (.slice (some ⟨w.heap.size,0,none⟩) len len) (w.alloc (.cells cells e)):=by
  obtain ⟨hu,he,hk,_⟩:=ht.sl
  have hzc:=Ga he.shape
  unfold Instr.buildSlice
  have h1:¬(len * kk.size>2 ^ 24):=by omega
  by_cases h0:len * kk.size=0
  · have hf':Instr.fill (fun i=>some (i * kk.size,kk.size)) #[] parts.toList=some cells:=by
      have e:nY (dR kk).toArray (len * kk.size)=#[]:=by
        apply U2
        simp [nY,h0]
      rw [e] at hf
      exact hf
    have hr0:∀f:Nat->Value,Array.map f (Array.range 0)=#[]:=fun f=>by apply U2; simp
    simp [iy hu,he.info.sizeOf w,Result.andThen,h0,hr0,hf',newRow]
  · have hf':Instr.fill (fun i=>some (i * kk.size,kk.size)) ((Array.range (len * kk.size)).map fun x=>(dR kk).toArray[x % (dR kk).toArray.size]!) parts.toList=some cells:=hf
    simp only [dO,iy hu,fU,he.info.sizeOf w]
    rw [aA h1,aA h0]
    simp only [dO,fA,fU,he.info.zero w,hzc,hf']
    simp [newRow,Result.andThen]
theorem acR {kk:K} {len i:Nat} (hk:0<kk.size) (hz:(dR kk).length=kk.size) (hi:i<len):iB (nY (dR kk).toArray (len * kk.size)).toList kk.size i=dR kk:=by
  have hle:(i+1) * kk.size<=len * kk.size:=kD _ (by omega)
  rw [iR,m_] at hle
  apply HY
  intro j
  by_cases hj:j<kk.size
  · rw [sM hj,wD]
    unfold nY
    rw [Array.getElem?_map]
    have hlt:i * kk.size+j<len * kk.size:=by omega
    rw [Array.getElem?_range,aj hlt]
    simp only [oU,D5,hz]
    have hm:(i * kk.size+j) % kk.size=j:=by
      rw [Nat.mul_comm,Nat.mul_add_mod]
      exact Nat.mod_eq_of_lt hj
    rw [hm,getElem!_pos _ _ (by simp; omega)]
    simp [show j<(dR kk).length by omega]
  · rw [uE (by rw [xz (m:=len) (by simp [nY]) hi]; omega),uE (by omega)]
theorem ah6 {L:K->List TypeId} (hT:fJ P T) (H:Rel cx Z J F a w) (hd:o.dst=some d) (hdn:d<cx.nt) {t:TypeId} {len:Nat} {ps:Array (Nat×Operand)}
    (h:(match T.ty t with
      | some (.sl e kk)=>xg ps.toList fun l=>Iw kk l ⟨[],[],[],[],false,[]⟩ fun b=>bif !(sO b.ws b.all && Nat.ble (len * kk.size) 16777216) then .fail else bif Nat.beq (dS b.xs) len && !aa e b.bad then
          kT (aG d 0) (.ret (b.ws++[Wr.r (aG d 0) (some (bL (.sl e kk) b.xs (e :: fq (L kk) b.bad) b.tags .anon b.keep)),Wr.s d (.one (.ref (aG d 0) 0))]))
        else bif Nat.beq (dS b.xs) 0 then
          kT (aG d 0) (.ret [Wr.r (aG d 0) (some (bL (.sl e kk) (List.replicate len kk.zero) (e :: kk.tys) [] .anon)),Wr.s d (.one (.ref (aG d 0) 0))])
        else .fail
      | _=>(.fail:Prog (List Wr))).ends Z ws) (ho:o.op=.buildSlice t len ps):dG P cx o a w (aC ws Z):=by
  cases hty:T.ty t with
  | none=>rw [hty] at h; exact h.elim
  | some k0=>
    rw [hty] at h
    cases k0 with
    | sl e kk=>
      have ht:=hT.ty t _ hty
      obtain ⟨hu,he,hk,_⟩:=ht.sl
      simp only at h
      obtain ⟨vs,e1,h1,h2,h3⟩:=Q_ H h
      obtain ⟨tks,b',l1,l2,sD,zX,h4⟩:=aiO H h1 h2 h3
      have hlen:vs.length=tks.length:=l1.symm
      have I7:(vs.map (·.1)).length=tks.length:=by rw [oQ]; exact hlen
      have CJ:((evs a ps.toList).map (·.2)).length=tks.length:=by rw [l2]; exact hlen
      generalize hns:vs.map (·.1)=ns at *
      generalize hvv:(evs a ps.toList).map (·.2)=vals at *
      obtain ⟨z1,z2,z3,z4⟩:=UZ ns vals tks I7 CJ
      obtain ⟨f1,f2,f4,_,f6,_,f8,_,f9⟩:=aiN _ zX
      simp only [rR] at f1
      have f9':b'.xs.length=tks.length:=by rw [f9]; simp; omega
      have Jf:∀h ok own,Ow h own ok kk kk.zero (dR kk) []:=fun h ok own=>Dl he.fV
      have hzl:(dR kk).length=kk.size:=fM (Jf (hp w) (fun _=>True) [])
      have hzs:(nY (dR kk).toArray (len * kk.size)).size=len * kk.size:=by simp [nY]
      have hparts:((ps.map fun (p:Nat×Operand)=>(p.1,a.eval p.2)).toList)=ns.zip vals:=by
        rw [wE, <-hvv,e1]
        have:∀l:List (Nat×Operand),l.map (fun p=>(p.1,a.eval p.2))=(l.map (·.1)).zip ((evs a l).map (·.2)):=by
          intro l
          induction l with
          | nil=>rfl
          | cons p l ih=>simp [evs] at ih ⊢; exact ih
        exact this _
      have Zi:∀{cells:Array Value},len * kk.size<=16777216->Instr.fill (fun i=>some (i * kk.size,kk.size)) (nY (dR kk).toArray (len * kk.size)) (ns.zip vals)=some cells->
          (execOp a.eval o).run P w=.ok (.value (.slice (some ⟨w.heap.size,0,none⟩) len len)) (w.alloc (.cells cells e)):=by
        intro cells hb hf
        have:=run_buildSlice (w:=w) ht (parts:=ps.map fun (p:Nat×Operand)=>(p.1,a.eval p.2)) hb (by rw [hparts]; exact hf)
        simp only [execOp,ho,dO,this,fU,fA]
      rcases bD h4 with ⟨_,h5⟩ | ⟨hws,h5⟩
      · exact h5.elim
      · have q9:(sO b'.ws b'.all && Nat.ble (len * kk.size) 16777216)=true:=by simpa using hws
        rw [bg] at q9
        have Y9:len * kk.size<=16777216:=Mk q9.2
        have E9:=q9.1
        unfold sO at E9
        simp only [bg] at E9
        have hw1:=Il.1 E9.1
        have hw2:=MF.1 E9.2
        rw [f1, <-z4] at hw1 hw2
        rcases bD h5 with ⟨hc,h6⟩ | ⟨_,h6⟩
        · rw [bg] at hc
          have hxl:b'.xs.length=len:=by rw [<-qF]; exact bC hc.1
          have hbad:e∉b'.bad:=by have:=hc.2; simp only [lC,gT] at this; exact this
          obtain ⟨g1,g2⟩:=p9 h6
          rw [bz g2]
          obtain ⟨J',F',hs,H',hA,hnd,hnF,RA,hS,_⟩:=takes (vals.zip tks) H sD hw1 (fun tg eZ=>hw2 tg (by
            obtain ⟨it,hit,h6⟩:=jZ.1 eZ
            have:it∈(ns.zip (vals.zip tks)).map (·.2):=by rw [z1]; exact hit
            obtain ⟨q,hq,rfl⟩:=fI.1 this
            exact f2 (q.1,q.2.2) (by rw [<-z2]; exact fI.2 ⟨q,hq,rfl⟩) tg h6))
          have zV:=hA
          rw [<-z1] at hA
          have ho2:∀t,aa t (e :: fq (L kk) b'.bad)=true->t∉b'.bad:=fun t ht=>by
            rcases bT.1 (b_.1 ht) with h | h
            · rw [h]; exact hbad
            · exact (qg.1 (b_.2 h)).2
          obtain ⟨iG,pX,p1,p2⟩:=TQ (own':=e :: fq (L kk) b'.bad) (T:=b'.tags) (ns.zip (vals.zip tks)) hA
            (fun it hit tg eZ=>by
              cases hm:aa tg (e :: fq (L kk) b'.bad) with
              | false=>rfl
              | true=>exact absurd (f4 (it.1,it.2.2) (by rw [<-z2]; exact fI.2 ⟨it,hit,rfl⟩) tg eZ) (ho2 tg hm))
            (fun it hit tg eZ=>f6 (it.1,it.2.2) (by rw [<-z2]; exact fI.2 ⟨it,hit,rfl⟩) tg eZ)
          rw [z2,z3,z1] at p2
          have hzn:(ns.zip tks).map (·.1)=ns:=by rw [List.map_fst_zip (by omega)]
          obtain ⟨cells',c1,c2,c3,c4⟩:=aiM (N:=len) (ns.zip tks) (b:=⟨[],[],[],[],false,[]⟩) (cells:=nY (dR kk).toArray (len * kk.size)) (ay:=[]) (by simp; omega) hzs rfl (fun i hi=>by simp at hi) p2 zX
          rw [hzn] at c1
          simp only [rR] at c3 c4
          have hrun:=Zi Y9 c1
          have jI:=p1.nodup hnd
          have n2:=cK.1 jI
          have hin:∀b∈hs.flatMap (·.2),b∈F':=M9 zV
          have hwt:gB (aC (fu (vals.zip tks)) Z) b'.tags:=by
            intro tg eZ
            rcases f8 tg eZ with h | ⟨q,hq,hq2⟩
            · simp at h
            · rw [<-z2] at hq
              obtain ⟨it,hit,rfl⟩:=fI.1 hq
              have hit2:it.2∈vals.zip tks:=by rw [<-z1]; exact fI.2 ⟨it,hit,rfl⟩
              exact F3 (M_ zV it.2 hit2) tg hq2
          have hnr:=UJ g1 sD
          have hn1:(aC (fu (vals.zip tks)) Z).roots (aG d 0)=none:=by rw [(hS _ hnr).root]; exact g1
          have E_:b'.ws=fu (vals.zip tks):=by rw [f1,z4]
          obtain ⟨ku,F2,k1,k2⟩:=abU (r:=aG d 0) (e:=e) (k:=kk) (xs:=b'.xs) (own:=e :: fq (L kk) b'.bad) (tags:=b'.tags) (arr:=cells') (lo:=0) (hi:=0) (n:=len) (c:=len) (ay:=iG) (F1:=F'.filter fun b=>!aa b (iG.flatten++pX)) H' hn1 (qb d 0)
            hwt (b_.2 (by simp)) jq.zero hxl.symm (bN _) (by rw [c2]; exact bN _) c3 (fun b hb=>hin b (p1.mem_iff.2 (by simp [hb]))) n2.1
            (fun b hb=>by
              rw [eF] at hb
              have:=hb.2
              simp only [lC,gT,bW,not_or] at this
              exact ⟨hb.1,this.1⟩) (H'.iq.filter _)
            (fun i hi=>by
              have hsl:(iB cells'.toList kk.size i).length=kk.size:=xz (m:=len) (by rw [OC,c2]) (by omega)
              refine ⟨_,hsl,fun j hj=>?_,dY (fun _ _=>rfl) (fun b hb=>?_) (fun _ _=>rfl) (c4 i hi)⟩
              · rw [hsl] at hj
                rw [sM hj,wD]
              · rcases hb with hb | hb
                · exact .inl hb
                · refine .inr ⟨hin b (p1.mem_iff.2 (by simp [hb])),fun h=>?_,fun h=>n2.2.2 b h b hb rfl⟩
                  rw [eF] at h
                  have:=h.2
                  simp only [lC,gT,bW,not_or] at this
                  exact this.2 hb) b'.keep w.drawn
          rw [E_,oD]
          exact o7 (x:=.one (.ref (aG d 0) 0)) k1 hd hdn hrun k2 ⟨_,fE .., .inr (fT _)⟩
        · rcases bD h6 with ⟨hc,h7⟩ | ⟨_,h7⟩
          · obtain ⟨g1,g2⟩:=p9 h7
            rw [bz g2]
            have hxl:b'.xs.length=0:=by rw [<-qF]; exact bC hc
            have ht0:tks=[]:=sW (by omega)
            have hv0:vals=[]:=sW (by rw [ht0] at CJ; simpa using CJ)
            have hrun:=Zi (cells:=nY (dR kk).toArray (len * kk.size)) Y9 (by rw [hv0]; simp [Instr.fill])
            obtain ⟨ku,F2,k1,k2⟩:=Ud (r:=aG d 0) (e:=e) (k:=kk) (xs:=List.replicate len kk.zero) (own:=e :: kk.tys) (arr:=nY (dR kk).toArray (len * kk.size)) (lo:=0) (hi:=0) (n:=len) (c:=len) H g1 (qb d 0)
              (b_.2 (by simp)) jq.zero (by simp) (bN _) (by rw [hzs]; exact bN _)
              (fun i hi=>by
                have hi':i<len:=by simpa using hi
                refine ⟨dR kk,hzl,fun j hj=>?_,fun h ok=>?_⟩
                · have hs:=congrArg (fun l=>l[j]?) (acR hk hzl hi')
                  rw [sM (by omega),wD] at hs
                  exact hs
                · have:(List.replicate len kk.zero)[i]'hi=kk.zero:=by simp
                  rw [this]
                  exact Jf h ok _) false w.drawn
            exact o7 (x:=.one (.ref (aG d 0) 0)) k1 hd hdn hrun k2 ⟨_,fE .., .inr (fT _)⟩
          · exact h7.elim
    | _=>exact h.elim
end
section
variable {P:Program} {T:bH} {cx:Cx} {Z:St} {J:aH} {F:List Nat} {a:Act} {w:World} {o:Oper} {d:Nat} {ws:List Wr} {r:Nat} {R:Root}
abbrev uu (R:Root) (e:TypeId) (kk:K) (ys:List (El kk)):Root:={ R with k:=.sl e kk,x:=ys,w:=e :: R.w }
theorem Ug (H:Rel cx Z J F a w) (hr:aU Z r R) (hv:cB Z R) (hk:R.kind=.anon) {e:TypeId} {kk:K} {xs ys:List (El kk)} (hq:(⟨R.k,R.x⟩:Dat)=⟨.sl e kk,xs⟩) (hf:kk.flat=true) (hl:ys.length=xs.length) {w':World}
    (hos:w'.os=w.os/\w'.tape=w.tape/\w'.output=w.output) (hsize:w.heap.size<=w'.heap.size) (qA:∀b,hp w' b≠hp w b->b∈J.fo r/\jS (hp w) b=some e) (how:∀ok,Ow (hp w') R.own ok (.sl e kk) ys (J.hdr r) (J.fo r)) :
    Rel cx (aJ Z r (uu R e kk ys)) (aR J r (J.loc r) (J.hdr r) (J.fo r)) [] a w'/\
      ∀g v,g<=R.g->aW cx Z J F w (.ref r g) v->aW cx (aJ Z r (uu R e kk ys)) (aR J r (J.loc r) (J.hdr r) (J.fo r)) [] w' (.ref r g) v:=by
  have hblk:blk J R r=J.fo r:=by simp [blk,aK,hk]
  have hk':(uu R e kk ys).kind=.anon:=hk
  have hRk:R.k=.sl e kk:=congrArg (fun q:Dat=>q.1) hq
  have hd':(uu R e kk ys).bY=false:=by simp [Root.bY,hk]
  have K0:=H.roots r R hr
  have hnt:=H.gy r R hr.1
  have qE:∀g v,g<=R.g->aW cx Z J F w (.ref r g) v->aW cx (aJ Z r (uu R e kk ys)) (aR J r (J.loc r) (J.hdr r) (J.fo r)) [] w' (.ref r g) v:=by
    intro g v _ hold Q hQ hg
    obtain ⟨rfl,_⟩:=pq hQ
    obtain ⟨h1,h2⟩:=hold R hr hg
    refine ⟨h1, ?_⟩
    simp only [aR,upd_same]
    rw [hRk] at h2
    exact h2
  have T1:vE cx Z J F w r R (uu R e kk ys) (J.fo r) [] w' [e] []:=by
    refine ⟨.inr ⟨rfl,rfl,bN _,rfl,fun h=>by rw [hk] at h; simp at h, .inl (by simp)⟩,⟨fun t ht=>hnt.1 t ht,fun n hn=>hnt.2.2 n hn⟩,hos,hsize,fun b hb hne=>?_,fun _ b hb=>?_,fun b hb=>by simp at hb,mJ,fun _ b _ h=>by simp at h,fun j pi b o n hj hb EX hne=>?_,fun _=>⟨rfl,rfl⟩⟩
    · obtain ⟨h1,h2⟩:=qA b hne
      exact .inr ⟨by rw [hblk]; exact h1, .inr (.inl ⟨e,by simp,h2⟩)⟩
    · rw [qV hk'] at hb
      rw [hblk]
      exact .inl hb
    · obtain ⟨Q,hQ,hkq,_,_⟩:=H.kM j pi b o n hj hb
      have hQR:Q=R:=by have:=hQ.1; rw [<-EX,hr.1] at this; simpa using this.symm
      rw [hQR,hk] at hkq
      simp at hkq
  refine ⟨T1.rel H hr (fun _=>⟨fun _=>how _,by rw [K0.len,hRk],fun b o hb=>by rw [F8 hk'] at hb; simp at hb,by rw [qV hk', <-hblk]; exact K0.nd⟩) ?_ (fun _=>qE),qE⟩
  intro _ p n v hn hold
  refine ⟨hold.1,fun Q hQ oL hcl hty hs=>?_⟩
  rw [fE] at hQ
  simp only [au] at hQ
  subst hQ
  cases p with
  | nil=>
    obtain ⟨_,cs,b,o,h1,_⟩:=hold.2 R hr.1 hv (by simp [clean,iW,aa]) (fun t ht=>by simp [az] at ht) rfl
    simp only [aT,au,bS] at h1
    have:aK J R r=none:=by simp [aK,hk]
    rw [this] at h1
    simp at h1
  | cons s q=>
    have hcl':clean R.h n (iW (s :: q) R.k)=true:=by rw [hRk]; exact hcl
    obtain ⟨g1,cs,b,o,g2,g3⟩:=hold.2 R hr.1 hv hcl' (fun t ht=>hty t (by rw [hRk] at ht; exact ht)) (by
      have h9:(aB (s :: q) (.sl e kk) ys).isSome=true:=hs
      rw [EH (s :: q) (y:=xs)] at h9
      have:=congrArg (fun d:Dat=>(aB (s :: q) d.1 d.2).isSome) hq
      exact this.trans h9)
    have g1:=cast (congrArg (fun d:Dat=>bX (s :: q) d.1 d.2) hq) g1
    simp only at g1
    cases s with
    | aZ m=>exact g1.elim
    | idx i=>
      obtain ⟨p1,p2,p3⟩:=g1
      rw [hRk] at g2
      have hwn:aK J R r=none:=by simp [aK,hk]
      have alv:aK (aR J r (J.loc r) (J.hdr r) (J.fo r)) (uu R e kk ys) r=none:=by
        have hkk:(uu R e kk ys).kind=R.kind:=rfl
        unfold aK
        rw [hkk,hk]
      have hd2:(aR J r (J.loc r) (J.hdr r) (J.fo r)).hdr r=J.hdr r:=by simp [aR,upd_same]
      rw [alv,hd2]
      simp only [aT] at g2
      split at g2
      · rename_i ad m c hh
        obtain ⟨k1,c1,k2⟩:=NM (h':=hp w') (own:=[]) q (y:=(show List (El kk) from ys).getD i.toNat kk.zero) (cs':=iY (hp w') ad.block (ad.off+i.toNat * kk.size) kk.size) p3 (fun t ht=>by
          have:=CX q t ht
          rw [Cj hf] at this
          simp at this) g2
        refine ⟨⟨p1, ?_,k1⟩,c1,b,o, ?_,g3⟩
        · show i<((ys.length:Nat):Int)
          have:i<((xs.length:Nat):Int):=p2
          omega
        · show aT (hp w') (.idx i :: q) (.sl e kk) (J.hdr r) none=_
          rw [hh]
          simp only [aT]
          exact k2
      · simp at g2
theorem agJ {own:List TypeId} {ok:Nat->Prop} {e:TypeId} {kk:K} {xs zs:List (El kk)} {b q n c s:Nat} {fo:List Nat} {news:List Value} (hf:kk.flat=true) (he:aa e own=true) (hs:s+zs.length<=xs.length) (hz:0<zs.length) (hkk:0<kk.size)
    (H:Ow (hp w) own ok (.sl e kk) xs [.slice (some ⟨b,q,none⟩) n c] fo) (hnl:news.length=zs.length * kk.size) (hel:∀i (hi:i<zs.length),Vw (hp w) (fun _=>True) kk zs[i] (iB news kk.size i)) (h1:∀v∈news,v.oneCell'=true) :
    (storeCells ⟨b,q+s * kk.size,none⟩ news).run P w=.ok () (w.setCells b (q+s * kk.size) news)/\b∈fo/\jS (hp w) b=some e/\(∀b',b'≠b->hp (w.setCells b (q+s * kk.size) news) b'=hp w b')/\(w.setCells b (q+s * kk.size) news).heap.size=w.heap.size/\
      ∀ok',Ow (hp (w.setCells b (q+s * kk.size) news)) own ok' (.sl e kk) (xs.take s++zs++xs.drop (s+zs.length)) [.slice (some ⟨b,q,none⟩) n c] fo:=by
  unfold Ow at H
  rw [aj he] at H
  obtain ⟨a0,n',c',e1,e2,e3,H⟩:=H
  simp only [jw,ou,eX] at e1
  obtain ⟨rfl,rfl,rfl⟩:=e1
  have e2:n=xs.length:=e2
  rcases H with ⟨hc,_⟩ | ⟨bb,q',arr,lo,hi,ea,hb,hfr,hsz,ay,hl,hp0,H⟩
  · omega
  · simp only [au,qK,eX] at ea
    obtain ⟨rfl,rfl⟩:=ea
    have hm:(s+zs.length) * kk.size<=c * kk.size:=kD _ (by omega)
    rw [iR] at hm
    have hle:q+s * kk.size+news.length<=arr.size:=by rw [hnl]; omega
    have hst:=JX (P:=P) (o:=q+s * kk.size) news hb hfr hle h1
    obtain ⟨s1,s2,gG,s3,s4,s5,s6⟩:=FX b news w arr e (lo,hi) (q+s * kk.size) hb hle
    have h0:∀l∈ay,l=[]:=by
      intro l hl'
      obtain ⟨i,hi',rfl⟩:=sZ.1 hl'
      have hl:ay.length=xs.length:=hl
      obtain ⟨ds,_,h2⟩:=H i (by show i<xs.length; omega)
      have:=Xi hf h2
      rw [<-this]; simp [ig,hi']
    have hg0:∀i,ay.getD i []=[]:=fun i=>by
      by_cases hi:i<ay.length
      · have:=h0 (ay[i]) (jY hi)
        simp [ig,hi,this]
      · simp [ig,hi]
    refine ⟨hst,hp0.mem_iff.2 (by simp),by unfold jS; rw [hb],s1,s2,fun ok'=>?_⟩
    unfold Ow
    rw [aj he]
    have hlen:(xs.take s++zs++xs.drop (s+zs.length)).length=xs.length:=by simp; omega
    refine ⟨_,_,_,rfl,by show n=(xs.take s++zs++xs.drop (s+zs.length)).length; omega,e3, .inr ⟨b,q,gG,lo,hi,rfl,s3,by rw [s4]; exact hfr,by rw [s4]; exact hsz,ay,by show ay.length=(xs.take s++zs++xs.drop (s+zs.length)).length; rw [hlen]; exact hl,hp0,fun i hi=>?_⟩⟩
    rw [hg0]
    have hi':i<xs.length:=by have:i<(xs.take s++zs++xs.drop (s+zs.length)).length:=hi; omega
    have hcell:∀t,cellAt (hp (w.setCells b (q+s * kk.size) news)) b t=gG[t]?:=fun t=>by unfold cellAt; rw [s3]
    have hcell0:∀t,cellAt (hp w) b t=arr[t]?:=fun t=>by unfold cellAt; rw [hb]
    by_cases hin:s<=i/\i<s+zs.length
    · have hx:(show List (El kk) from xs.take s++zs++xs.drop (s+zs.length))[i]'hi=zs[i - s]'(by omega):=by
        show (xs.take s++zs++xs.drop (s+zs.length))[i]'hi=_
        rw [Bz (by simp; omega),Md (by simp; omega)]
        congr 1
        simp
        omega
      rw [hx]
      have hlt:i - s<zs.length:=by omega
      have hv:=hel (i - s) hlt
      refine ⟨iB news kk.size (i - s),fun j hj=>?_,ze (fun t ht=>?_) (ni hf hv)⟩
      · rw [xz hnl hlt] at hj
        rw [hcell,sM hj]
        have hb2:(i - s+1) * kk.size<=zs.length * kk.size:=kD _ (by omega)
        rw [iR,m_] at hb2
        have hi2:i * kk.size=s * kk.size+(i - s) * kk.size:=by rw [<-iR]; congr 1; omega
        rw [show q+i * kk.size+j=q+s * kk.size+((i - s) * kk.size+j) by omega]
        exact s5 _ (by rw [hnl]; omega)
      · rw [Cj hf] at ht; simp at ht
    · have hx:(show List (El kk) from xs.take s++zs++xs.drop (s+zs.length))[i]'hi=xs[i]'hi':=by
        show (xs.take s++zs++xs.drop (s+zs.length))[i]'hi=_
        by_cases hlt:i<s
        · rw [Bz (by simp; omega),Bz (by simp; omega)]
          simp
        · rw [Md (by simp; omega)]
          simp only [List.getElem_drop]
          congr 1
          simp
          omega
      rw [hx]
      obtain ⟨ds,g1,g2⟩:=H i hi'
      have hg:=hg0 i
      rw [hg] at g2
      refine ⟨ds,fun j hj=>?_,ze (fun t ht=>by rw [Cj hf] at ht; simp at ht) (ni hf (qp (fun _=>True) (fun _ _=>trivial) (fun _ _=>trivial) g2))⟩
      rw [hcell]
      have hj':=g1 j hj
      rw [hcell0] at hj'
      rw [<-hj']
      have hds:=fM g2
      refine s6 _ fun hc=>hin ?_
      rw [hnl] at hc
      constructor
      · refine kN fun h=>?_
        have:(i+1) * kk.size<=s * kk.size:=kD _ (by omega)
        rw [iR,m_] at this
        omega
      · refine kN fun h=>?_
        have:(s+zs.length) * kk.size<=i * kk.size:=kD _ (by omega)
        rw [iR] at this
        omega
end
section
variable {P:Program} {T:bH} {cx:Cx} {Z:St} {J:aH} {F:List Nat} {a:Act} {w:World} {o:Oper} {d:Nat} {ws:List Wr} {r:Nat} {R:Root}
theorem Ue (H:Rel cx Z J F a w) (hr:aU Z r R) (hv:cB Z R) (hk:R.kind=.anon) {e:TypeId} {kk:K} {xs zs:List (El kk)} {s:Nat} (hq:(⟨R.k,R.x⟩:Dat)=⟨.sl e kk,xs⟩) (hf:kk.flat=true) (he:aa e R.own=true) (hkk:0<kk.size) (hs:s+zs.length<=xs.length)
    {b:Option Addr} {n c:Nat} (hh:J.hdr r=[.slice b n c]) {bb:Option Addr} (hbb:0<zs.length->bb=b.map (·.add (s * kk.size)))
    {news:List Value} (hnl:news.length=zs.length * kk.size) (hel:∀i (hi:i<zs.length),Vw (hp w) (fun _=>True) kk zs[i] (iB news kk.size i)) (h1:∀v∈news,v.oneCell'=true) :
    ∃w',(∀ad,bb=some ad->(storeCells ad news).run P w=.ok () w')/\(zs.length=0->w'=w)/\(0<zs.length->∃ad,bb=some ad)/\
      Rel cx (aJ Z r (uu R e kk (xs.take s++zs++xs.drop (s+zs.length)))) (aR J r (J.loc r) (J.hdr r) (J.fo r)) [] a w'/\
      ∀g v,g<=R.g->aW cx Z J F w (.ref r g) v->aW cx (aJ Z r (uu R e kk (xs.take s++zs++xs.drop (s+zs.length)))) (aR J r (J.loc r) (J.hdr r) (J.fo r)) [] w' (.ref r g) v:=by
  have hRk:R.k=.sl e kk:=congrArg (fun q:Dat=>q.1) hq
  have hO:Ow (hp w) R.own (bG cx Z J F w R.tags) (.sl e kk) xs [.slice b n c] (J.fo r):=by
    have:=cast (congrArg (fun q:Dat=>Ow (hp w) R.own (bG cx Z J F w R.tags) q.1 q.2 (J.hdr r) (J.fo r)) hq) ((H.roots r R hr).ow hv)
    simp only at this
    rw [hh] at this
    exact this
  by_cases hz:0<zs.length
  · have hb0:∃bk q,b=some ⟨bk,q,none⟩:=by
      have mg:=hO
      unfold Ow at mg
      rw [aj he] at mg
      obtain ⟨a0,n',c',e1,e2,e3,H'⟩:=mg
      simp only [jw,ou,eX] at e1
      obtain ⟨rfl,rfl,rfl⟩:=e1
      have e2:n=xs.length:=e2
      rcases H' with ⟨hc,_⟩ | ⟨bk,q,arr,lo,hi,ea,_⟩
      · omega
      · exact ⟨bk,q,ea⟩
    obtain ⟨bk,q,rfl⟩:=hb0
    obtain ⟨g1,g2,g3,g4,g5,g6⟩:=agJ (P:=P) (w:=w) hf he hs hz hkk hO hnl hel h1
    have hb1:bb=some ⟨bk,q+s * kk.size,none⟩:=by rw [hbb hz]; simp [addr_add]
    obtain ⟨r1,r2⟩:=Ug (w':=w.setCells bk (q+s * kk.size) news) H hr hv hk (ys:=xs.take s++zs++xs.drop (s+zs.length)) hq hf (by simp; omega) (FY _ _ _ _) (by omega)
      (fun b' hb'=>by
        by_cases e:b'=bk
        · subst e; exact ⟨g2,g3⟩
        · exact absurd (g4 b' e) hb') (fun ok=>by rw [hh]; exact g6 ok)
    exact ⟨_,fun ad ha=>by rw [hb1] at ha; simp only [au] at ha; subst ha; exact g1,fun h=>by omega,fun _=>⟨_,hb1⟩,r1,r2⟩
  · have hz0:zs=[]:=sW (by omega)
    subst hz0
    have hn0:news=[]:=sW (by simpa using hnl)
    subst hn0
    have hys:xs.take s++[]++xs.drop (s+([]:List (El kk)).length)=xs:=by simp
    obtain ⟨r1,r2⟩:=Ug (w':=w) H hr hv hk (ys:=xs.take s++[]++xs.drop (s+([]:List (El kk)).length)) hq hf (by simp) ⟨rfl,rfl,rfl⟩ (bN _) (fun b' hb'=>absurd rfl hb') (fun ok=>by
      rw [hys,hh]
      have hO2:=j5 (ok':=ok) (lu (k:=.sl e kk) (own:=R.own) (fun t ht=>by simp only [K.tys,Cj hf,gI] at ht; subst ht; exact he)) hO
      exact hO2)
    exact ⟨w,fun ad _=>by cases ad; rfl,fun _=>rfl,fun h=>by simp at h,r1,r2⟩
end
section
variable {P:Program} {T:bH} {cx:Cx} {Z:St} {J:aH} {F:List Nat} {a:Act} {w:World} {o:Oper} {d:Nat} {ws:List Wr} {r:Nat} {R:Root}
theorem FK {A:Type} {z:A} {g:Nat} {k:Root->(e:TypeId)->(kk:K)->List (El kk)->Prog A} (h:(ownRow r g k).ends Z z) :
    ∃R e kk xs,aU Z r R/\cB Z R/\R.g=g/\(⟨R.k,R.x⟩:Dat)=⟨.sl e kk,xs⟩/\kk.flat=true/\aa e R.own=true/\(k R e kk xs).ends Z z:=by
  unfold ownRow at h
  obtain ⟨R,hr,hv,h⟩:=iQ h
  rcases bD h with ⟨hg,h⟩ | ⟨_,h⟩
  · have hK:∀q:Dat,(⟨R.k,R.x⟩:Dat)=q->(match q.1,q.2 with
        | .sl e kk,xs=>bif kk.flat && aa e R.own then k R e kk (show List (El kk) from xs) else .fail
        | _,_=>Prog.fail).ends Z z->∃R e kk xs,aU Z r R/\cB Z R/\R.g=g/\(⟨R.k,R.x⟩:Dat)=⟨.sl e kk,xs⟩/\kk.flat=true/\aa e R.own=true/\(k R e kk xs).ends Z z:=by
      intro q hq hh
      obtain ⟨qk,qx⟩:=q
      cases qk with
      | sl e kk=>
        simp only at hh
        rcases bD hh with ⟨hc,hh⟩ | ⟨_,hh⟩
        · simp only [bg] at hc
          exact ⟨R,e,kk,qx,hr,hv,bC hg,hq,hc.1,hc.2,hh⟩
        · exact hh.elim
      | _=>exact hh.elim
    exact hK _ rfl h
  · exact h.elim
theorem FR (H:Rel cx Z J F a w) (hr:aU Z r R) (hv:cB Z R) {e:TypeId} {kk:K} {xs:List (El kk)} (hq:(⟨R.k,R.x⟩:Dat)=⟨.sl e kk,xs⟩) (he:aa e R.own=true) {v:Value} (h:VC R.k v (J.hdr r)) :
    ∃b n c,v=.slice b n c/\J.hdr r=[.slice b n c]/\n=xs.length/\n<=c:=by
  have hO:=cast (congrArg (fun q:Dat=>Ow (hp w) R.own (bG cx Z J F w R.tags) q.1 q.2 (J.hdr r) (J.fo r)) hq) ((H.roots r R hr).ow hv)
  have hV:VC (.sl e kk) v (J.hdr r):=cast (congrArg (fun q:Dat=>VC q.1 v (J.hdr r)) hq) h
  simp only at hO
  unfold Ow at hO
  rw [aj he] at hO
  obtain ⟨b,n,c,e1,e2,e3,_⟩:=hO
  rw [hV.1] at e1
  simp only [jw,eX] at e1
  exact ⟨b,n,c,e1,by rw [hV.1,e1],e2,e3⟩
theorem ann {len cap:Nat} {lo hi:Option Int} {l h:Option Value} (hl:lo=none->l=none) (hl':∀j,lo=some j->∃ik,l=some (.int ik j)) (hh:hi=none->h=none) (hh':∀j,hi=some j->∃ik,h=some (.int ik j))
    (h0:0<=lo.getD 0) (h1:lo.getD 0<=hi.getD (len:Int)) (h2:hi.getD (len:Int)<=(cap:Int)) :
    (Instr.sliceBounds true len cap l h none).run P w=.ok ((lo.getD 0).toNat,(hi.getD (len:Int)).toNat,cap) w:=by
  unfold Instr.sliceBounds
  cases hi with
  | none=>
    rw [hh rfl]
    simp only [D6] at h1 h2
    cases lo with
    | none=>rw [hl rfl]; simp
    | some j=>
      obtain ⟨ik,e⟩:=hl' j rfl
      simp only [tq] at h0 h1
      rw [e]
      simp [Instr.sliceBound,asIntOf,h0,h1]
  | some i=>
    obtain ⟨ik,e⟩:=hh' i rfl
    simp only [tq] at h1 h2
    have f1:0<=i:=by omega
    rw [e]
    cases lo with
    | none=>rw [hl rfl]; simp [Instr.sliceBound,asIntOf,f1,h2]
    | some j=>
      obtain ⟨Nz,e2⟩:=hl' j rfl
      simp only [tq] at h0 h1
      have g3:j<=max i 0:=by omega
      rw [e2]
      simp [Instr.sliceBound,asIntOf,f1,h2,h0]
      omega
theorem Um {t e:TypeId} {k:K} (ht:dn P T t (.sl e k)) {b:Option Addr} {n c:Nat} {lo hi:Option Int} {l h:Option Value} (hl:lo=none->l=none) (hl':∀j,lo=some j->∃ik,l=some (.int ik j)) (hh:hi=none->h=none) (hh':∀j,hi=some j->∃ik,h=some (.int ik j))
    (h0:0<=lo.getD 0) (h1:lo.getD 0<=hi.getD (n:Int)) (h2:hi.getD (n:Int)<=(c:Int)) :
    (Instr.sliceAt t (.slice b n c) l h none).run P w=.ok (.slice (if c=(lo.getD 0).toNat then b else b.map (·.add ((lo.getD 0).toNat * k.size))) ((hi.getD (n:Int)).toNat - (lo.getD 0).toNat) (c - (lo.getD 0).toNat)) w:=by
  obtain ⟨hu,he,_,_⟩:=ht.sl
  unfold Instr.sliceAt Instr.slice
  simp only [dO,iy hu,Result.andThen,ann (w:=w) hl hl' hh hh' h0 h1 h2,he.info.sizeOf w,fA]
theorem add_add (b:Option Addr) (m n:Nat):(b.map (·.add m)).map (·.add n)=b.map (·.add (m+n)):=by
  cases b with
  | none=>rfl
  | some ad=>obtain ⟨x,y,z⟩:=ad; by_cases hm:m=0 <;> by_cases hn:n=0 <;> simp [Addr.add,hm,hn,nM]
theorem add_zero (b:Option Addr):b.map (·.add 0)=b:=by
  cases b with
  | none=>rfl
  | some ad=>obtain ⟨x,y,z⟩:=ad; simp [Addr.add]
theorem aci {h:Heap} {own:List TypeId} {ok:Nat->Prop} {e:TypeId} {kk:K} {xs:List (El kk)} {cs:List Value} {fo:List Nat} (H:Ow h own ok (.sl e kk) xs cs fo):∃b m c,cs=[.slice b m c]/\m=xs.length/\m<=c:=by
  unfold Ow at H
  split at H
  · obtain ⟨b,m,c,e1,e2,e3,_⟩:=H
    exact ⟨b,m,c,e1,e2,e3⟩
  · obtain ⟨_,b,m,c,e1,e2,e3,_⟩:=H
    exact ⟨b,m,c,e1,e2,e3⟩
theorem air (hT:fJ P T) (H:Rel cx Z J F a w) (hd:o.dst=some d) (hdn:d<cx.nt) {t:TypeId} {x:Operand} {lo hi mx:Option Operand}
    (h:(match T.ty t with
      | some kk=>eP x fun a=>uT lo fun lo=>uT hi fun hi=>uT mx fun mx=>JI kk a lo hi mx fun u=>.ret [Wr.s d (.one u)]
      | none=>(.fail:Prog (List Wr))).ends Z ws) (ho:o.op=.slice t x lo hi mx):dG P cx o a w (aC ws Z):=by
  cases hty:T.ty t with
  | none=>rw [hty] at h; exact h.elim
  | some k0=>
    rw [hty] at h
    have ht:=hT.ty t k0 hty
    obtain ⟨u,h1,h2,h⟩:=jT H h
    obtain ⟨lo',h,l1,l2⟩:=JF H h
    obtain ⟨hi',h,g1,g2⟩:=JF H h
    obtain ⟨mx',h,m1,m2⟩:=JF H h
    have hl:lo'=none->lo.map a.eval=none:=fun e=>by rw [l1.1 e]; rfl
    have hh:hi'=none->hi.map a.eval=none:=fun e=>by rw [g1.1 e]; rfl
    cases u with
    | ref r g=>
      simp only [JI] at h
      obtain ⟨R,e,kk,xs,hr,hv,hg,hq,hf,he,h⟩:=FK h
      rcases bD h with ⟨hk0,h5⟩ | ⟨_,h5⟩
      · clear h
        have ek:=K.eq_of_beq hk0
        subst ek
        obtain ⟨hka,jU⟩:=h1 R hr hg
        obtain ⟨b,n,c,ev,eh,en,hnc⟩:=FR H hr hv hq he jU
        cases mx' with
        | none=>
          have hmx:mx.map a.eval=none:=by rw [m1.1 rfl]; rfl
          obtain ⟨⟨c1,c2,c3⟩,h6⟩:=h5
          rw [bz h6]
          have hrun:=Um (P:=P) (w:=w) (b:=b) (n:=n) (c:=c) ht hl l2 hh g2 c1 (by rw [en]; exact c2) (by rw [en]; omega)
          refine fO (x:=.one (.part r g (lo'.getD 0).toNat (hi'.getD (xs.length:Int)).toNat kk.size)) H hd hdn (v:=.slice (if c=(lo'.getD 0).toNat then b else b.map (·.add ((lo'.getD 0).toNat * kk.size))) ((hi'.getD (n:Int)).toNat - (lo'.getD 0).toNat) (c - (lo'.getD 0).toNat)) ?_ ?_ ⟨R,hr.1, .inr (by omega)⟩
          · simp only [execOp,ho,ev,hmx,dO,hrun,fU,fA]
          · refine ⟨_,b,n,c,by rw [en], ?_,by omega,by rw [en]; omega,hnc, ?_⟩
            · rintro (h0 | h0)
              · rw [h0]; simp [add_zero]
              · rw [aA h0]
            · rw [<-ev]; exact h1
        | some m=>
          obtain ⟨jk,hmx⟩:=m2 m rfl
          simp only at h5
          rcases bD h5 with ⟨hs,h6⟩ | ⟨_,h6⟩
          · obtain ⟨⟨c1,c2,c3,c4⟩,h7⟩:=h6
            rw [bz h7]
            cases hi' with
            | none=>simp at hs
            | some i=>
              obtain ⟨ik,ehi⟩:=g2 i rfl
              simp only [tq] at c2 c3
              obtain ⟨hu,he',_,_⟩:=ht.sl
              have c5:m<=(c:Int):=by omega
              have hrun:∃v,(Instr.sliceAt t (.slice b n c) (lo.map a.eval) (hi.map a.eval) (mx.map a.eval)).run P w=.ok v w:=by
                unfold Instr.sliceAt Instr.slice Instr.sliceBounds
                rw [hmx,ehi]
                cases lo' with
                | none=>
                  rw [hl rfl]
                  simp only [D6] at c1 c2
                  refine ⟨.slice (if m.toNat=0 then b else b.map (·.add (0 * kk.size))) (i.toNat - 0) (m.toNat - 0), ?_⟩
                  simp [iy hu,Instr.sliceBound,asIntOf,c5,c3,he'.info.sizeOf w,show 0<=m by omega,show 0<=i by omega,show (i<=max m 0) by omega,Result.andThen]
                | some j=>
                  obtain ⟨lk,elo⟩:=l2 j rfl
                  rw [elo]
                  simp only [tq] at c1 c2
                  refine ⟨.slice (if m.toNat=j.toNat then b else b.map (·.add (j.toNat * kk.size))) (i.toNat - j.toNat) (m.toNat - j.toNat), ?_⟩
                  simp [iy hu,Instr.sliceBound,asIntOf,c5,c3,c1,he'.info.sizeOf w,show 0<=m by omega,show 0<=i by omega,show (i<=max m 0) by omega,show (j<=max i 0) by omega,Result.andThen]
              obtain ⟨v,hrun⟩:=hrun
              exact fO (x:=.one .undef) H hd hdn (v:=v) (by simp only [execOp,ho,ev,dO,hrun,fU,fA]) trivial trivial
          · exact h6.elim
      · exact h5.elim
    | part r g l0 h0 sz=>
      simp only [JI] at h
      obtain ⟨R,e,kk,xs,hr,hv,hg,hq,hf,he,h⟩:=FK h
      rcases bD h with ⟨hk0,h5⟩ | ⟨_,h5⟩
      · clear h
        simp only [bg] at hk0
        have ek:=K.eq_of_beq hk0.1.1
        subst ek
        have hsz:kk.size=sz:=bC hk0.1.2
        subst hsz
        cases mx' with
        | some m=>simp at hk0
        | none=>
          have hmx:mx.map a.eval=none:=by rw [m1.1 rfl]; rfl
          obtain ⟨⟨c1,c2,c3⟩,h6⟩:=h5
          rw [bz h6]
          obtain ⟨b',b,n,c,ev,eb,e2,e3,e4,hrf⟩:=h1
          obtain ⟨hka,jU⟩:=hrf R hr hg
          obtain ⟨b2,n2,c2',zP,eh,en,hnc⟩:=FR H hr hv hq he jU
          simp only [ou] at zP
          obtain ⟨rfl,rfl,rfl⟩:=zP
          have hrun:=Um (P:=P) (w:=w) (b:=b') (n:=h0 - l0) (c:=c - l0) ht hl l2 hh g2 c1 c2 (by omega)
          refine fO (x:=.one (.part r g (l0+(lo'.getD 0).toNat) (l0+(hi'.getD ((h0 - l0:Nat):Int)).toNat) kk.size)) H hd hdn
            (v:=.slice (if c - l0=(lo'.getD 0).toNat then b' else b'.map (·.add ((lo'.getD 0).toNat * kk.size))) ((hi'.getD ((h0 - l0:Nat):Int)).toNat - (lo'.getD 0).toNat) (c - l0 - (lo'.getD 0).toNat)) ?_ ?_ ⟨R,hr.1, .inr (by omega)⟩
          · simp only [execOp,ho,ev,hmx,dO,hrun,fU,fA]
          · refine ⟨if c - l0=(lo'.getD 0).toNat then b' else b'.map (·.add ((lo'.getD 0).toNat * kk.size)),b,n,c, ?_, ?_,by omega,by rw [en]; omega,e4,hrf⟩
            · rw [show l0+(hi'.getD ((h0 - l0:Nat):Int)).toNat - (l0+(lo'.getD 0).toNat)=(hi'.getD ((h0 - l0:Nat):Int)).toNat - (lo'.getD 0).toNat by omega,show c - (l0+(lo'.getD 0).toNat)=c - l0 - (lo'.getD 0).toNat by omega]
            · rintro (h0' | h0')
              · have z1:l0=0:=by omega
                have z2:(lo'.getD 0).toNat=0:=by omega
                rw [eb (.inl z1),z1,z2]
                simp [add_zero]
              · rw [aA (by omega)]
                rw [eb (by omega),add_add,iR]
      · exact h5.elim
    | dZ r p n=>
      simp only [JI] at h
      rcases bD h with ⟨hmn,h5⟩ | ⟨_,h5⟩
      · clear h
        cases mx' with
        | some m=>simp at hmn
        | none=>
          have hmx:mx.map a.eval=none:=by rw [m1.1 rfl]; rfl
          unfold acs at h5
          cases k0 with
          | sl e kk=>
            obtain ⟨R,hr,hv,h6⟩:=iQ h5
            rcases bD h6 with ⟨ug,h7⟩ | ⟨_,h7⟩
            · clear h5 h6
              cases hg:aB p R.k R.x with
              | none=>rw [hg] at h7; exact h7.elim
              | some dd=>
                rw [hg] at h7
                simp only at h7
                cases hck:bU dd.1 (.sl e kk) dd.2 with
                | none=>rw [hck] at h7; exact h7.elim
                | some xs=>
                  rw [hck] at h7
                  simp only at h7
                  obtain ⟨ek,ey⟩:=jl hck
                  obtain ⟨dk,dx⟩:=dd
                  simp only at ek ey
                  subst ek
                  simp only at ey
                  subst ey
                  obtain ⟨⟨c1,c2,c3⟩,h8⟩:=h7
                  rw [bz h8]
                  obtain ⟨dh,hown,cs,wh,hn,jU⟩:=h1 R hr.1 hv (bC ug) _ hg
                  obtain ⟨aX,hO,_⟩:=wo H hr hv hg dh hown hn
                  obtain ⟨b,m,c,rfl,hm,hmc⟩:=aci hO
                  have ev:a.eval x=.slice b m c:=by
                    have:=jU.1
                    simpa using this.symm
                  have hm':m=@List.length (El kk) xs:=hm
                  have hrun:=Um (P:=P) (w:=w) (b:=b) (n:=m) (c:=c) ht hl l2 hh g2 c1 (by rw [hm']; exact c2) (by rw [hm']; omega)
                  refine fO (x:=.one (.sub r p n (lo'.getD 0).toNat (hi'.getD ((@List.length (El kk) xs:Nat):Int)).toNat kk.size)) H hd hdn (v:=.slice (if c=(lo'.getD 0).toNat then b else b.map (·.add ((lo'.getD 0).toNat * kk.size))) ((hi'.getD (m:Int)).toNat - (lo'.getD 0).toNat) (c - (lo'.getD 0).toNat)) ?_ ?_ ⟨R,hr.1, .inr (by have:=bC ug; omega)⟩
                  · simp only [execOp,ho,ev,hmx,dO,hrun,fU,fA]
                  · refine ⟨_,b,m,c,by rw [hm'], ?_,by omega,by rw [hm']; omega,hmc, ?_⟩
                    · rintro (h0 | h0)
                      · rw [h0]; simp [add_zero]
                      · rw [aA h0]
                    · intro R2 hR2 hv2 hn2 d2 hd2
                      have:R2=R:=by rw [hr.1] at hR2; simpa using hR2.symm
                      subst this
                      rw [hg] at hd2
                      simp only [au] at hd2
                      subst hd2
                      exact ⟨dh,hown,wh,hn⟩
            · exact h7.elim
          | _=>exact h5.elim
      · exact h5.elim
    | _=>exact h.elim
end
section
variable {P:Program} {T:bH} {cx:Cx} {Z:St} {J:aH} {F:List Nat} {a:Act} {w:World} {o:Oper} {d:Nat} {ws:List Wr} {r:Nat} {R:Root}
theorem aa1 {c:Call} {u:AV} (h:iN cx Z J F w [u] (c.args.toList.map a.eval)):∃x,c.args.toList=[x]/\aW cx Z J F w u (a.eval x):=by
  revert h
  generalize c.args.toList=l
  intro h
  cases l with
  | nil=>exact h.elim
  | cons x l=>cases l with
    | nil=>exact ⟨x,rfl,h.1⟩
    | cons _ _=>exact h.2.elim
theorem Oo {c:Call} {u v:AV} (h:iN cx Z J F w [u,v] (c.args.toList.map a.eval)):∃x y,c.args.toList=[x,y]/\aW cx Z J F w u (a.eval x)/\aW cx Z J F w v (a.eval y):=by
  revert h
  generalize c.args.toList=l
  intro h
  cases l with
  | nil=>exact h.elim
  | cons x l=>cases l with
    | nil=>exact h.2.elim
    | cons y l=>cases l with
      | nil=>exact ⟨x,y,rfl,h.1,h.2.1⟩
      | cons _ _=>exact h.2.2.elim
theorem aog {kk:K} {m:Nat} (hk:0<kk.size) (hz:(dR kk).length=kk.size) (hg:fV kk=true):(nY (dR kk).toArray (m * kk.size)).toList.length=m * kk.size/\(∀i,i<m->iB (nY (dR kk).toArray (m * kk.size)).toList kk.size i=dR kk)/\
    ∀v∈(nY (dR kk).toArray (m * kk.size)).toList,v.oneCell'=true:=by
  refine ⟨by simp [nY],fun i hi=>acR hk hz hi,fun v hv=>?_⟩
  simp only [nY,wE,fI] at hv
  obtain ⟨i,_,rfl⟩:=hv
  have hlt:i % (dR kk).toArray.size<(dR kk).toArray.size:=Nat.mod_lt _ (by simp [hz,hk])
  have h1:=Mv hg (qp (h:=hp (default:World)) (own:=kk.tys) (ok:=fun _=>False) (fun _=>True) (fun _ _=>trivial) (fun _ _=>trivial) (Kg hg (fun t ht=>b_.2 ht)))
  rw [getElem!_pos (dR kk).toArray _ hlt]
  exact h1 _ (by simp)
theorem ah8 (hT:fJ P T) (H:Rel cx Z J F a w) {c:Call} (ho:o.op=.call c) (hcb:c.callee=.builtin .clear) {u:AV} {e0:TypeId} {k0:K} (hl:iN cx Z J F w [u] (c.args.toList.map a.eval)) (ht0:(c.argTypes[0]?).bind T.ty=some (.sl e0 k0))
    (h:(QU (.sl e0 k0) u fun ws=>(.ret ws:Prog (List Wr))).ends Z ws):∃v w' J',(execOp a.eval o).run P w=.ok (.value v) w'/\Rel cx (aC ws Z) J' [] a w':=by
  obtain ⟨x,hx,hu⟩:=aa1 hl
  obtain ⟨t,hat,ht⟩:=uy hT ht0
  cases u with
  | part r g lo hi sz=>
    simp only [QU] at h
    obtain ⟨R,e,kk,xs,hr,hv,hg,hq,hf,he,h⟩:=FK h
    rcases bD h with ⟨hsz,h5⟩ | ⟨_,h5⟩
    · clear h
      simp only [bg] at hsz
      have ek:=K.eq_of_beq hsz.1
      have hsz:=bC hsz.2
      subst hsz
      obtain ⟨rfl,rfl⟩:e=e0/\kk=k0:=by simpa using ek
      rw [bz h5]
      obtain ⟨b',b,n,c',ev,eb,e2,e3,e4,hrf⟩:=hu
      obtain ⟨hka,jU⟩:=hrf R hr hg
      obtain ⟨b2,n2,c2',zP,eh,en,hnc⟩:=FR H hr hv hq he jU
      simp only [ou] at zP
      obtain ⟨rfl,rfl,rfl⟩:=zP
      obtain ⟨hun,hel,hks,_⟩:=ht.sl
      have Cy:=hel.fV
      have hzl:(dR kk).length=kk.size:=by
        have:=Kg (h:=hp w) (ok:=fun _=>False) (own:=kk.tys) Cy (fun t ht=>b_.2 ht)
        exact fM this
      obtain ⟨z1,z2,z3⟩:=aog (m:=hi - lo) hks hzl Cy
      obtain ⟨w',r1,r2,r3,r4,_⟩:=Ue (P:=P) (zs:=List.replicate (hi - lo) kk.zero) (s:=lo) H hr hv hka hq hf he hks (by simp; omega) (b:=b) (n:=n) (c:=c') eh (bb:=b') (fun h0=>eb (by
          simp only [Qa] at h0
          omega)) (news:=(nY (dR kk).toArray ((hi - lo) * kk.size)).toList) (by rw [z1]; simp) (fun i hi'=>by
          have hi2:i<hi - lo:=by simpa using hi'
          rw [z2 i hi2]
          have:(List.replicate (hi - lo) kk.zero)[i]'hi'=kk.zero:=by simp
          rw [this]
          exact qp (own:=kk.tys) (ok:=fun _=>False) _ (fun _ _=>trivial) (fun _ _=>trivial) (Kg Cy (fun t ht=>b_.2 ht))) z3
      have hdrop:lo+(List.replicate (hi - lo) kk.zero).length=hi:=by simp; omega
      rw [hdrop] at r4
      obtain ⟨cc,hcc⟩:=FU (P:=P) (a:=a) (w:=w) ho hcb
      have vQ:(c.args.map a.eval)[0]?=some (.slice b' (hi - lo) (c' - lo)):=by
        rw [<-wD,wE,hx]
        simp [ev]
      refine ⟨.tuple #[],w',_, ?_,r4⟩
      rw [hcc]
      have hrun:(Builtin.clear_ c.argTypes o.type (c.args.map a.eval)).run P w=.ok (.tuple #[]) w':=by
        unfold Builtin.clear_
        simp only [hat,vQ]
        by_cases h0:hi - lo=0
        · rw [h0]
          rw [r2 (by simp [h0])]
          cases b' <;> simp [iy hun,Result.andThen]
        · obtain ⟨ad,had⟩:=r3 (by simp; omega)
          subst had
          have hst:=r1 ad rfl
          have hzc:(Builtin.zeroCells (jC kk).cells (hi - lo)).toList=(nY (dR kk).toArray ((hi - lo) * kk.size)).toList:=by
            rw [Ga hel.shape]
            unfold Builtin.zeroCells nY
            simp [hzl]
          obtain ⟨m,hm⟩:∃m,hi - lo=m+1:=⟨hi - lo - 1,by omega⟩
          rw [hm] at hzc hst ⊢
          simp only [dO,iy hun,fU,hel.info.zero w,hzc,hst,fA]
      simp only [builtin,dO,hrun,fU,fA]
    · exact h5.elim
  | _=>exact h.elim
end
section
variable {P:Program} {T:bH} {cx:Cx} {Z:St} {J:aH} {F:List Nat} {a:Act} {w:World} {o:Oper} {d:Nat} {ws:List Wr} {r:Nat} {R:Root}
theorem ah9 (hT:fJ P T) (H:Rel cx Z J F a w) (hd:o.dst=some d) (hdn:d<cx.nt) {c:Call} (ho:o.op=.call c) (hcb:c.callee=.builtin .append) {u v:AV} {e0 e1:TypeId} {k0 k1:K} (hl:iN cx Z J F w [u,v] (c.args.toList.map a.eval))
    (ht0:(c.argTypes[0]?).bind T.ty=some (.sl e0 k0)) (ht1:(c.argTypes[1]?).bind T.ty=some (.sl e1 k1)) (h:(QV (.sl e0 k0) d u v fun ws=>(.ret ws:Prog (List Wr))).ends Z ws):dG P cx o a w (aC ws Z):=by
  obtain ⟨x,y,hxy,hu,hv0⟩:=Oo hl
  obtain ⟨t,hat,ht⟩:=uy hT ht0
  obtain ⟨t2,ym,ht2⟩:=uy hT ht1
  cases u with
  | part r g l0 h0 sz=>
    cases v with
    | part r' g' l1 h1 sz'=>
      simp only [QV] at h
      obtain ⟨R,e,kk,xs,hr,hv,hg,hq,hf,he,h⟩:=FK h
      rcases bD h with ⟨hc,h5⟩ | ⟨_,h5⟩
      · clear h
        simp only [bg] at hc
        obtain ⟨⟨⟨⟨⟨c1,c2⟩,c3⟩,c4⟩,c5⟩,c6⟩:=hc
        have ek:=K.eq_of_beq c1
        have c2:=bC c2
        have c3:=bC c3
        have c4:=bC c4
        have c5:=bC c5
        have c6:=bC c6
        subst c2 c3 c4 c5 c6
        obtain ⟨rfl,rfl⟩:e=e0/\kk=k0:=by simpa using ek
        obtain ⟨hle,h6⟩:=h5
        rw [bz h6]
        obtain ⟨b1,b,n,cp,ev1,eb1,e2,e3,e4,hrf⟩:=hu
        obtain ⟨b2,b',n',cp',zP,eb2,f2,f3,f4,ak6⟩:=hv0
        obtain ⟨hka,jU⟩:=hrf R hr hg
        obtain ⟨_,ajS⟩:=ak6 R hr hg
        obtain ⟨q1,q2,q3,ev,eh,en,hnc⟩:=FR H hr hv hq he jU
        simp only [ou] at ev
        obtain ⟨rfl,rfl,rfl⟩:=ev
        obtain ⟨q1,q2,q3,ev,eh',_,_⟩:=FR H hr hv hq he ajS
        simp only [ou] at ev
        obtain ⟨rfl,rfl,rfl⟩:=ev
        rw [eh] at eh'
        simp only [jw,ou,eX] at eh'
        obtain ⟨rfl,rfl,rfl⟩:=eh'
        have hb1:b1=b:=by rw [eb1 (.inl rfl)]; simp [add_zero]
        subst hb1
        obtain ⟨hun,hel,hks,_⟩:=ht.sl
        have Cy:=hel.fV
        have hO:Ow (hp w) R.own (bG cx Z J F w R.tags) (.sl e kk) xs [.slice b1 n cp] (J.fo r):=by
          have:=cast (congrArg (fun q:Dat=>Ow (hp w) R.own (bG cx Z J F w R.tags) q.1 q.2 (J.hdr r) (J.fo r)) hq) ((H.roots r R hr).ow hv)
          simp only at this
          rw [eh] at this
          exact this
        have hV:=qp (fun _=>True) (fun _ _=>trivial) (fun _ _=>trivial) hO
        have Y6:=Xv hV f2 (by omega:h1<=n)
        have hlz:((xs.take h1).drop l1).length=h1 - l1:=by
          have:n=xs.length:=en
          simp; omega
        have hVy:Vw (hp w) (fun _=>True) (.sl e kk) (show List (El kk) from (xs.take h1).drop l1) [.slice b2 (h1 - l1) (cp - l1)]:=by
          by_cases hcl:cp=l1
          · refine ⟨_,_,_,rfl,hlz.symm,by omega,fun h=>?_⟩
            omega
          · rw [aA hcl] at Y6
            rw [eb2 (.inr hcl)]
            exact Y6
        obtain ⟨news,hS,hE⟩:=Ox (P:=P) (u:=t2) (xs:=(xs.take h1).drop l1) (v:=a.eval y) (.inl ⟨_,ht2.sl.1⟩) Cy rfl (cs:=[.slice b2 (h1 - l1) (cp - l1)]) ⟨by rw [zP],by rw [zP]; simp⟩ hVy
        have hzl:((show List (El kk) from (xs.take h1).drop l1)).length=h1 - l1:=hlz
        have hroom:h0+((xs.take h1).drop l1).length<=cp:=by omega
        obtain ⟨w',r1,r2,r3,r4,r5⟩:=Ue (P:=P) (zs:=(xs.take h1).drop l1) (s:=h0) H hr hv hka hq hf he hks (by rw [hlz]; have:n=xs.length:=en; omega) (b:=b1) (n:=n) (c:=cp) eh (bb:=b1.map (·.add (h0 * kk.size))) (fun _=>rfl) (news:=news) hS.nl hE hS.one
        rw [hlz] at r4 r5
        have hrun:=Ob (P:=P) (ty:=o.type) (t:=t) (u:=t2) ht hS (b:=b1) (n:=h0) (c:=cp) hroom
        have EY:(Builtin.append_ #[t,t2] o.type #[a.eval x,a.eval y]).run P w=.ok (.slice b1 (h0+(h1 - l1)) cp) w':=by
          rw [ev1]
          simp only [Nat.sub_zero]
          rw [hrun,hlz]
          cases hbb:b1 with
          | none=>
            have:((xs.take h1).drop l1).length=0:=by
              refine kN fun hne=>?_
              obtain ⟨ad,had⟩:=r3 (by omega)
              rw [hbb] at had
              simp at had
            rw [r2 this]
            simp [Result.andThen]
          | some ad=>
            have:=r1 (ad.add (h0 * kk.size)) (by rw [hbb]; rfl)
            simp only [this,fU]
        show dG P cx o a w (aC [Wr.s d (.one (.part r g 0 (h0+(h1 - l1)) kk.size))] (aJ Z r (uu R e kk (xs.take h0++(xs.take h1).drop l1++xs.drop (h0+(h1 - l1))))))
        refine o7 (x:=.one (.part r g 0 (h0+(h1 - l1)) kk.size)) (v:=.slice b1 (h0+(h1 - l1)) cp) r4 hd hdn (JW ho hcb hxy hat ym EY) ?_ ⟨_,fE .., .inr (by rw [<-hg]; exact bN _)⟩
        refine ⟨b1,b1,n,cp,by simp,fun _=>by simp [add_zero],by omega,by omega,e4,r5 g (.slice b1 n cp) (by omega) hrf⟩
      · exact h5.elim
    | _=>exact h.elim
  | _=>exact h.elim
theorem aiq (hT:fJ P T) (H:Rel cx Z J F a w) (hd:o.dst=some d) (hdn:d<cx.nt) {c:Call} (ho:o.op=.call c) (hcb:c.callee=.builtin .len) {r g lo hi sz:Nat} {e0:TypeId} {k0:K} (hl:iN cx Z J F w [.part r g lo hi sz] (c.args.toList.map a.eval))
    (ht0:(c.argTypes[0]?).bind T.ty=some (.sl e0 k0)):dG P cx o a w (aC [.s d (.one (.val (.int .i64) ((hi - lo:Nat):Int) []))] Z):=by
  obtain ⟨x,hx,hu⟩:=aa1 hl
  obtain ⟨t,hat,ht⟩:=uy hT ht0
  obtain ⟨b',b,n,cp,ev,_⟩:=hu
  have vQ:(c.args.map a.eval)[0]?=some (.slice b' (hi - lo) (cp - lo)):=by
    rw [<-wD,wE,hx]
    simp [ev]
  obtain ⟨cc,hcc⟩:=FU (P:=P) (a:=a) (w:=w) ho hcb
  refine fO H hd hdn ?_ (qj .i64 (n:=((hi - lo:Nat):Int)) trivial) pG
  rw [hcc]
  simp only [builtin,dO,ab3 (ty:=o.type) (w:=w) hat vQ (.inr ⟨⟨_,ht.sl.1⟩,b',cp - lo,rfl⟩),fU,fA]
theorem anp {t u ty e:TypeId} {k:K} (ht:dn P T t (.sl e k)) {b:Option Addr} {n c m:Nat} {x:Value} {news:List Value} (hs:Src P w k.size u x m news) (hr:m<=n) :
    (Builtin.copy_ #[t,u] ty #[.slice b n c,x]).run P w=(match b with
      | some a=>(storeCells a news).run P w
      | none=>.ok () w).andThen fun _ w'=>.ok (.int .i64 (m:Int)) w':=by
  obtain ⟨hu,he,_,_⟩:=ht.sl
  have e1:=hs.len w
  have e2:=hs.cells.1
  have hm:Nat.min m n=m:=Nat.min_eq_left hr
  cases b <;> simp [Builtin.copy_,iy hu,he.info.sizeOf w,e1,e2,hm,Result.andThen,goInt]
theorem aia (hT:fJ P T) (H:Rel cx Z J F a w) (hd:o.dst=some d) (hdn:d<cx.nt) {c:Call} (ho:o.op=.call c) (hcb:c.callee=.builtin .copy) {u v:AV} {e0 e1:TypeId} {k0 k1:K} (hl:iN cx Z J F w [u,v] (c.args.toList.map a.eval)) (hwv:dQ Z v)
    (ht0:(c.argTypes[0]?).bind T.ty=some (.sl e0 k0)) (ht1:(c.argTypes[1]?).bind T.ty=some (.sl e1 k1)) (h:(QX (.sl e0 k0) d u v fun ws=>(.ret ws:Prog (List Wr))).ends Z ws):dG P cx o a w (aC ws Z):=by
  obtain ⟨x,y,hxy,hu,hv0⟩:=Oo hl
  obtain ⟨t,hat,ht⟩:=uy hT ht0
  obtain ⟨t2,ym,ht2⟩:=uy hT ht1
  cases u with
  | ref r g=>
    simp only [QX] at h
    obtain ⟨R,e,kk,xs,hr,hv,hg,hq,hf,he,h⟩:=FK h
    rcases bD h with ⟨hc,h5⟩ | ⟨_,h5⟩
    · clear h
      have ek:=K.eq_of_beq hc
      obtain ⟨rfl,rfl⟩:e=e0/\kk=k0:=by simpa using ek
      obtain ⟨hun,hel,hks,_⟩:=ht.sl
      have Cy:=hel.fV
      obtain ⟨s,h6,_,_,news,_,_,_,_,_,_,hS,hels⟩:=ack (P:=P) (u:=t2) H (.inl ⟨_,ht2.sl.1⟩) Cy hv0 hwv h5
      obtain ⟨hle,h7⟩:=h6
      rw [bz h7]
      obtain ⟨hka,jU⟩:=hu R hr (by omega)
      obtain ⟨b,n,cp,ev,eh,en,hnc⟩:=FR H hr hv hq he jU
      obtain ⟨ay,jH,_,_,_,hE⟩:=hels [] (fun t ht=>by rw [Cj hf] at ht; simp at ht)
      have hb0:b.map (·.add (0 * kk.size))=b:=by rw [Nat.zero_mul]; exact add_zero b
      obtain ⟨w',r1,r2,r3,r4,r5⟩:=Ue (P:=P) (zs:=s.xs) (s:=0) H hr hv hka hq hf he hks (by omega) (b:=b) (n:=n) (c:=cp) eh (bb:=b) (fun _=>hb0.symm) (news:=news) hS.nl (fun i hi=>qp (fun _=>True) (fun _ _=>trivial) (fun _ _=>trivial) (hE i hi)) hS.one
      have hxs:xs.take 0++s.xs++xs.drop (0+s.xs.length)=s.xs++xs.drop s.xs.length:=by simp
      rw [hxs] at r4 r5
      have hrun:=anp (P:=P) (ty:=o.type) (t:=t) (u:=t2) ht hS (b:=b) (n:=n) (c:=cp) (by omega)
      have EY:(Builtin.copy_ #[t,t2] o.type #[a.eval x,a.eval y]).run P w=.ok (.int .i64 (s.xs.length:Int)) w':=by
        rw [ev,hrun]
        cases hbb:b with
        | none=>
          have:s.xs.length=0:=by
            refine kN fun hne=>?_
            obtain ⟨ad,had⟩:=r3 (by omega)
            rw [hbb] at had
            simp at had
          rw [r2 this]
          simp [Result.andThen]
        | some ad=>
          have:=r1 ad hbb
          simp only [this,fU]
      have alb:(execOp a.eval o).run P w=.ok (.value (.int .i64 (s.xs.length:Int))) w':=by
        obtain ⟨cc,hcc⟩:=FU (P:=P) (a:=a) (w:=w) ho hcb
        rw [hcc]
        have h1:c.args.map a.eval=#[a.eval x,a.eval y]:=by
          apply u6
          rw [wE,hxy]
          rfl
        have h2:Builtin.copy_ c.argTypes o.type #[a.eval x,a.eval y]=Builtin.copy_ #[t,t2] o.type #[a.eval x,a.eval y]:=by
          unfold Builtin.copy_
          simp only [hat]
          rfl
        rw [h1]
        simp only [builtin,dO,h2,EY,fU,fA]
      show dG P cx o a w (aC [Wr.s d (.one (.val (.int .i64) (s.xs.length:Int) []))] (aJ Z r (uu R e kk (s.xs++xs.drop s.xs.length))))
      exact o7 (x:=.one (.val (.int .i64) (s.xs.length:Int) [])) r4 hd hdn alb (qj .i64 (n:=((s.xs.length:Nat):Int)) trivial) pG
    · exact h5.elim
  | _=>exact h.elim
theorem ano {t e:TypeId} (ht:dn P T t (.sl e (.int .u8))) {b q n c:Nat} {arr:Array Value} {e':TypeId} {fr:Nat×Nat} (hb:hp w b=some (.cells arr e' fr)) :
    (convert t t (.slice (some ⟨b,q,none⟩) n c)).run P w=.ok (.slice (some ⟨b,q,none⟩) n c) (w.freeze ⟨b,arr.size,none⟩ 1):=by
  obtain ⟨h1,h2,_⟩:=ht.sl
  have he:P.underlying e=some (.int .u8):=by
    unfold dn jO at h2
    exact h2.1
  have hsh:w.shape? b=some (e',arr.size):=by
    have:w.heap[b]?=some (.cells arr e' fr):=hb
    unfold World.shape?
    rw [this]
  simp [convert,iy h1,iy he,markStringish,hsh]
theorem ajj {b:Nat} {arr:Array Value} {e':TypeId} {lo hi:Nat} (hb:hp w b=some (.cells arr e' (lo,hi))) (hf:jq arr.size lo hi) :
    (∀b',b'≠b->hp (w.freeze ⟨b,arr.size,none⟩ 1) b'=hp w b')/\∃lo' hi',hp (w.freeze ⟨b,arr.size,none⟩ 1) b=some (.cells arr e' (lo',hi'))/\jq arr.size lo' hi':=by
  have hb':w.heap[b]?=some (.cells arr e' (lo,hi)):=hb
  have e0:(w.freeze ⟨b,arr.size,none⟩ 1).heap=w.heap.modify b fun
      | .cells c elem (lo,hi)=>.cells c elem (if lo == hi then (arr.size,arr.size+1) else (min lo arr.size,max hi (arr.size+1)))
      | o=>o:=by
    unfold World.freeze
    rw [aA (by decide)]
    rfl
  refine ⟨fun b' hne=>?_, ?_⟩
  · show (w.freeze ⟨b,arr.size,none⟩ 1).heap[b']?=w.heap[b']?
    rw [e0,OB,aA (Ne.symm hne)]
  · have e1:hp (w.freeze ⟨b,arr.size,none⟩ 1) b=some (.cells arr e' (if lo == hi then (arr.size,arr.size+1) else (min lo arr.size,max hi (arr.size+1)))):=by
      show (w.freeze ⟨b,arr.size,none⟩ 1).heap[b]?=_
      rw [e0,OB,aj rfl,hb']
      rfl
    cases hlh:(lo == hi) with
    | true=>rw [hlh] at e1; exact ⟨_,_,e1,by omega,fun i hi=>by omega⟩
    | false=>
      rw [hlh] at e1
      have hne:lo≠hi:=by simpa using hlh
      have hle:=hf.le
      have hs:arr.size<=lo:=kN fun h=>hf.out lo (by omega) ⟨bN _,by omega⟩
      exact ⟨_,_,e1,by omega,fun i hi=>by omega⟩
theorem ah7 (hT:fJ P T) (H:Rel cx Z J F a w) (hd:o.dst=some d) (hdn:d<cx.nt) {t e:TypeId} {x:Operand} {u:AV} (ho:o.op=.convert t t x) (ht0:T.ty t=some (.sl e (.int .u8))) (hu:aW cx Z J F w u (a.eval x))
    (h:(QJ e d u fun ws=>(.ret ws:Prog (List Wr))).ends Z ws):dG P cx o a w (aC ws Z):=by
  have ht:=hT.ty t _ ht0
  cases u with
  | ref r g=>
    simp only [QJ] at h
    obtain ⟨R,e',kk,xs,hr,hv,hg,hq,hf,he,h⟩:=FK h
    rcases bD h with ⟨hc,h5⟩ | ⟨_,h5⟩
    · clear h
      obtain ⟨h6,h7⟩:=h5
      rw [bz h7]
      have ek:=K.eq_of_beq hc
      obtain ⟨rfl,rfl⟩:e'=e/\kk=.int .u8:=by simpa using ek
      obtain ⟨hka,jU⟩:=hu R hr (by omega)
      have hO:=cast (congrArg (fun q:Dat=>Ow (hp w) R.own (bG cx Z J F w R.tags) q.1 q.2 (J.hdr r) (J.fo r)) hq) ((H.roots r R hr).ow hv)
      have hV:VC (.sl e' (.int .u8)) (a.eval x) (J.hdr r):=cast (congrArg (fun q:Dat=>VC q.1 (a.eval x) (J.hdr r)) hq) jU
      simp only at hO
      have M6:=hO
      unfold Ow at hO
      rw [aj he] at hO
      obtain ⟨ad,n,c,e1,e2,e3,hO⟩:=hO
      have h6':0<(show List Int from xs).length:=h6
      rcases hO with ⟨hc0,_⟩ | ⟨b,q,arr,lo,hi,ea,hb,hfr,hs,ay,hl,hpm,hE⟩
      · have:n=(show List Int from xs).length:=e2
        omega
      · subst ea
        have ev:a.eval x=.slice (some ⟨b,q,none⟩) n c:=by
          have:=hV.1
          rw [e1] at this
          simpa using this.symm
        have ala:=ano (P:=P) (w:=w) ht (n:=n) (c:=c) (q:=q) hb
        obtain ⟨g1,lo',hi',g2,g3⟩:=ajj hb hfr
        have hcell:∀i,cellAt (hp (w.freeze ⟨b,arr.size,none⟩ 1)) b i=cellAt (hp w) b i:=fun i=>by unfold cellAt; rw [g2,hb]
        have aj5:b∈J.fo r:=hpm.mem_iff.2 (by simp)
        have Ng:(w.freeze ⟨b,arr.size,none⟩ 1).os=w.os/\(w.freeze ⟨b,arr.size,none⟩ 1).tape=w.tape/\(w.freeze ⟨b,arr.size,none⟩ 1).output=w.output/\(w.freeze ⟨b,arr.size,none⟩ 1).heap.size=w.heap.size:=by
          unfold World.freeze
          rw [aA (by decide)]
          exact ⟨rfl,rfl,rfl,by simp⟩
        have hE':∀(i:Nat) (hi:i<(show List Int from xs).length),∃ds,Cells (hp w) b (q+i * K.size (.int .u8)) ds/\Ow (hp w) R.own (bG cx Z J F w R.tags) (.int .u8) ((show List Int from xs)[i]) ds (ay.getD i []):=hE
        obtain ⟨r4,r5⟩:=Ug (w':=w.freeze ⟨b,arr.size,none⟩ 1) (ys:=xs) H hr hv hka hq hf rfl ⟨Ng.1,Ng.2.1,Ng.2.2.1⟩ (by rw [Ng.2.2.2]; exact bN _)
          (fun b' hne=>by
            by_cases hbb:b'=b
            · subst hbb
              exact ⟨aj5,by unfold jS; rw [hb]⟩
            · exact absurd (g1 b' hbb) hne)
          (fun ok=>by
            unfold Ow
            rw [aj he]
            refine ⟨some ⟨b,q,none⟩,n,c,e1,e2,e3, .inr ⟨b,q,arr,lo',hi',rfl,g2,g3,hs,ay,hl,hpm,fun i hi=>?_⟩⟩
            obtain ⟨ds,k1,k2⟩:=hE' i hi
            exact ⟨ds,fun j hj=>by rw [hcell]; exact k1 j hj,k2⟩)
        have hrun:(execOp a.eval o).run P w=.ok (.value (a.eval x)) (w.freeze ⟨b,arr.size,none⟩ 1):=by
          simp only [execOp,ho,ev,dO,ala,fU,fA]
        show dG P cx o a w (aC [Wr.s d (.one (.ref r g))] (aJ Z r (uu R e' (.int .u8) xs)))
        exact o7 (x:=.one (.ref r g)) r4 hd hdn hrun (r5 g (a.eval x) (by omega) hu) ⟨_,fE .., .inr (by show g<=R.g; omega)⟩
    · exact h5.elim
  | _=>exact h.elim
theorem aiy (hT:fJ P T) (H:Rel cx Z J F a w) (hd:o.dst=some d) (hdn:d<cx.nt) (h:(UC T o d fun ws=>(.ret ws:Prog (List Wr))).ends Z ws):dG P cx o a w (aC ws Z):=by
  unfold UC at h
  split at h
  · rename_i t x lo hi mx ho
    exact air hT H hd hdn h ho
  · rename_i c ho
    split at h
    · rename_i hcb
      obtain ⟨vs,h1,h2,h⟩:=xe H h
      split at h
      · split at h
        · rename_i ht0
          rw [bz h]
          exact aiq hT H hd hdn ho hcb h1 ht0
        · exact h.elim
      · exact h.elim
    · rename_i hcb
      obtain ⟨vs,h1,h2,h⟩:=xe H h
      split at h
      · split at h
        · rename_i ht0 ht1
          exact ah9 hT H hd hdn ho hcb h1 ht0 ht1 h
        · exact h.elim
      · exact h.elim
    · rename_i hcb
      obtain ⟨vs,h1,h2,h⟩:=xe H h
      split at h
      · split at h
        · rename_i ht0 ht1
          exact aia hT H hd hdn ho hcb h1 (h2 _ (by simp)) ht0 ht1 h
        · exact h.elim
      · exact h.elim
    · exact h.elim
  · rename_i t ps ho
    exact aij hT H hd hdn h ho
  · rename_i s t x ho
    split at h
    · rename_i hty
      rcases bD h with ⟨hst,h9⟩ | ⟨_,h9⟩
      · have hst:=bC hst
        obtain ⟨u,h1,h2,h9⟩:=jT H h9
        exact ah7 hT H hd hdn (by rw [ho,hst]) hty h1 h9
      · exact h9.elim
    · exact h.elim
  · exact h.elim
end
theorem NK {p:List Stp}:∀{q:List Stp},qd p q=true->z_ p=z_ q->p=q:=by
  induction p with
  | nil=>intro q h _; cases q with
    | nil=>rfl
    | cons s q=>cases s <;> simp [qd] at h
  | cons s p ih=>
    intro q h hi
    cases q with
    | nil=>cases s <;> simp [qd] at h
    | cons u q=>
      cases s with
      | aZ n=>
        cases u with
        | aZ m=>
          simp only [qd,bg] at h
          rw [bC h.1,ih h.2 hi]
        | idx j=>simp [qd] at h
      | idx i=>
        cases u with
        | aZ m=>simp [qd] at h
        | idx j=>
          simp only [z_,jw] at hi
          rw [hi.1,ih h hi.2]
theorem Td {p:List Stp}:∀{q:List Stp},qd p q=true->p.all Stp.kL=true->q.all Stp.kL=true:=by
  induction p with
  | nil=>intro q h _; cases q with
    | nil=>rfl
    | cons s q=>cases s <;> simp [qd] at h
  | cons s p ih=>
    intro q h hi
    cases q with
    | nil=>cases s <;> simp [qd] at h
    | cons u q=>
      cases s with
      | idx i=>simp [Stp.kL] at hi
      | aZ n=>
        cases u with
        | idx j=>simp [qd] at h
        | aZ m=>
          simp only [qd,bg] at h
          simp only [List.all_cons,bg] at hi ⊢
          exact ⟨rfl,ih h.2 hi.2⟩
theorem Fa {p:List Stp}:p.all Stp.kL=true->z_ p=[]:=by
  induction p with
  | nil=>intro _; rfl
  | cons s p ih=>
    intro h
    simp only [List.all_cons,bg] at h
    cases s with
    | aZ n=>exact ih h.2
    | idx i=>exact absurd h.1 (by simp [Stp.kL])
section
variable {P:Program} {T:bH} {cx:Cx} {Z:St} {J:aH} {F:List Nat} {a:Act} {w:World} {o:Oper} {d:Nat} {ws:List Wr} {r:Nat} {R:Root}
theorem Uf {t e:TypeId} {kk:K} (hT:dn P T t (.sl e kk)) (H:Rel cx Z J F a w) (hr:aU Z r R) (hv:cB Z R) {p:List Stp} {xs ys:List (El kk)} {z:Dat} (hg:aB p R.k R.x=some ⟨.sl e kk,xs⟩) (hz:cz p R.k R.x ⟨.sl e kk,ys⟩=some z) (dh:bX p R.k R.x)
    (hown:∀t∈az p R.k,aa t R.own=true) (hall:∀t∈(K.sl e kk).tys,aa t R.own=true) {cs1:List Value} {b o:Nat} (hn:aT (hp w) p R.k (J.hdr r) (aK J R r)=some (cs1,some (b,o))) {v:Value} (kF:∃bv nv cv,v=.slice bv nv cv) {lw:List TypeId} (Cw:iV R p∈lw)
    (how:∀aX ok,Ow (hp w) R.own ok (.sl e kk) xs cs1 aX->aX.Nodup->(∀b∈aX,b∈J.fo r)->∃ft,ft.Nodup/\(∀b∈ft,b∈aX\/b∈F)/\Ow (hp w) R.own (fun _=>False) (.sl e kk) ys [v] ft) :
    ∃w',(Instr.storeAt t (.pointer (some ⟨b,o,none⟩)) v).run P w=.ok () w'/\∃J' F',Rel cx (aJ Z r (je R z R.own R.tags lw (K.sl e kk).tys R.keep)) J' F' a w':=by
  have K0:=H.roots r R hr
  have hnt:=H.gy r R hr.1
  obtain ⟨_,_,hbb,⟨arr,te,lo,hi,hb,hf,hs,hlast⟩,_⟩:=xy H hr hv hg dh hown hn
  have hone:∀u∈[v],u.oneCell'=true:=by
    intro u hu
    simp only [gI] at hu
    subst hu
    obtain ⟨bv,nv,cv,rfl⟩:=kF
    rfl
  have alp:VC (.sl e kk) v [v]:=by
    obtain ⟨bv,nv,cv,rfl⟩:=kF
    exact ⟨rfl,by simp⟩
  have hrun:=ab5 (o:=o) hT hb hf (show [v].length=(K.sl e kk).size from rfl) hs alp hone
  obtain ⟨s1,s2,gG,s3,s4,s5,s6⟩:=FX b [v] w arr te (lo,hi) o hb hs
  have s7:=FY b [v] w o
  refine ⟨_,hrun, ?_⟩
  obtain ⟨fd,ok',aX,rest,jy,cu,hn',hpf,hd1,hty,_,iH,hwf,hgo⟩:=H.place hr hv (own':=R.own) hg dh (fun t h=>h) hown
  rw [hn] at hn'
  simp only [au,bS] at hn'
  obtain ⟨rfl,rfl⟩:=hn'
  have hnd:=K0.nd
  rw [jG,uR] at hnd
  have I_:=hpf.nodup hnd.2
  have Nf:∀b∈aX,b∈J.fo r:=fun b hb=>hpf.mem_iff.2 (bK _ (bK _ hb))
  obtain ⟨ft,akt,I4,aku⟩:=how aX ok' hd1 (cK.1 (cK.1 I_).1).1 Nf
  have lJ:b∉F:=H.fB r R hr b hbb
  have aj6:b∉ft:=fun h=>by
    rcases I4 b h with h | h
    · exact hwf b o rfl h
    · exact lJ h
  have hF':∀b',b'∈F.filter (fun b=>!aa b ft)↔b'∈F/\b'∉ft:=fun b'=>by rw [eF]; simp [gT]
  have hP:BH cx Z J F w r R p ⟨.sl e kk,xs⟩ R.own cs1 (some (b,o)) aX rest ⟨.sl e kk,ys⟩ z R.tags lw (K.sl e kk).tys R.keep ft (F.filter fun b=>!aa b ft) [v] (w.setCells b o [v]):=by
    refine ⟨hz,rfl,fun _ h=>h,⟨s7.1,s7.2.1,s7.2.2⟩,by omega,fun b' _ hne=>?_,fun b' o' e'=>?_,fun h=>by simp at h,rfl, .inl (fun h=>by rw [h] at Cw; simp at Cw),⟨fun _ h=>h,hnt.1,hnt.2.2⟩,fun b' hb'=>(I4 b' hb').imp id .inl,akt,fun b' hb'=>.inl ((hF' b').1 hb').1,H.iq.filter _,
      fun b' hb' h=>((hF' b').1 h).2 hb', .inl rfl, .inl rfl,fun _ q c0 w0 hpq uf hnq EU=>?_,fun J' Tn hblk hval=>?_⟩
    · refine .inr (.inr ?_)
      by_cases e:b'=b
      · subst e; exact ⟨o,rfl,Cw⟩
      · exact absurd (s1 b' e) hne
    · simp only [au,bS] at e'
      obtain ⟨rfl,rfl⟩:=e'
      refine ⟨fun i hi=>?_,arr,gG,te,(lo,hi),hb,s3,s4,fun i hi=>s6 i hi⟩
      unfold cellAt
      rw [s3]
      exact s5 i hi
    · cases q with
      | nil=>
        simp only [aT,au,bS] at hnq
        exact ⟨trivial,[v],by simp only [aT]; rw [hnq.2]⟩
      | cons s q=>
        cases s with
        | aZ n=>exact hpq.elim
        | idx i=>exact absurd (show e∈(K.sl e kk).tys by simp [K.tys]) (uf e (by simp [az])).2
    · exact j5 (lu hall) (dY (fun _ h=>h.elim) (fun _ h=>h) (fun b' hb'=>s1 b' (fun e=>aj6 (e▸hb'))) aku)
  obtain ⟨J',h,_⟩:=hgo hP
  exact ⟨J',_,h⟩
theorem aib (hT:fJ P T) (H:Rel cx Z J F a w) (hd:o.dst=none) {t:TypeId} {x y:Operand} (ho:o.op=.store t x y) {u:AV} {r n m:Nat} {p:List Stp} {k0:K} (hk0:T.ty t=some k0) (h1:aW cx Z J F w u (a.eval x)) (h2:dQ Z u) (h3:aW cx Z J F w (.nI r p n m) (a.eval y))
    (h:(QZ k0 u r p n m fun ws=>(.ret ws:Prog (List Wr))).ends Z ws):dG P cx o a w (aC ws Z):=by
  have ht:=hT.ty t k0 hk0
  cases k0 with
  | sl e kk=>
    cases u with
    | ptr r' p' h0=>
      simp only [QZ] at h
      rcases bD h with ⟨hc,h5⟩ | ⟨_,h5⟩
      · clear h
        simp only [bg] at hc
        obtain ⟨hix,h6⟩:=h5
        have er:=bC hc.1
        have ep:=NK hc.2 hix
        subst er ep
        obtain ⟨R,hr,hv,h7⟩:=iQ h6
        rcases bD h7 with ⟨hc2,h8⟩ | ⟨_,h8⟩
        · simp only [bg] at hc2
          obtain ⟨⟨⟨c1,c2⟩,c3⟩,c4⟩:=hc2
          have hall:=qH c4
          cases hg:aB p R.k R.x with
          | none=>rw [hg] at h8; exact h8.elim
          | some dd=>
            rw [hg] at h8
            simp only at h8
            cases hck:bU dd.1 (.sl e kk) dd.2 with
            | none=>rw [hck] at h8; exact h8.elim
            | some xs=>
              rw [hck] at h8
              simp only at h8
              obtain ⟨ek,ey⟩:=jl hck
              obtain ⟨dk,dx⟩:=dd
              simp only at ek ey
              subst ek
              simp only at ey
              subst ey
              cases hz:cz p R.k R.x ⟨.sl e kk,(show List (El kk) from xs).take m⟩ with
              | none=>rw [hz] at h8; exact h8.elim
              | some z=>
                rw [hz] at h8
                rw [bz h8]
                obtain ⟨b0,c,ev,h3⟩:=h3
                obtain ⟨dh,hown,q,wh,hn,hmq⟩:=h3 R hr.1 hv (bC c1) _ hg
                obtain ⟨_,cs,b,o',hn2,ep⟩:=h1.2 R hr.1 hv c3 hown (by rw [hg]; rfl)
                rw [hn] at hn2
                simp only [au,bS] at hn2
                obtain ⟨rfl,rfl⟩:=hn2
                obtain ⟨w',r1,J',F',r2⟩:=Uf (P:=P) ht H hr hv hg hz dh hown hall hn (v:=.slice b0 m c) ⟨_,_,_,rfl⟩ (lw:=iV R p :: (K.sl e kk).tys) (by simp) (fun aX ok hO hnd hsub=>by
                  unfold Ow at hO
                  have he:aa e R.own=true:=hall e (by simp [K.tys])
                  rw [aj he] at hO
                  obtain ⟨a0,n',c',e1,e2,e3,hO⟩:=hO
                  simp only [jw,ou,eX] at e1
                  obtain ⟨rfl,rfl,rfl⟩:=e1
                  have e2:q=@List.length (El kk) xs:=e2
                  have hmx:m<=@List.length (El kk) xs:=by omega
                  have hlen:(@List.take (El kk) m xs).length=m:=by rw [mZ]; omega
                  rcases hO with ⟨hc0,hf0⟩ | ⟨bb,o0,arr,lo,hi,ea,hb,hfr,hs,ay,hl,hp0,hO⟩
                  · refine ⟨[],mJ,by simp, ?_⟩
                    unfold Ow
                    rw [aj he]
                    exact ⟨b0,m,c,rfl,hlen.symm,by omega, .inl ⟨hc0,rfl⟩⟩
                  · have hl:ay.length=(show List (El kk) from xs).length:=hl
                    have jI:=hp0.nodup hnd
                    have SC:((ay.take m).flatten).Sublist ay.flatten:=by
                      have:(ay.take m++ay.drop m).flatten=ay.flatten:=by rw [BC]
                      rw [<-this,HZ]
                      exact List.sublist_append_left _ _
                    refine ⟨bb :: (ay.take m).flatten,(jg.2 ⟨fun h=>(jg.1 jI).1 (SC.subset h),(jg.1 jI).2.sublist SC⟩),fun b' hb'=>.inl (hp0.mem_iff.2 (by
                      rcases bT.1 hb' with h | h
                      · rw [h]; exact jE
                      · exact jD _ (SC.subset h))), ?_⟩
                    have IL:Ow (hp w) R.own (fun _=>False) (.sl e kk) (show List (El kk) from (show List (El kk) from xs).take m) [.slice b0 m c] (bb :: (ay.take m).flatten):=by
                      unfold Ow
                      rw [aj he]
                      refine ⟨b0,m,c,rfl,hlen.symm,by omega, .inr ⟨bb,o0,arr,lo,hi,ea,hb,hfr,hs,ay.take m,by show (ay.take m).length=((show List (El kk) from xs).take m).length; simp [hl], .refl _,fun i hi'=>?_⟩⟩
                      have hi2:i<((show List (El kk) from xs).take m).length:=hi'
                      have hi3:i<m/\i < @List.length (El kk) xs:=by
                        have h9:i<(@List.take (El kk) m xs).length:=hi'
                        rw [hlen] at h9; omega
                      obtain ⟨ds,g1,g2⟩:=hO i hi3.2
                      refine ⟨ds,g1, ?_⟩
                      have e1:(show List (El kk) from (show List (El kk) from xs).take m)[i]'hi'=(show List (El kk) from xs)[i]'hi3.2:=by
                        show ((show List (El kk) from xs).take m)[i]=_
                        simp
                      have e2:(ay.take m).getD i []=ay.getD i []:=by simp [ig,Ma,hi3.1]
                      rw [e1,e2]
                      exact j5 (lu (fun t ht=>hall t (by simp [K.tys,ht]))) g2
                    exact IL)
                refine ⟨undef,w',J',F', .inr ⟨?_,rfl⟩, ?_⟩
                · simp only [execOp,ho,ep,ev,dO,r1,fU,fA]
                · rw [hd]
                  exact r2
        · exact h8.elim
      · exact h5.elim
    | _=>exact h.elim
  | _=>exact h.elim
end
section
variable {P:Program} {T:bH} {cx:Cx} {Z:St} {J:aH} {F:List Nat} {a:Act} {w:World} {o:Oper} {d:Nat} {ws:List Wr} {r:Nat} {R:Root}
theorem ag2 {t u ty e:TypeId} {kk:K} (ht:dn P T t (.sl e kk)) {own:List TypeId} {ok:Nat->Prop} {xs:List (El kk)} {b:Option Addr} {n c:Nat} {x:Value} {gQ:List Nat} {news:List Value}
    (hO:Ow (hp w) own ok (.sl e kk) xs [.slice b n c] gQ) (hown:aa e own=true) (hS:Src P w kk.size u x 1 news) (hb:(xs.length+1) * T.bytes e<=140737488355328) :
    ∃w' b1 o1 c1 arr lo hi,(Builtin.append_ #[t,u] ty #[.slice b n c,x]).run P w=.ok (.slice (some ⟨b1,o1,none⟩) (n+1) c1) w'/\(w'.os=w.os/\w'.tape=w.tape/\w'.output=w.output)/\w.heap.size<=w'.heap.size/\n+1<=c1/\n=xs.length/\
      hp w' b1=some (.cells arr e (lo,hi))/\jq arr.size lo hi/\o1+c1 * kk.size<=arr.size/\Cells (hp w') b1 (o1+n * kk.size) news/\(∀b',b'<w.heap.size->b'≠b1->hp w' b'=hp w b')/\
      ((b=some ⟨b1,o1,none⟩/\c=c1/\b1∈gQ/\jS (hp w) b1=some e/\mM (hp w) (hp w') b1 (o1+n * kk.size) kk.size)\/
       (b1=w.heap.size/\w.heap.size<w'.heap.size/\(0<n->∃b0 o0,b=some ⟨b0,o0,none⟩/\b0∈gQ/\∀i,i<n * kk.size->cellAt (hp w') b1 (o1+i)=cellAt (hp w) b0 (o0+i)))):=by
  have hnl:news.length=kk.size:=by simpa using hS.nl
  unfold Ow at hO
  rw [aj hown] at hO
  obtain ⟨a,n',c',e1,e2,e3,hO⟩:=hO
  simp only [jw,ou,eX] at e1
  obtain ⟨rfl,rfl,rfl⟩:=e1
  have e2':n=xs.length:=e2
  by_cases hr:n+1<=c
  · have hrun:=Ob (ty:=ty) ht hS (b:=b) (n:=n) hr
    rcases hO with ⟨hc0,_⟩ | ⟨bb,q,arr,lo,hi,ea,hbk,hf,hs,mU,hl0,hp0,hO⟩
    · omega
    · subst ea
      have hle:(n+1) * kk.size<=c * kk.size:=kD _ hr
      rw [iR,m_] at hle
      have hst:=JX (P:=P) (o:=q+n * kk.size) news hbk hf (by rw [hnl]; omega) hS.one
      simp only [Result.andThen,addr_add,hst] at hrun
      obtain ⟨s1,s2,gG,s3,s4,s5,s6⟩:=FX bb news w arr e (lo,hi) (q+n * kk.size) hbk (by rw [hnl]; omega)
      refine ⟨_,bb,q,c,gG,lo,hi,hrun,FY bb news w _,by omega,hr,e2',s3,by rw [s4]; exact hf,by rw [s4]; exact hs,fun i hi'=>?_,fun b' _ h=>s1 b' h, .inl ⟨rfl,rfl,hp0.mem_iff.2 (by simp),by unfold jS; rw [hbk],arr,gG,e,(lo,hi),hbk,s3,s4,fun i hi'=>?_⟩⟩
      · unfold cellAt
        rw [s3]
        exact s5 i hi'
      · exact s6 i (by rw [hnl]; exact hi')
  · obtain ⟨olds,ho1,ho2,ho3⟩:∃olds:List Value,olds.length=n * kk.size/\(Builtin.firstCells kk.size n (.slice b n c)).run P w.drew=.ok olds.toArray w.drew/\(0<n->∃b0 o0,b=some ⟨b0,o0,none⟩/\b0∈gQ/\∀i,i<n * kk.size->olds[i]?=cellAt (hp w) b0 (o0+i)):=by
      rcases hO with ⟨hc0,hf0⟩ | ⟨bb,q,arr,lo,hi,ea,hbk,hf,hs,mU,hl0,hp0,hO⟩
      · have hn0:n=0:=by omega
        subst hn0
        refine ⟨[],by simp, ?_,fun h=>by omega⟩
        cases b with
        | none=>exact Uk w.drew kk.size 0 0 c
        | some ad=>exact De (P:=P) w.drew kk.size 0 ad 0 c [] (by simp) (fun j v hj=>by simp at hj)
      · subst ea
        have hle:n * kk.size<=c * kk.size:=kD _ e3
        have hrow:=Gf (n:=n * kk.size) hbk (by omega:q+n * kk.size<=arr.size)
        have hrl:(iY (hp w) bb q (n * kk.size)).length=n * kk.size:=by simp [iY]
        refine ⟨iY (hp w) bb q (n * kk.size),hrl, ?_,fun _=>⟨bb,q,rfl,hp0.mem_iff.2 (by simp),fun i hi'=>(hrow i (by rw [hrl]; exact hi')).symm⟩⟩
        refine De (P:=P) w.drew kk.size n ⟨bb,q,none⟩ n c _ hrl (fun j v hj=>?_)
        rw [addr_add,zI]
        have:=hrow j (by rw [hrl]; have:=(qm.1 hj).1; rw [hrl] at this; exact this)
        rw [hj] at this
        exact this
    obtain ⟨nc,hnc,hrun⟩:=Uj (ty:=ty) ht hS ho2 hr (by rw [e2']; exact hb)
    have hnew:=ET w.drew (.cells (olds.toArray++news.toArray++Builtin.zeroCells (jC kk).cells (nc - (n+1))) e)
    have hold:∀b',b'<w.heap.size->hp (w.drew.alloc (.cells (olds.toArray++news.toArray++Builtin.zeroCells (jC kk).cells (nc - (n+1))) e)) b'=hp w b':=fun b' h=>CE w.drew _ h
    have hws:w.drew.heap.size=w.heap.size:=rfl
    rw [hws] at hnew
    have hsz2:(w.drew.alloc (.cells (olds.toArray++news.toArray++Builtin.zeroCells (jC kk).cells (nc - (n+1))) e)).heap.size=w.heap.size+1:=Array.size_push ..
    have hzl:(jC kk).cells.size=kk.size:=by
      rw [Ga ht.sl.2.1.shape]
      simpa using fM (Dl (h:=hp w) (own:=own) (ok:=ok) ht.sl.2.1.fV)
    have hcell:∀q,q<(olds++news).length->cellAt (hp (w.drew.alloc (.cells (olds.toArray++news.toArray++Builtin.zeroCells (jC kk).cells (nc - (n+1))) e))) w.heap.size (0+q)=(olds++news)[q]?:=by
      intro q hq
      unfold cellAt
      rw [hnew]
      simp only [om]
      rw [OA (by simpa using hq)]
      simp
    refine ⟨_,w.heap.size,0,nc,_,0,0,hrun,⟨rfl,rfl,rfl⟩,by omega,hnc,e2',hnew,jq.zero, ?_,fun i hi=>?_,fun b' h1 _=>hold b' h1, .inr ⟨rfl,by omega,fun hn=>?_⟩⟩
    · simp only [Array.size_append,D5,size_zeroCells,hzl,ho1,hnl]
      have h9:n * kk.size+kk.size+(nc - (n+1)) * kk.size=(n+1+(nc - (n+1))) * kk.size:=by rw [iR,iR,m_]
      rw [h9]
      have:n+1+(nc - (n+1))=nc:=by omega
      rw [this]
      omega
    · rw [nM,hcell _ (by rw [bV,ho1]; omega),xQ (by omega),ho1]
      congr 1
      omega
    · obtain ⟨b0,o0,z1,z2,z3⟩:=ho3 hn
      refine ⟨b0,o0,z1,z2,fun i hi=>?_⟩
      rw [hcell _ (by rw [bV,ho1]; omega),y9 (by rw [ho1]; exact hi)]
      exact z3 i hi
end
section
variable {P:Program} {T:bH} {cx:Cx} {Z:St} {J:aH} {F:List Nat} {a:Act} {w:World} {o:Oper} {d:Nat} {ws:List Wr} {r:Nat} {R:Root}
theorem agF {h h':Heap} {own:List TypeId} {ok ok':Nat->Prop} {e:TypeId} {kk:K} {xs:List (El kk)} {b1 o1 n c:Nat} {fo:List Nat} (hall:∀t∈(K.sl e kk).tys,aa t own=true) (hnd:fo.Nodup)
    (H:Ow h own ok (.sl e kk) xs [.slice (some ⟨b1,o1,none⟩) n c] fo) (hb1:b1∈fo) (hs:mM h h' b1 (o1+n * kk.size) kk.size) (ho:∀b∈fo,b≠b1->h' b=h b):Ow h' own ok' (.sl e kk) xs [.slice (some ⟨b1,o1,none⟩) n c] fo:=by
  have he:aa e own=true:=hall e (by simp [K.tys])
  unfold Ow at H ⊢
  rw [aj he] at H ⊢
  obtain ⟨a,n',c',e1,e2,e3,H⟩:=H
  simp only [jw,ou,eX] at e1
  obtain ⟨rfl,rfl,rfl⟩:=e1
  have e2':n=xs.length:=e2
  refine ⟨_,n,c,rfl,e2,e3, ?_⟩
  rcases H with ⟨hc0,hf0⟩ | ⟨bb,q,arr,lo,hi,ea,hbk,hf,hsz,ay,hl,hp,H⟩
  · rw [hf0] at hb1; simp at hb1
  · simp only [au,qK,eX] at ea
    obtain ⟨rfl,rfl⟩:=ea
    obtain ⟨ag8,gG,te,fr,s1,s2,s3,s4⟩:=hs
    rw [hbk] at s1
    simp only [au,Obj.cells.injEq] at s1
    obtain ⟨rfl,rfl,rfl⟩:=s1
    have jI:=hp.nodup hnd
    refine .inr ⟨b1,o1,gG,lo,hi,rfl,s2,by rw [s3]; exact hf,by rw [s3]; exact hsz,ay,hl,hp,fun i hi'=>?_⟩
    obtain ⟨ds,g1,g2⟩:=H i hi'
    have hds:=fM g2
    refine ⟨ds,fun j hj=>?_, ?_⟩
    · have:=g1 j hj
      unfold cellAt at this ⊢
      rw [hbk] at this
      rw [s2]
      simp only at this ⊢
      have hlt:(i+1) * kk.size<=n * kk.size:=kD _ (by have:i<xs.length:=hi'; omega)
      rw [iR,m_] at hlt
      rw [s4 _ (by omega)]
      exact this
    · refine j5 (lu (fun t ht=>hall t (by simp [K.tys,ht]))) (dY (ok:=fun _=>False) (ok':=fun _=>False) (fun _ h=>h.elim) (fun _ h=>h) (fun b' hb'=>?_) (j5 (lu (fun t ht=>hall t (by simp [K.tys,ht]))) g2))
      have hm:=vW hb'
      exact ho b' (hp.mem_iff.2 (jD _ hm)) (fun e=>(jg.1 jI).1 (e▸hm))
end
section
variable {P:Program} {T:bH} {cx:Cx} {Z:St} {J:aH} {F:List Nat} {a:Act} {w:World} {o:Oper} {d:Nat} {ws:List Wr} {r:Nat} {R:Root}
theorem ahZ (hT:fJ P T) (H:Rel cx Z J F a w) (hd:o.dst=some d) (hdn:d<cx.nt) {c:Call} (ho:o.op=.call c) (hcb:c.callee=.builtin .append) {u v:AV} {t:TypeId} {e1:TypeId} {k1:K} (hl:iN cx Z J F w [u,v] (c.args.toList.map a.eval))
    (hat:c.argTypes[0]?=some t) (ht1:(c.argTypes[1]?).bind T.ty=some (.sl e1 k1)) (h:(Qt T d t u v fun ws=>(.ret ws:Prog (List Wr))).ends Z ws):dG P cx o a w (aC ws Z):=by
  obtain ⟨x,y,hxy,hu,hv0⟩:=Oo hl
  obtain ⟨t2,ym,ht2⟩:=uy hT ht1
  unfold Qt at h
  split at h
  · rename_i e kk r p n0 rb gb hty
    have ht:=hT.ty t _ hty
    obtain ⟨B,Sw,hvB,h⟩:=iQ h
    rcases bD h with ⟨hc,h5⟩ | ⟨_,h5⟩
    · clear h
      simp only [bg,lC,gT] at hc
      obtain ⟨⟨⟨⟨⟨c1,c2⟩,c3⟩,c4⟩,c5⟩,c6⟩:=hc
      have hne:r≠rb:=fun e=>by rw [e] at c3; simp at c3
      have Ry:=qH c6
      cases hcB:bU B.k (.sl e kk) B.x with
      | none=>rw [hcB] at h5; exact h5.elim
      | some ys=>
        rw [hcB] at h5
        simp only at h5
        obtain ⟨R,hr,hv,h6⟩:=iQ h5
        rcases bD h6 with ⟨hc2,h7⟩ | ⟨_,h7⟩
        · clear h5 h6
          simp only [bg] at hc2
          obtain ⟨⟨⟨q1,q2⟩,q3⟩,q4⟩:=hc2
          have hall:=qH q3
          cases hg:aB p R.k R.x with
          | none=>rw [hg] at h7; exact h7.elim
          | some dd=>
            rw [hg] at h7
            simp only at h7
            cases hck:bU dd.1 (.sl e kk) dd.2 with
            | none=>rw [hck] at h7; exact h7.elim
            | some xs=>
              rw [hck] at h7
              simp only at h7
              obtain ⟨ek,ey⟩:=jl hck
              obtain ⟨dk,dx⟩:=dd
              simp only at ek ey
              subst ek
              simp only at ey
              subst ey
              cases hz:cz p R.k R.x ⟨.sl e kk,xs⟩ with
              | none=>rw [hz] at h7; exact h7.elim
              | some z=>
                rw [hz] at h7
                simp only at h7
                obtain ⟨⟨hy1,hbd⟩,h8⟩:=h7
                obtain ⟨hfr,h9⟩:=p9 h8
                rw [bz h9]
                obtain ⟨hkB,hVB⟩:=hv0 B Sw (bC c1)
                obtain ⟨Yq,eyB⟩:=jl hcB
                obtain ⟨H1,T1,hH,hcl⟩:=kill H Sw hkB hvB
                have hSr:Same Z J (aJ Z rb iE) (jr J rb) r:=lX hne
                have hr1:=(hSr.live R).2 hr
                have htB:∀n,(rb,n)∉R.tags:=fun n hn=>by
                  have:=eH.1 q4 _ hn
                  simp at this
                have hv1:cB (aJ Z rb iE) R:=⟨hv.1,by rw [wZ htB]; exact hv.2⟩
                obtain ⟨dh,hown,cs,wh,hn,jU⟩:=hu R hr.1 hv (bC q1) _ hg
                have hn1:aT (hp w) p R.k ((jr J rb).hdr r) (aK (jr J rb) R r)=some (cs,wh):=by rw [hSr.hdr,hSr.wh]; exact hn
                obtain ⟨fd,ok',aX,rest,jy,cu,hn',hpf,hd1,aox,_,iH,hwf,hgo⟩:=H1.place hr1 hv1 (own':=R.own) hg dh (fun t h=>h) hown
                rw [hn1] at hn'
                simp only [au,bS] at hn'
                obtain ⟨rfl,rfl⟩:=hn'
                have K1:=H1.roots r R hr1
                have hnd:=K1.nd
                rw [jG,uR] at hnd
                have I_:=hpf.nodup hnd.2
                have Nf:∀b∈aX,b∈(jr J rb).fo r:=fun b hb=>hpf.mem_iff.2 (bK _ (bK _ hb))
                have Zn:=(cK.1 (cK.1 I_).1).1
                have EM:∀b∈aX,b<w.heap.size:=fun b hb=>(K1.mine b (by rw [jG,mV]; exact .inr (Nf b hb))).1
                have Zm:∀b∈aX,b∉J.fo rb++F:=fun b hb=>H1.fB r R hr1 b (by rw [jG,mV]; exact .inr (Nf b hb))
                have hhd:∃b n c,a.eval x=.slice b n c/\cs=[.slice b n c]:=by
                  have hO:=hd1
                  unfold Ow at hO
                  rw [aj (hall e (by simp [K.tys]))] at hO
                  obtain ⟨b,n,c,e1,_⟩:=hO
                  have hV1:=jU.1
                  rw [e1] at hV1
                  simp only [jw,eX] at hV1
                  exact ⟨b,n,c,hV1.symm,e1⟩
                obtain ⟨b,n,cp,evx,rfl⟩:=hhd
                have hlen1 : @List.length (El kk) ys=1:=hy1
                have hOB:Ow (hp w) B.own (bG cx (aJ Z rb iE) (jr J rb) (J.fo rb++F) w B.tags) (.sl e kk) ys (J.hdr rb) (J.fo rb):=by
                  have h0:=hH.ow hcl
                  exact wS Yq eyB h0
                have ajR:VC (.sl e kk) (a.eval y) (J.hdr rb):=Yq▸hVB
                obtain ⟨news,hS,ay,hfl,yt,aks,hE⟩:=aa6 (P:=P) (u:=t2) (.inl ⟨_,ht2.sl.1⟩) ht.sl.2.1.fV ajR (Ry e (by simp [K.tys])) hOB hH.nd
                rw [hlen1] at hS
                have hnl:news.length=kk.size:=by simpa using hS.nl
                have Sd:0 < @List.length (El kk) ys:=by omega
                have hE0:=hE 0 Sd
                have hseg:iB news kk.size 0=news:=by
                  unfold iB
                  simp only [Nat.zero_mul,DY]
                  exact BD (by omega)
                rw [hseg] at hE0
                generalize hfe:ay.getD 0 []=fe at hE0
                have Nc:∀b∈fe,b∈J.fo rb:=fun b hb=>aks b (vW (by rw [hfe]; exact hb))
                have Zl:fe.Nodup:=by
                  have:ay=[fe]:=by
                    cases ay with
                    | nil=>simp [hlen1] at hfl
                    | cons f l=>cases l with
                      | nil=>simp at hfe; rw [hfe]
                      | cons _ _=>simp [hlen1] at hfl
                  rw [this] at yt
                  simpa using yt
                obtain ⟨w',b1,o1,c1',arr,lo,hi,hrun,hos,hsz,hnc,hnx,hblk1,Zp,hsize,hcells,hoth,hcase⟩:=ag2 (P:=P) (u:=t2) (ty:=o.type) (x:=a.eval y) ht hd1 (hall e (by simp [K.tys])) hS hbd
                obtain ⟨F',hF1,hF2,M5,Rz⟩:∃F':List Nat,(∀b∈F',b∈J.fo rb++F\/(w.heap.size<=b/\b<w'.heap.size))/\F'.Nodup/\(∀b∈J.fo rb++F,b∈F')/\(b1=w.heap.size->w.heap.size<w'.heap.size->b1∈F'):=by
                  by_cases hs:w.heap.size<w'.heap.size
                  · refine ⟨w.heap.size :: (J.fo rb++F),fun b hb=>?_,jg.2 ⟨fun hm=>?_,H1.iq⟩,fun b hb=>jD _ hb,fun e _=>by rw [e]; exact jE⟩
                    · rcases bT.1 hb with h | h
                      · exact .inr ⟨by omega,by omega⟩
                      · exact .inl h
                    · have:=(H1.fl _ hm).1; omega
                  · exact ⟨J.fo rb++F,fun b hb=>.inl hb,H1.iq,fun b hb=>hb,fun _ h=>absurd h hs⟩
                have akn:∀b∈aX,b∉F':=fun b hb hm=>by
                  rcases hF1 b hm with h | h
                  · exact Zm b hb h
                  · have:=EM b hb; omega
                have ZR:∀b',b'<w.heap.size->b'∉aX->hp w' b'=hp w b':=fun b' hlt hno=>hoth b' hlt (fun e=>by
                  rcases hcase with ⟨_,_,h,_⟩ | ⟨h,_⟩
                  · exact hno (e▸h)
                  · omega)
                have hP:BH cx (aJ Z rb iE) (jr J rb) (J.fo rb++F) w r R p ⟨.sl e kk,xs⟩ R.own [.slice b n cp] wh aX rest ⟨.sl e kk,xs⟩ z R.tags [e] (K.sl e kk).tys R.keep aX F' [.slice b n cp] w':=by
                  have hnt:=H1.gy r R hr1.1
                  refine ⟨hz,rfl,fun _ h=>h,hos,hsz,fun b' hlt hne'=>?_,fun b' o' e'=>?_,fun _=>rfl,rfl, .inl (by simp),⟨fun _ h=>h,hnt.1,hnt.2.2⟩,fun b' hb'=>.inl hb',Zn,fun b' hb'=>(hF1 b' hb').imp id .inl,hF2,akn, .inl rfl, .inl rfl,fun _ q c0 w0 hpq uf hnq EU=>?_,fun J' Tn hblk hval=>?_⟩
                  · refine .inr (.inl ?_)
                    by_cases e':b'=b1
                    · rcases hcase with ⟨_,_,h1,h2,_⟩ | ⟨h,_⟩
                      · exact ⟨e'▸h1,e,by simp,e'▸h2⟩
                      · omega
                    · exact absurd (hoth b' hlt e') hne'
                  · obtain ⟨m1,_,m2,⟨ag8,te,l0,h0,m3,_⟩,_⟩:=xy H1 hr1 hv1 hg dh hown (by rw [hn1,e'])
                    have hlt:=(K1.mine b' m2).1
                    have hs:=ZR b' hlt (hwf b' o' e')
                    exact ⟨m1.congr hs,mM.of_same _ _ m3 hs⟩
                  · cases q with
                    | nil=>
                      simp only [aT,au,bS] at hnq
                      exact ⟨trivial,[.slice b n cp],by simp only [aT]; rw [hnq.2]⟩
                    | cons s q=>
                      cases s with
                      | aZ n=>exact hpq.elim
                      | idx i=>exact absurd (show e∈(K.sl e kk).tys by simp [K.tys]) (uf e (by simp [az])).2
                  · rcases hcase with ⟨hb,_,h1,h2,h3⟩ | ⟨hb,_⟩
                    · rw [hb] at hd1 ⊢
                      refine agF hall Zn hd1 h1 h3 (fun b' hb' hne'=>hoth b' (EM b' hb') hne')
                    · exact j5 (lu hall) (dY (ok:=fun _=>False) (ok':=fun _=>False) (fun _ h=>h.elim) (fun _ h=>h) (fun b' hb'=>hoth b' (EM b' hb') (fun e=>by have:=EM b' hb'; omega)) (j5 (lu hall) hd1))
                obtain ⟨ku,hR2,RN,hb2,Sl,I4⟩:=hgo hP
                have q8:aG d 0≠r:=fun e=>by have:=hr.1; rw [<-e,hfr] at this; simp at this
                have hqB:aG d 0≠rb:=fun e=>by have:=Sw.1; rw [<-e,hfr] at this; simp at this
                have hq0:(aJ (aJ Z rb iE) r (je R z R.own R.tags [e] (K.sl e kk).tys R.keep)).roots (aG d 0)=none:=by
                  rw [jW _ _ q8,jW _ _ hqB]; exact hfr
                obtain ⟨yu,oG,R3,R4,R5,R6⟩:∃(yu:Value) (oG:List Nat),(∀b'∈oG,b'∈F')/\oG.Nodup/\
                    Ow (hp w') (e :: kk.tys) (fun _=>False) (zC e kk) ((show List (El kk) from ys).getD 0 kk.zero,(([]:List Unit),())) (news++[yu]) oG/\
                    ((b=some ⟨b1,o1,none⟩/\b1∈aX/\yu=.slice none 0 0/\cp=c1')\/(yu=.slice (some ⟨b1,o1,none⟩) 0 c1'/\b1∈oG/\(0<n->∃b0 o0,b=some ⟨b0,o0,none⟩/\b0∈aX/\∀i,i<n * kk.size->cellAt (hp w') b1 (o1+i)=cellAt (hp w') b0 (o0+i)))):=by
                  have Zk:∀b'∈fe,b'<w.heap.size:=fun b' hb'=>(H1.fl b' (bK _ (Nc b' hb'))).1
                  have aki:∀b'∈fe,b'∉aX:=fun b' hb' h=>Zm b' h (bK _ (Nc b' hb'))
                  have hy0:(show List (El kk) from ys).getD 0 kk.zero=@getElem (List (El kk)) Nat (El kk) _ _ ys 0 Sd:=oH Sd
                  have M7:Ow (hp w') (e :: kk.tys) (fun _=>False) kk ((show List (El kk) from ys).getD 0 kk.zero) news fe:=by
                    rw [hy0]
                    have h1:=j5 (ok':=fun _=>False) (lu (fun t ht=>Ry t (by simp [K.tys,ht]))) hE0
                    have h2:=dY (h':=hp w') (ok':=fun _=>False) (fun _ h=>h.elim) (fun _ h=>h) (fun b' hb'=>ZR b' (Zk b' hb') (aki b' hb')) h1
                    exact vv (fun t ht=>by rw [b_.2 (jD _ ht),Ry t (by simp [K.tys,ht])]) h2
                  rcases hcase with ⟨hb,hcc,h1,h2,h3⟩ | ⟨hb,hlt,hcp⟩
                  · refine ⟨.slice none 0 0,fe,fun b' hb'=>M5 b' (bK _ (Nc b' hb')),Zl, ?_, .inl ⟨hb,h1,rfl,hcc⟩⟩
                    exact ⟨news,[.slice none 0 0],fe,[],rfl,by simp,M7,[.slice none 0 0],[],[],[],rfl,by simp,FC,rfl,rfl⟩
                  · refine ⟨.slice (some ⟨b1,o1,none⟩) 0 c1',fe++[b1],fun b' hb'=>?_,cK.2 ⟨Zl,by simp,fun b' h1 b2 h2 e=>by
                        simp only [gI] at h2
                        subst h2
                        have:=Zk b' h1
                        omega⟩, ?_, .inr ⟨rfl,by simp,fun hn0=>?_⟩⟩
                    · rcases bW.1 hb' with h | h
                      · exact M5 b' (bK _ (Nc b' h))
                      · simp only [gI] at h
                        rw [h]
                        exact Rz hb hlt
                    · refine ⟨news,[.slice (some ⟨b1,o1,none⟩) 0 c1'],fe,[b1],rfl, .refl _,M7,[.slice (some ⟨b1,o1,none⟩) 0 c1'],[],[b1],[],rfl,by simp, ?_,rfl,rfl⟩
                      have hOs:Ow (hp w') (e :: kk.tys) (fun _=>False) (.sl e (.gap kk.size)) (show List (El (.gap kk.size)) from []) [.slice (some ⟨b1,o1,none⟩) 0 c1'] [b1]:=by
                        unfold Ow
                        rw [aj (b_.2 jE)]
                        exact ⟨_,0,c1',rfl,rfl,fT _, .inr ⟨b1,o1,arr,lo,hi,rfl,hblk1,Zp,hsize,[],rfl,by simp,fun i hi'=>absurd hi' (Nat.not_lt_zero _)⟩⟩
                      exact hOs
                    · obtain ⟨b0,o0,z1,z2,z3⟩:=hcp hn0
                      have hs0:hp w' b0=hp w b0:=hoth b0 (EM b0 z2) (fun e=>by have:=EM b0 z2; omega)
                      exact ⟨b0,o0,z1,z2,fun i hi'=>by rw [z3 i hi',BS hs0]⟩
                have hkq:(bL (zC e kk) ((show List (El kk) from ys).getD 0 kk.zero,(([]:List Unit),())) (e :: kk.tys) [] .anon).kind=.anon:=rfl
                obtain ⟨A1,A2⟩:=Eg (R':=bL (zC e kk) ((show List (El kk) from ys).getD 0 kk.zero,(([]:List Unit),())) (e :: kk.tys) [] .anon) hR2 hq0 (qb d 0) rfl (by simp [bL]) (fun t ht=>by simp [bL] at ht) (0,0) (news++[yu]) oG []
                  (fun b' hb'=>by rw [qV hkq] at hb'; exact ⟨R3 b' hb',by simp⟩) (by rw [qV hkq]; exact R4) (fun b' hb'=>by simp at hb') mJ
                  (fun _=>dY (fun _ h=>h.elim) (fun _ h=>h.elim) (fun _ _=>rfl) R5) (by simp [bL,K.size,hnl]) (fun b' o' hb'=>by rw [F8 hkq] at hb'; simp at hb')
                have EZ:(Builtin.append_ #[t,t2] o.type #[a.eval x,a.eval y]).run P w=.ok (.slice (some ⟨b1,o1,none⟩) (n+1) c1') w':=by rw [evx]; exact hrun
                refine o7 (x:=.one (.app r p (dS (e :: R.w)+dS ((K.sl e kk).tys++R.h)) (aG d 0))) A1 hd hdn (JW ho hcb hxy hat ym EZ) ?_ ?_
                · intro R2 RI ZY _ Q2 vO _
                  rw [jW _ _ q8.symm,fE] at RI
                  simp only [au] at RI
                  subst RI
                  obtain ⟨rfl,_⟩:=pq vO
                  have hv2:cB (aJ (aJ Z rb iE) r (je R z R.own R.tags [e] (K.sl e kk).tys R.keep)) (je R z R.own R.tags [e] (K.sl e kk).tys R.keep):=by
                    refine ⟨ZY.1, ?_⟩
                    have h0:=ZY.2
                    rw [wZ] at h0
                    · exact h0
                    · intro m hm
                      have hm':(aG d 0,m)∈R.tags:=hm
                      rcases (H.gy r R hr.1).1 _ hm' with h | ⟨Q,h1,_⟩
                      · simp only [qb] at h; simp at h
                      · simp only at h1; rw [hfr] at h1; simp at h1
                  have pg:=Sl c5 hv2
                  have hd2:(aR ku (aG d 0) (0,0) (news++[yu]) oG).hdr r=ku.hdr r:=upd_ne _ _ q8.symm
                  have hw2:aK (aR ku (aG d 0) (0,0) (news++[yu]) oG) (je R z R.own R.tags [e] (K.sl e kk).tys R.keep) r=aK ku (je R z R.own R.tags [e] (K.sl e kk).tys R.keep) r:=by
                    unfold aK; simp [aR,upd_ne _ _ q8.symm]
                  have hf2:(aR ku (aG d 0) (0,0) (news++[yu]) oG).fo r=ku.fo r:=upd_ne _ _ q8.symm
                  obtain ⟨g1,g2,g3,g4⟩:=YK (h:=hp w') p c4 hg hz rfl
                  refine ⟨e,kk,xs,wh,b,n,cp,news,yu,b1,o1,c1',arr,lo,hi,g1,g2,fun t ht=>?_,by rw [hd2,hw2]; exact pg,⟨rfl,rfl⟩,by simp [aR,upd_same],hnl,rfl,hnc,hblk1,Zp,hsize,hcells, ?_⟩
                  · have ht':t∈az p z.1:=ht
                    rw [g3] at ht'
                    simp at ht'
                  · rcases R6 with ⟨z1,z2,z3⟩ | ⟨z1,z2,z3⟩
                    · exact .inl ⟨z1,by rw [hf2]; exact I4 b1 z2,z3⟩
                    · refine .inr ⟨z1,by simp only [aR,upd_same]; exact z2,fun hn0=>?_⟩
                      obtain ⟨b0,o0,y1,y2,y3⟩:=z3 hn0
                      exact ⟨b0,o0,y1,by rw [hf2]; exact I4 b0 y2,y3⟩
                · refine ⟨⟨je R z R.own R.tags [e] (K.sl e kk).tys R.keep, ?_, .inr (bN _)⟩,_,fE ..⟩
                  rw [jW _ _ q8.symm,fE]
        · exact h7.elim
    · exact h5.elim
  · exact h.elim
end
section
variable {P:Program} {T:bH} {cx:Cx} {Z:St} {J:aH} {F:List Nat} {a:Act} {w:World} {o:Oper} {d:Nat} {ws:List Wr} {r:Nat} {R:Root}
theorem ah0 (hT:fJ P T) (H:Rel cx Z J F a w) (hd:o.dst=none) {t:TypeId} {x y:Operand} (ho:o.op=.store t x y) {u:AV} {r n q:Nat} {p:List Stp} {k0:K} (hk0:T.ty t=some k0) (h1:aW cx Z J F w u (a.eval x)) (h2:dQ Z u) (h3:aW cx Z J F w (.app r p n q) (a.eval y))
    (h:(Qu k0 u r p n q fun ws=>(.ret ws:Prog (List Wr))).ends Z ws):dG P cx o a w (aC ws Z):=by
  have ht:=hT.ty t k0 hk0
  cases k0 with
  | sl e kk=>
    cases u with
    | ptr r' p' h0=>
      simp only [Qu] at h
      rcases bD h with ⟨hc,h5⟩ | ⟨_,h5⟩
      · clear h
        simp only [bg,lC] at hc
        obtain ⟨⟨⟨c1,c2⟩,c3⟩,c4⟩:=hc
        have hne:r≠q:=fun e=>by rw [e] at c4; simp at c4
        have er:=bC c1
        have Nj:p'.all Stp.kL=true:=Td c2 c3
        have ep:=NK c2 (by rw [Fa c3,Fa Nj])
        subst er ep
        obtain ⟨Q,qD,oL,h6⟩:=iQ h5
        rcases bD h6 with ⟨tY,h7⟩ | ⟨_,h7⟩
        · clear h5 h6
          simp only [bg] at tY
          have RG:=qH tY.2
          cases qY:bU Q.k (zC e kk) Q.x with
          | none=>rw [qY] at h7; exact h7.elim
          | some yq=>
            rw [qY] at h7
            simp only at h7
            obtain ⟨R,hr,hv,h8⟩:=iQ h7
            rcases bD h8 with ⟨hcR,h9⟩ | ⟨_,h9⟩
            · clear h7 h8
              simp only [bg] at hcR
              obtain ⟨⟨⟨⟨d1,d2⟩,d3⟩,d4⟩,d5⟩:=hcR
              have hall:=qH d4
              cases hg:aB p R.k R.x with
              | none=>rw [hg] at h9; exact h9.elim
              | some dd=>
                rw [hg] at h9
                simp only at h9
                cases hck:bU dd.1 (.sl e kk) dd.2 with
                | none=>rw [hck] at h9; exact h9.elim
                | some xs=>
                  rw [hck] at h9
                  simp only at h9
                  obtain ⟨ek,ey⟩:=jl hck
                  obtain ⟨dk,dx⟩:=dd
                  simp only at ek ey
                  subst ek
                  simp only at ey
                  subst ey
                  cases hz:cz p R.k R.x ⟨.sl e kk,(show List (El kk) from xs)++[(show El kk from yq.1)]⟩ with
                  | none=>rw [hz] at h9; exact h9.elim
                  | some z=>
                    rw [hz] at h9
                    rw [bz h9]
                    obtain ⟨e',Fv,xs',wh,b,n',c,ce,hq,b1,o1,cc,arr,lo,hi,a1,a2,a3,a4,⟨a5,akd⟩,a6,a7,a8,a9,Ef,vI,a12,Qr,BO⟩:=h3 R hr.1 hv (bC d1) Q qD (bC tY.1)
                    rw [hg] at a1
                    simp only [au,Sigma.mk.injEq,K.sl.injEq] at a1
                    obtain ⟨⟨rfl,rfl⟩,a1⟩:=a1
                    have a1:=eq_of_heq a1
                    subst a1
                    obtain ⟨H1,T1,hH,hcl⟩:=kill H qD akd oL
                    have hSr:Same Z J (aJ Z q iE) (jr J q) r:=lX hne
                    have hr1:=(hSr.live R).2 hr
                    have uf:∀m,(q,m)∉R.tags:=fun m hm=>by
                      have:=eH.1 d5 _ hm
                      simp at this
                    have hv1:cB (aJ Z q iE) R:=⟨hv.1,by rw [wZ uf]; exact hv.2⟩
                    obtain ⟨_,cs,bA,oA,hn2,eA⟩:=h1.2 R hr.1 hv d3 a3 (by rw [hg]; rfl)
                    rw [a4] at hn2
                    simp only [au,bS] at hn2
                    obtain ⟨rfl,rfl⟩:=hn2
                    have hn1:aT (hp w) p R.k ((jr J q).hdr r) (aK (jr J q) R r)=some ([.slice b n' c],some (bA,oA)):=by rw [hSr.hdr,hSr.wh]; exact a4
                    obtain ⟨zM,Cg⟩:=jl qY
                    have nG:Ow (hp w) Q.own (bG cx (aJ Z q iE) (jr J q) (J.fo q++F) w Q.tags) (zC e kk) yq (ce++[hq]) (J.fo q):=by
                      have h0:=wS zM Cg (hH.ow hcl)
                      rw [a6] at h0
                      exact h0
                    obtain ⟨c1',c2',f1,f2,ec,hpq,tX,hO2⟩:=nG
                    have hlc:=fM tX
                    have hcc:=List.append_inj ec (by rw [a7,hlc])
                    obtain ⟨rfl,rfl⟩:=hcc
                    obtain ⟨c3',c4',f3,f4,Yp,akZ,hO3,hO4⟩:=hO2
                    have hpn:=hpq.nodup hH.nd
                    have ZN:=cK.1 hpn
                    have RY:∀b'∈f1,b'∈J.fo q:=fun b' hb'=>hpq.mem_iff.2 (bK _ hb')
                    have ajC:Ow (hp w) R.own (fun _=>False) kk yq.1 ce f1:=vv (fun t ht=>by rw [hall t (by simp [K.tys,ht]),RG t (jD _ ht)]) (j5 (lu (fun t ht=>RG t (jD _ ht))) tX)
                    have ajZ:b1∉f1\/b1∈J.fo r:=by
                      rcases BO with ⟨_,z2,_⟩ | ⟨z1,z2,_⟩
                      · exact .inr z2
                      · refine .inl fun hm=>?_
                        have hlen3:=fM hO3
                        have hc3:c3'=[hq]/\c4'=[]:=by
                          cases c3' with
                          | nil=>simp [K.size] at hlen3
                          | cons a l=>
                            simp only [kX,jw] at Yp
                            obtain ⟨rfl,h⟩:=Yp
                            have:=List.append_eq_nil_iff.1 h.symm
                            rw [this.1,this.2]
                            exact ⟨rfl,rfl⟩
                        rw [hc3.1,z1] at hO3
                        unfold Ow at hO3
                        rw [aj (RG e jE)] at hO3
                        obtain ⟨a',m',cm,g1,_,_,g4⟩:=hO3
                        simp only [jw,ou,eX] at g1
                        obtain ⟨rfl,rfl,rfl⟩:=g1
                        rcases g4 with ⟨g4,_⟩ | ⟨bb,q',_,_,_,g5,_,_,_,ay,_,g6,_⟩
                        · omega
                        · simp only [au,qK,eX] at g5
                          obtain ⟨rfl,rfl⟩:=g5
                          exact ZN.2.2 b1 hm b1 (akZ.mem_iff.2 (bK _ (g6.mem_iff.2 jE))) rfl
                    have IZ:∀b'∈(jr J q).fo r,b'∉J.fo q++F:=fun b' hb'=>H1.fB r R hr1 b' (by rw [jG,mV]; exact .inr hb')
                    obtain ⟨w',r1,J',F',r2⟩:=Uf (P:=P) ht H1 hr1 hv1 hg hz a2 a3 hall hn1 (v:=.slice (some ⟨b1,o1,none⟩) (n'+1) cc) ⟨_,_,_,rfl⟩ (lw:=[iV R p,e]) (by simp) (fun aX ok hO hnd hsub=>by
                      have he:aa e R.own=true:=hall e (by simp [K.tys])
                      unfold Ow at hO
                      rw [aj he] at hO
                      obtain ⟨a0,n2,c2,e1,e2,e3,hO⟩:=hO
                      simp only [jw,ou,eX] at e1
                      obtain ⟨rfl,rfl,rfl⟩:=e1
                      have e2:n'=@List.length (El kk) xs:=e2
                      obtain ⟨ay,hfl,hfs,hfn,hfe⟩:∃ay:List (List Nat),ay.length=@List.length (El kk) xs/\(∀b'∈ay.flatten,b'∈aX/\b'≠b1)/\ay.flatten.Nodup/\∀(i:Nat) (hi:i < @List.length (El kk) xs),∃ds,Cells (hp w) b1 (o1+i * kk.size) ds/\Ow (hp w) R.own ok kk (@getElem (List (El kk)) Nat (El kk) _ _ xs i hi) ds (ay.getD i []):=by
                        rcases hO with ⟨hc0,hf0⟩ | ⟨bb,q',gG,lo',hi',ea,hbk,hfz,hs,ay,hl,hp0,hO⟩
                        · have hx0 : @List.length (El kk) xs=0:=by omega
                          exact ⟨[],by simp [hx0],by simp,by simp,fun i hi=>by omega⟩
                        · have jI:=hp0.nodup hnd
                          have aow:bb∈(jr J q).fo r:=hsub bb (hp0.mem_iff.2 jE)
                          refine ⟨ay,hl,fun b' hb'=>⟨hp0.mem_iff.2 (jD _ hb'),fun eb=>?_⟩,(jg.1 jI).2,fun i hi=>?_⟩
                          · subst eb
                            rcases BO with ⟨z1,_,_⟩ | ⟨_,z2,_⟩
                            · rw [z1] at ea
                              simp only [au,qK,eX] at ea
                              rw [ea.1] at hb'
                              exact (jg.1 jI).1 hb'
                            · exact IZ b' (hsub b' (hp0.mem_iff.2 (jD _ hb'))) (bK _ z2)
                          · obtain ⟨ds,g1,g2⟩:=hO i hi
                            refine ⟨ds, ?_,g2⟩
                            rcases BO with ⟨z1,_,_⟩ | ⟨_,_,z3⟩
                            · rw [z1] at ea
                              simp only [au,qK,eX] at ea
                              rw [ea.1,ea.2]
                              exact g1
                            · obtain ⟨b0,o0,y1,_,y3⟩:=z3 (by omega)
                              rw [y1] at ea
                              simp only [au,qK,eX] at ea
                              obtain ⟨rfl,rfl⟩:=ea
                              have hdl:=fM g2
                              intro j hj
                              rw [<-g1 j hj,nM,y3 (i * kk.size+j) (by
                                have hb2:(i+1) * kk.size<=n' * kk.size:=kD _ (by omega)
                                rw [iR,m_] at hb2
                                omega), <-nM]
                      have aj0:b1∉f1:=by
                        rcases ajZ with h | h
                        · exact h
                        · intro hm
                          exact IZ b1 (by rw [hSr.fo]; exact h) (bK _ (RY b1 hm))
                      refine ⟨b1 :: (ay.flatten++f1),jg.2 ⟨fun hm=>?_,cK.2 ⟨hfn,ZN.1,fun b' h1' b2 h2' eb=>?_⟩⟩,fun b' hb'=>?_, ?_⟩
                      · rcases bW.1 hm with h | h
                        · exact (hfs b1 h).2 rfl
                        · exact aj0 h
                      · subst eb
                        exact IZ b' (hsub b' (hfs b' h1').1) (bK _ (RY b' h2'))
                      · rcases bT.1 hb' with h | h
                        · subst h
                          rcases BO with ⟨z1,_,_,z4⟩ | ⟨_,z2,_⟩
                          · refine .inl ?_
                            rcases hO with ⟨hc0,_⟩ | ⟨bb,q',_,_,_,ea,_,_,_,_,_,hp0,_⟩
                            · omega
                            · rw [z1] at ea
                              simp only [au,qK,eX] at ea
                              rw [ea.1]
                              exact hp0.mem_iff.2 jE
                          · exact .inr (bK _ z2)
                        · rcases bW.1 h with h | h
                          · exact .inl (hfs b' h).1
                          · exact .inr (bK _ (RY b' h))
                      · have IL:Ow (hp w) R.own (fun _=>False) (.sl e kk) (show List (El kk) from (show List (El kk) from xs)++[(show El kk from yq.1)]) [.slice (some ⟨b1,o1,none⟩) (n'+1) cc] (b1 :: (ay.flatten++f1)):=by
                          unfold Ow
                          rw [aj he]
                          have hlen:(@HAppend.hAppend (List (El kk)) (List (El kk)) (List (El kk)) _ xs [yq.1]).length=n'+1:=by rw [bV,e2]; rfl
                          refine ⟨_,n'+1,cc,rfl,hlen.symm,a9, .inr ⟨b1,o1,arr,lo,hi,rfl,Ef,vI,a12,ay++[f1],by show (ay++[f1]).length=_; rw [bV,hfl,hlen,e2]; rfl,by simp,fun i hi'=>?_⟩⟩
                          have hi2:i<(@HAppend.hAppend (List (El kk)) (List (El kk)) (List (El kk)) _ xs [yq.1]).length:=hi'
                          rw [hlen] at hi2
                          rw [IG]
                          by_cases hi0:i < @List.length (El kk) xs
                          · obtain ⟨ds,g1,g2⟩:=hfe i hi0
                            rw [aj (by rw [hfl]; exact hi0)]
                            have hx:(show List (El kk) from (show List (El kk) from xs)++[(show El kk from yq.1)])[i]'hi'=@getElem (List (El kk)) Nat (El kk) _ _ xs i hi0:=Bz hi0
                            rw [hx]
                            exact ⟨ds,g1,j5 (lu (fun t ht=>hall t (by simp [K.tys,ht]))) g2⟩
                          · have hin:i=n':=by omega
                            rw [aA (by rw [hfl]; exact hi0)]
                            have hx:(show List (El kk) from (show List (El kk) from xs)++[(show El kk from yq.1)])[i]'hi'=yq.1:=by
                              have:=@Md (El kk) xs [yq.1] i (by omega) hi'
                              refine this.trans ?_
                              simp
                            rw [hx]
                            have ale:i - ay.length=0:=by omega
                            rw [ale]
                            exact ⟨ce,by rw [hin]; exact Qr,ajC⟩
                        exact IL)
                    refine ⟨undef,w',J',F', .inr ⟨?_,rfl⟩, ?_⟩
                    · simp only [execOp,ho,eA,a8,dO,r1,fU,fA]
                    · rw [hd]
                      exact r2
            · exact h9.elim
        · exact h7.elim
      · exact h5.elim
    | _=>exact h.elim
  | _=>exact h.elim
end
section
variable {P:Program} {T:bH} {cx:Cx} {Z:St} {J:aH} {F:List Nat} {a:Act} {w:World} {o:Oper} {d:Nat} {ws:List Wr} {r:Nat} {R:Root}
theorem amr {h h':Heap}:∀{p:List Stp} {k:K} {cs:List Value} {wh:Option (Nat×Nat)},p.all Stp.kL=true->aT h' p k cs wh=aT h p k cs wh:=by
  intro p
  induction p with
  | nil=>intro k cs wh _; rfl
  | cons s p ih=>
    intro k cs wh hp
    cases s with
    | idx i=>simp [Stp.kL] at hp
    | aZ n=>
      have hp':p.all Stp.kL=true:=by simpa [Stp.kL] using hp
      cases k with
      | st c=>
        simp only [aT]
        cases bO n c with
        | none=>rfl
        | some q=>exact ih hp'
      | _=>rfl
theorem ag1 {t u ty e:TypeId} {kk:K} (ht:dn P T t (.sl e kk)) {b:Option Addr} {n c m:Nat} {x:Value} {news:List Value} (hnc:n<=c)
    (hrow:c=0\/∃bb q arr lo hi,b=some ⟨bb,q,none⟩/\hp w bb=some (.cells arr e (lo,hi))/\jq arr.size lo hi/\q+c * kk.size<=arr.size) (hS:Src P w kk.size u x m news) (hb:(n+m) * T.bytes e<=140737488355328) :
    ∃w' b1 c1,(Builtin.append_ #[t,u] ty #[.slice b n c,x]).run P w=.ok (.slice b1 (n+m) c1) w'/\(w'.os=w.os/\w'.tape=w.tape/\w'.output=w.output)/\w.heap.size<=w'.heap.size/\n+m<=c1/\
      (c1=0\/∃bb o1 arr lo hi,b1=some ⟨bb,o1,none⟩/\hp w' bb=some (.cells arr e (lo,hi))/\jq arr.size lo hi/\o1+c1 * kk.size<=arr.size/\Cells (hp w') bb (o1+n * kk.size) news/\
        (∀i,i<n * kk.size->∃b0 o0,b=some ⟨b0,o0,none⟩/\cellAt (hp w') bb (o1+i)=cellAt (hp w) b0 (o0+i))/\((c≠0/\b=some ⟨bb,o1,none⟩)\/(bb=w.heap.size/\w.heap.size<w'.heap.size)))/\
      (∀b',b'<w.heap.size->(c=0\/∀o',b≠some ⟨b',o',none⟩)->hp w' b'=hp w b'):=by
  have hnl:=hS.nl
  by_cases hr:n+m<=c
  · have hrun:=Ob (ty:=ty) ht hS (b:=b) (n:=n) hr
    rcases (show c=0\/(c≠0/\∃bb q arr lo hi,b=some ⟨bb,q,none⟩/\hp w bb=some (.cells arr e (lo,hi))/\jq arr.size lo hi/\q+c * kk.size<=arr.size) from by
      by_cases h:c=0
      · exact .inl h
      · exact .inr ⟨h,hrow.resolve_left h⟩) with hc0 | ⟨hc0,bb,q,arr,lo,hi,eb,hbk,hf,hs⟩
    · have hm0:m=0:=by omega
      have hn0:n=0:=by omega
      subst hm0 hn0
      have hnn:news=[]:=sW (by rw [hnl]; simp)
      subst hnn
      refine ⟨w,b,c, ?_,⟨rfl,rfl,rfl⟩,bN _,hr, .inl hc0,fun _ _ _=>rfl⟩
      rw [hrun]
      cases b with
      | none=>rfl
      | some ad=>simp [storeCells,Result.andThen]
    · subst eb
      have hle:(n+m) * kk.size<=c * kk.size:=kD _ hr
      rw [iR] at hle
      have hst:=JX (P:=P) (o:=q+n * kk.size) news hbk hf (by rw [hnl]; omega) hS.one
      simp only [Result.andThen,addr_add,hst] at hrun
      obtain ⟨s1,s2,gG,s3,s4,s5,s6⟩:=FX bb news w arr e (lo,hi) (q+n * kk.size) hbk (by rw [hnl]; omega)
      refine ⟨_,_,c,hrun,FY bb news w _,by omega,hr, .inr ⟨bb,q,gG,lo,hi,rfl,s3,by rw [s4]; exact hf,by rw [s4]; exact hs,fun i hi'=>?_,fun i hi'=>⟨bb,q,rfl, ?_⟩, .inl ⟨hc0,rfl⟩⟩,fun b' _ h=>s1 b' (fun e=>(h.resolve_left hc0) q (by rw [e]))⟩
      · unfold cellAt
        rw [s3]
        exact s5 i hi'
      · unfold cellAt
        rw [s3,hbk]
        exact s6 (q+i) (by omega)
  · obtain ⟨olds,ho1,ho2,ho3⟩:∃olds:List Value,olds.length=n * kk.size/\(Builtin.firstCells kk.size n (.slice b n c)).run P w.drew=.ok olds.toArray w.drew/\∀i,i<n * kk.size->∃b0 o0,b=some ⟨b0,o0,none⟩/\olds[i]?=cellAt (hp w) b0 (o0+i):=by
      rcases hrow with hc0 | ⟨bb,q,arr,lo,hi,ea,hbk,hf,hs⟩
      · have hn0:n=0:=by omega
        subst hn0
        refine ⟨[],by simp, ?_,fun i h=>by simp at h⟩
        cases b with
        | none=>exact Uk w.drew kk.size 0 0 c
        | some ad=>exact De (P:=P) w.drew kk.size 0 ad 0 c [] (by simp) (fun j v hj=>by simp at hj)
      · subst ea
        have hle:n * kk.size<=c * kk.size:=kD _ hnc
        have hrow:=Gf (n:=n * kk.size) hbk (by omega:q+n * kk.size<=arr.size)
        have hrl:(iY (hp w) bb q (n * kk.size)).length=n * kk.size:=by simp [iY]
        refine ⟨iY (hp w) bb q (n * kk.size),hrl, ?_,fun i hi'=>⟨bb,q,rfl,(hrow i (by rw [hrl]; exact hi')).symm⟩⟩
        refine De (P:=P) w.drew kk.size n ⟨bb,q,none⟩ n c _ hrl (fun j v hj=>?_)
        rw [addr_add,zI]
        have:=hrow j (by rw [hrl]; have:=(qm.1 hj).1; rw [hrl] at this; exact this)
        rw [hj] at this
        exact this
    obtain ⟨nc,hnc',hrun⟩:=Uj (ty:=ty) ht hS ho2 hr hb
    have hnew:=ET w.drew (.cells (olds.toArray++news.toArray++Builtin.zeroCells (jC kk).cells (nc - (n+m))) e)
    have hold:∀b',b'<w.heap.size->hp (w.drew.alloc (.cells (olds.toArray++news.toArray++Builtin.zeroCells (jC kk).cells (nc - (n+m))) e)) b'=hp w b':=fun b' h=>CE w.drew _ h
    have hws:w.drew.heap.size=w.heap.size:=rfl
    rw [hws] at hnew
    have hsz2:(w.drew.alloc (.cells (olds.toArray++news.toArray++Builtin.zeroCells (jC kk).cells (nc - (n+m))) e)).heap.size=w.heap.size+1:=Array.size_push ..
    have hzl:(jC kk).cells.size=kk.size:=by
      rw [Ga ht.sl.2.1.shape]
      simpa using fM (Dl (h:=hp w) (own:=[]) (ok:=fun _=>True) ht.sl.2.1.fV)
    have hcell:∀q,q<(olds++news).length->cellAt (hp (w.drew.alloc (.cells (olds.toArray++news.toArray++Builtin.zeroCells (jC kk).cells (nc - (n+m))) e))) w.heap.size (0+q)=(olds++news)[q]?:=by
      intro q hq
      unfold cellAt
      rw [hnew]
      simp only [om]
      rw [OA (by simpa using hq)]
      simp
    refine ⟨_,_,nc,hrun,⟨rfl,rfl,rfl⟩,by omega,hnc', .inr ⟨w.heap.size,0,_,0,0,rfl,hnew,jq.zero, ?_,fun i hi=>?_,fun i hi=>?_, .inr ⟨rfl,by omega⟩⟩,fun b' h1 _=>hold b' h1⟩
    · simp only [Array.size_append,D5,size_zeroCells,hzl,ho1,hnl]
      have h9:n * kk.size+m * kk.size+(nc - (n+m)) * kk.size=(n+m+(nc - (n+m))) * kk.size:=by rw [iR,iR]
      rw [h9]
      have:n+m+(nc - (n+m))=nc:=by omega
      rw [this]
      omega
    · rw [nM,hcell _ (by rw [bV,ho1]; omega),xQ (by omega),ho1]
      congr 1
      omega
    · obtain ⟨b0,o0,z1,z3⟩:=ho3 i hi
      refine ⟨b0,o0,z1, ?_⟩
      rw [hcell _ (by rw [bV,ho1]; omega),y9 (by rw [ho1]; exact hi)]
      exact z3
theorem ab9 (H:Rel cx Z J F a w) (hd:o.dst=some d) (hdn:d<cx.nt) {c:Call} (ho:o.op=.call c) (hcb:c.callee=.builtin .append) {x y:Operand} (hxy:c.args.toList=[x,y]) {t t2 e:TypeId} (hat:c.argTypes[0]?=some t) (ym:c.argTypes[1]?=some t2)
    {kk:K} (ht:dn P T t (.sl e kk)) {p:List Stp} {xs:List (El kk)} {n q:Nat} {Q:Root} (hr:aU Z r R) (ug:R.dL=n) (hne:r≠q) (qD:aU Z q Q) (oL:cB Z Q) (Cv:Q.kind=.anon) (hfl:p.all Stp.kL=true)
    (hg:aB p R.k R.x=some ⟨.sl e kk,xs⟩) (dh:bX p R.k R.x) (hown:∀t∈az p R.k,aa t R.own=true) {b:Option Addr} {m cp:Nat} {wh:Option (Nat×Nat)} (hn:aT (hp w) p R.k (J.hdr r) (aK J R r)=some ([.slice b m cp],wh)) (hm:m=xs.length)
    {bx:Option Addr} {a0 tQ:Nat} (hx:a.eval x=.slice bx a0 tQ) (hxc:a0<=tQ)
    (hrow:tQ=0\/∃bb q' arr l u,bx=some ⟨bb,q',none⟩/\hp w bb=some (.cells arr e (l,u))/\jq arr.size l u/\q'+tQ * kk.size<=arr.size/\bb∈J.fo q)
    (hold:0<a0->∃bb q' b0 o0,bx=some ⟨bb,q',none⟩/\b=some ⟨b0,o0,none⟩/\b0∈J.fo r/\∀j i,j<a0->i<kk.size->cellAt (hp w) bb (q'+(j * kk.size+i))=cellAt (hp w) b0 (o0+(j * kk.size+i)))
    {lo hi:Nat} {news:List Value} (hS:Src P w kk.size t2 (a.eval y) (hi - lo) news)
    (hsc:∀i,i<hi - lo->∃b0 o0,b=some ⟨b0,o0,none⟩/\b0∈J.fo r/\Cells (hp w) b0 (o0+(lo+i) * kk.size) (iB news kk.size i))
    (hbd:(a0+(hi - lo)) * T.bytes e<=140737488355328) (hfr:Z.roots (aG d 0)=none) {A B:Nat} (Rv:A<=B/\B<=m/\a0+(hi - lo)=A+(m - B)) (hidx:∀j,j<a0+(hi - lo)->(if j<A then j else B+(j - A))=(if j<a0 then j else lo+(j - a0))) :
    dG P cx o a w (aC [.r q none, .r (aG d 0) (some (bL (.sl e (.gap kk.size)) (List.replicate (a0+(hi - lo)) ()) [e] [] .anon)), .s d (.one (.sel r p n (aG d 0) A B))] Z):=by
  obtain ⟨H1,T1,hH,_⟩:=kill H qD Cv oL
  have hSr:Same Z J (aJ Z q iE) (jr J q) r:=lX hne
  have hr1:=(hSr.live R).2 hr
  have ak9:∀b∈J.fo r,b<w.heap.size:=fun b hb=>((H.roots r R hr).mine b (by rw [jG,mV]; exact .inr hb)).1
  have hrF:∀b∈J.fo r,b∉J.fo q++F:=fun b hb=>H1.fB r R hr1 b (by rw [jG,mV,hSr.fo]; exact .inr hb)
  obtain ⟨w',b1,c1,hrun,hos,hsz,hnc,hres,hoth⟩:=ag1 (P:=P) (u:=t2) (ty:=o.type) (x:=a.eval y) ht (b:=bx) (n:=a0) (c:=tQ) hxc (by
    rcases hrow with h | ⟨bb,q',arr,l,u,h1,h2,h3,h4,_⟩
    · exact .inl h
    · exact .inr ⟨bb,q',arr,l,u,h1,h2,h3,h4⟩) hS hbd
  have Zb:∀b' o',bx=some ⟨b',o',none⟩->tQ≠0->b'∈J.fo q:=fun b' o' e' h0=>by
    rcases hrow with h | ⟨bb,q',arr,l,u,h1,_,_,_,h5⟩
    · exact absurd h h0
    · rw [h1] at e'
      simp only [au,qK,eX] at e'
      rw [<-e'.1]; exact h5
  have sF:∀b',b'<w.heap.size->hp w' b'≠hp w b'->b'∈J.fo q++F:=by
    intro b' hlt hne'
    by_cases h0:tQ=0
    · exact absurd (hoth b' hlt (.inl h0)) hne'
    · by_cases he:∃o',bx=some ⟨b',o',none⟩
      · obtain ⟨o',he⟩:=he
        exact bK _ (Zb b' o' he h0)
      · exact absurd (hoth b' hlt (.inr fun o' he'=>he ⟨o',he'⟩)) hne'
  obtain ⟨F2,hF1,hF2,M5,Rz⟩:∃F2:List Nat,(∀b∈F2,b∈J.fo q++F\/(w.heap.size<=b/\b<w'.heap.size))/\F2.Nodup/\(∀b∈J.fo q++F,b∈F2)/\(w.heap.size<w'.heap.size->w.heap.size∈F2):=by
    by_cases hs:w.heap.size<w'.heap.size
    · refine ⟨w.heap.size :: (J.fo q++F),fun b hb=>?_,jg.2 ⟨fun hm=>?_,H1.iq⟩,fun b hb=>jD _ hb,fun _=>jE⟩
      · rcases bT.1 hb with h | h
        · exact .inr ⟨by omega,by omega⟩
        · exact .inl h
      · have:=(H1.fl _ hm).1; omega
    · exact ⟨J.fo q++F,fun b hb=>.inl hb,H1.iq,fun b hb=>hb,fun h=>absurd h hs⟩
  have T2:=Fz (w':=w') (F':=F2) H1 hos hsz sF hF1 hF2
  have H2:=H1.mem T2
  have q8:aG d 0≠r:=fun e=>by have:=hr.1; rw [<-e,hfr] at this; simp at this
  have hqq:aG d 0≠q:=fun e=>by have:=qD.1; rw [<-e,hfr] at this; simp at this
  have hq0:(aJ Z q iE).roots (aG d 0)=none:=by rw [jW _ _ hqq]; exact hfr
  have hsame:∀b∈J.fo r,hp w' b=hp w b:=fun b hb=>kN fun h=>hrF b hb (sF b (ak9 b hb) h)
  obtain ⟨oG,R3,R4,R5,R6⟩:∃oG:List Nat,(∀b'∈oG,b'∈F2)/\oG.Nodup/\
      Ow (hp w') [e] (fun _=>False) (.sl e (.gap kk.size)) (show List (El (.gap kk.size)) from List.replicate (a0+(hi - lo)) ()) [.slice b1 (a0+(hi - lo)) c1] oG/\
      (c1≠0->∀bb o1,b1=some ⟨bb,o1,none⟩->bb∈oG):=by
    rcases hres with h0 | ⟨bb,o1,arr,l,u,h1,h2,h3,h4,h5,h6,h7⟩
    · refine ⟨[],by simp,mJ, ?_,fun h=>absurd h0 h⟩
      unfold Ow
      rw [aj (b_.2 (by simp))]
      exact ⟨b1,_,c1,rfl,by show _=(List.replicate _ ()).length; simp,hnc, .inl ⟨h0,rfl⟩⟩
    · by_cases hc1:c1=0
      · refine ⟨[],by simp,mJ, ?_,fun h=>absurd hc1 h⟩
        unfold Ow
        rw [aj (b_.2 (by simp))]
        exact ⟨b1,_,c1,rfl,by show _=(List.replicate _ ()).length; simp,hnc, .inl ⟨hc1,rfl⟩⟩
      · have aj4:bb∈F2:=by
          rcases h7 with ⟨h0,h7⟩ | ⟨h7,h8⟩
          · exact M5 _ (bK _ (Zb bb o1 h7 h0))
          · rw [h7]; exact Rz h8
        refine ⟨[bb],by simpa using aj4,by simp, ?_,fun _ bb' o' e'=>by rw [h1] at e'; simp only [au,qK,eX] at e'; simp [e'.1]⟩
        unfold Ow
        rw [aj (b_.2 (by simp))]
        refine ⟨b1,_,c1,rfl,by show _=(List.replicate _ ()).length; simp,hnc, .inr ⟨bb,o1,arr,l,u,h1,h2,h3,h4,List.replicate (a0+(hi - lo)) [],by show (List.replicate _ _).length=(List.replicate _ ()).length; simp,by simp,fun i hi'=>?_⟩⟩
        have hi2:i<a0+(hi - lo):=by
          have h9:i<(List.replicate (a0+(hi - lo)) ()).length:=hi'
          simpa using h9
        have hle:(i+1) * kk.size<=c1 * kk.size:=kD _ (by omega)
        rw [iR,m_] at hle
        have hgs:(K.gap kk.size).size=kk.size:=rfl
        rw [hgs]
        refine ⟨iY (hp w') bb (o1+i * kk.size) kk.size,Gf h2 (by omega), ?_⟩
        show Ow (hp w') [e] (fun _=>False) (.gap kk.size) () _ _
        exact ⟨by rw [Rp],by simp [iY]⟩
  have hkq:(bL (.sl e (.gap kk.size)) (show List (El (.gap kk.size)) from List.replicate (a0+(hi - lo)) ()) [e] [] .anon).kind=.anon:=rfl
  obtain ⟨A1,A2⟩:=Eg (R':=bL (.sl e (.gap kk.size)) (show List (El (.gap kk.size)) from List.replicate (a0+(hi - lo)) ()) [e] [] .anon) H2 hq0 (qb d 0) rfl (by simp [bL]) (fun t ht=>by simp [bL] at ht) (0,0) [.slice b1 (a0+(hi - lo)) c1] oG []
    (fun b' hb'=>by rw [qV hkq] at hb'; exact ⟨R3 b' hb',by simp⟩) (by rw [qV hkq]; exact R4) (fun b' hb'=>by simp at hb') mJ
    (fun _=>dY (fun _ h=>h.elim) (fun _ h=>h.elim) (fun _ _=>rfl) R5) rfl (fun b' o' hb'=>by rw [F8 hkq] at hb'; simp at hb')
  have EZ:(Builtin.append_ #[t,t2] o.type #[a.eval x,a.eval y]).run P w=.ok (.slice b1 (a0+(hi - lo)) c1) w':=by rw [hx]; exact hrun
  refine o7 (x:=.one (.sel r p n (aG d 0) A B)) A1 hd hdn (JW ho hcb hxy hat ym EZ) ?_ ?_
  · intro R2 hR2 _ _ Q2 vO _
    rw [jW _ _ q8.symm,jW _ _ hne,hr.1] at hR2
    simp only [au] at hR2
    subst hR2
    obtain ⟨rfl,_⟩:=pq vO
    have e1:(aR (jr J q) (aG d 0) (0,0) [.slice b1 (a0+(hi - lo)) c1] oG).hdr r=J.hdr r:=by simp [aR,jr,upd_ne _ _ q8.symm,upd_ne _ _ hne]
    have e2:aK (aR (jr J q) (aG d 0) (0,0) [.slice b1 (a0+(hi - lo)) c1] oG) R r=aK J R r:=by
      unfold aK
      simp [aR,jr,upd_ne _ _ q8.symm,upd_ne _ _ hne]
    have e3:(aR (jr J q) (aG d 0) (0,0) [.slice b1 (a0+(hi - lo)) c1] oG).fo r=J.fo r:=by simp [aR,jr,upd_ne _ _ q8.symm,upd_ne _ _ hne]
    refine ⟨e,kk,xs,wh,b,m,cp,b1,a0+(hi - lo),c1,hg,dh,hown,by rw [e1,e2,amr (h:=hp w) hfl]; exact hn,⟨rfl,rfl⟩,by simp [aR,upd_same],rfl,⟨Rv.1,Rv.2.1,hm,Rv.2.2⟩,fun hm0=>?_⟩
    rcases hres with h0 | ⟨bb,o1,arr,l,u,h1,h2,h3,h4,h5,h6,h7⟩
    · omega
    · obtain ⟨b0,o0,hb0,Y8⟩:∃b0 o0,b=some ⟨b0,o0,none⟩/\b0∈J.fo r:=by
        by_cases ha:0<a0
        · obtain ⟨_,_,b0,o0,_,z2,z3,_⟩:=hold ha
          exact ⟨b0,o0,z2,z3⟩
        · obtain ⟨b0,o0,z1,z2,_⟩:=hsc 0 (by omega)
          exact ⟨b0,o0,z1,z2⟩
      refine ⟨bb,o1,b0,o0,h1,hb0,by simp only [aR,upd_same]; exact R6 (by omega) bb o1 h1,by rw [e3]; exact Y8,fun j i hj hi'=>?_⟩
      rw [hidx j hj,BS (hsame b0 Y8)]
      by_cases hja:j<a0
      · rw [aj hja]
        obtain ⟨bb',q',b0',o0',z1,z2,_,z4⟩:=hold (by omega)
        rw [hb0] at z2
        simp only [au,qK,eX] at z2
        obtain ⟨rfl,rfl⟩:=z2
        have hlt:(j+1) * kk.size<=a0 * kk.size:=kD _ (by omega)
        rw [iR,m_] at hlt
        obtain ⟨bx',ox',y1,y2⟩:=h6 (j * kk.size+i) (by omega)
        rw [z1] at y1
        simp only [au,qK,eX] at y1
        obtain ⟨rfl,rfl⟩:=y1
        rw [y2]
        exact z4 j i hja hi'
      · rw [aA hja]
        have hk:j - a0<hi - lo:=by omega
        obtain ⟨b0',o0',z1,_,z3⟩:=hsc (j - a0) hk
        rw [hb0] at z1
        simp only [au,qK,eX] at z1
        obtain ⟨rfl,rfl⟩:=z1
        have hsl:=xz hS.nl hk
        have y1:=z3 i (by rw [hsl]; exact hi')
        rw [sM hi'] at y1
        have hlt:(j - a0+1) * kk.size<=(hi - lo) * kk.size:=kD _ (by omega)
        rw [iR,m_] at hlt
        have y2:=h5 ((j - a0) * kk.size+i) (by rw [hS.nl]; omega)
        have hj2:j * kk.size=a0 * kk.size+(j - a0) * kk.size:=by rw [<-iR]; congr 1; omega
        rw [show o1+(j * kk.size+i)=o1+a0 * kk.size+((j - a0) * kk.size+i) by omega,y2, <-y1,nM]
  · refine ⟨⟨R, ?_, .inr (by omega)⟩,_,fE ..⟩
    rw [jW _ _ q8.symm,jW _ _ hne]
    exact hr.1
theorem ait (hT:fJ P T) (H:Rel cx Z J F a w) (hd:o.dst=some d) (hdn:d<cx.nt) {c:Call} (ho:o.op=.call c) (hcb:c.callee=.builtin .append) {u:AV} {p:List Stp} {n lo hi sz:Nat} {t:TypeId} {e1:TypeId} {k1:K} (hl:iN cx Z J F w [u, .sub r p n lo hi sz] (c.args.toList.map a.eval))
    (hat:c.argTypes[0]?=some t) (ht1:(c.argTypes[1]?).bind T.ty=some (.sl e1 k1)) (h:(Uo T d t u r p n lo hi sz fun ws=>(.ret ws:Prog (List Wr))).ends Z ws):dG P cx o a w (aC ws Z):=by
  obtain ⟨x,y,hxy,hu,hv0⟩:=Oo hl
  obtain ⟨t2,ym,ht2⟩:=uy hT ht1
  unfold Uo at h
  split at h
  case h_2=>exact h.elim
  case h_1 e kk hty=>
    have ht:=hT.ty t _ hty
    obtain ⟨R,hr,hv,h⟩:=iQ h
    rcases bD h with ⟨hc,h5⟩ | ⟨_,h5⟩
    case inr=>exact h5.elim
    clear h
    simp only [bg] at hc
    obtain ⟨⟨⟨c1,c2⟩,c3⟩,c4⟩:=hc
    have hsz:=bC c1
    subst hsz
    have ug:=bC c2
    have hall:=qH c4
    cases hg:aB p R.k R.x with
    | none=>rw [hg] at h5; exact h5.elim
    | some dd=>
      rw [hg] at h5
      simp only at h5
      cases hck:bU dd.1 (.sl e kk) dd.2 with
      | none=>rw [hck] at h5; exact h5.elim
      | some xs=>
        rw [hck] at h5
        simp only at h5
        obtain ⟨ek,ey⟩:=jl hck
        obtain ⟨dk,dx⟩:=dd
        simp only at ek ey
        subst ek
        simp only at ey
        subst ey
        obtain ⟨b',b,m,cp,Yx,eb,e2,e3,e4,hsub⟩:=hv0
        obtain ⟨dh,hown,wh,hn⟩:=hsub R hr.1 hv ug _ hg
        obtain ⟨aX,hO,Zo⟩:=wo H hr hv hg dh hown hn
        obtain ⟨_,_,_,q1,hm,hmc⟩:=aci hO
        simp only [jw,ou,eX] at q1
        obtain ⟨rfl,rfl,rfl⟩:=q1
        have hm':m=@List.length (El kk) xs:=hm
        obtain ⟨news,hS,hsc⟩:∃news,Src P w kk.size t2 (a.eval y) (hi - lo) news/\∀i,i<hi - lo->∃b0 o0,b=some ⟨b0,o0,none⟩/\b0∈J.fo r/\Cells (hp w) b0 (o0+(lo+i) * kk.size) (iB news kk.size i):=by
          by_cases h0:0<hi - lo
          · have hO2:=hO
            unfold Ow at hO2
            rw [aj (hall e (by simp [K.tys]))] at hO2
            obtain ⟨a1,n1,c1',q1,q2,q3,hO2⟩:=hO2
            simp only [jw,ou,eX] at q1
            obtain ⟨rfl,rfl,rfl⟩:=q1
            rcases hO2 with ⟨hc0,_⟩ | ⟨b0,o0,arr,l,u',ea,hbk,hf,hs,ay,hl0,hp0,hE⟩
            · omega
            · subst ea
              have ey':b'=some ⟨b0,o0+lo * kk.size,none⟩:=by rw [eb (.inr (by omega))]; simp [addr_add]
              rw [Yx,ey']
              obtain ⟨news,g1,g2⟩:=Uh (P:=P) (w:=w) (u:=t2) (size:=kk.size) (n:=hi - lo) (c:=cp - lo) (bb:=b0) (q:=o0+lo * kk.size) (.inl ⟨_,ht2.sl.1⟩) (fun i ds=>Cells (hp w) b0 (o0+(lo+i) * kk.size) ds) (fun i hi'=>by
                obtain ⟨ds,g1,g2⟩:=hE (lo+i) (by show lo+i < @List.length (El kk) xs; omega)
                refine ⟨ds,fM g2, ?_,Mq ht.sl.2.1.fV g2,g1⟩
                rw [nM, <-iR]
                exact g1)
              exact ⟨news,g1,fun i hi'=>⟨b0,o0,rfl,Zo b0 (hp0.mem_iff.2 jE),g2 i hi'⟩⟩
          · refine ⟨[], ?_,fun i hi'=>by omega⟩
            rw [Yx]
            have h1:hi - lo=0:=by omega
            rw [h1]
            exact J7 (.inl ⟨_,ht2.sl.1⟩) (by simp) (fun v hv=>by simp at hv) (fun h=>by omega)
        split at h5
        · rename_i q g
          obtain ⟨Q,qD,oL,h6⟩:=iQ h5
          rcases bD h6 with ⟨tY,h7⟩ | ⟨_,h7⟩
          · clear h5 h6
            simp only [bg,lC] at tY
            obtain ⟨⟨⟨d1,d2⟩,d3⟩,d4⟩:=tY
            have hne:r≠q:=fun e=>by rw [e] at d3; simp at d3
            cases qY:bU Q.k (.sl e kk) Q.x with
            | none=>rw [qY] at h7; exact h7.elim
            | some ys=>
              rw [qY] at h7
              simp only at h7
              obtain ⟨⟨g1,g2,g3⟩,h8⟩:=h7
              obtain ⟨hfr,h9⟩:=p9 h8
              rw [bz h9]
              obtain ⟨Cv,hVQ⟩:=hu Q qD (bC d1)
              obtain ⟨zM,Cg⟩:=jl qY
              have nG:=wS zM Cg ((H.roots q Q qD).ow oL)
              have ajU:VC (.sl e kk) (a.eval x) (J.hdr q):=zM▸hVQ
              unfold Ow at nG
              rw [aj d4] at nG
              obtain ⟨bx,a0,tQ,q1,q2,q3,nG⟩:=nG
              have hx:a.eval x=.slice bx a0 tQ:=by
                have:=ajU.1
                rw [q1] at this
                simpa using this.symm
              have g1' : @List.length (El kk) ys=0:=g1
              have ha0:a0=0:=by have:a0=@List.length (El kk) ys:=q2; omega
              subst ha0
              subst g2
              have hfin:=ab9 (P:=P) H hd hdn ho hcb hxy hat ym ht hr ug hne qD oL Cv c3 hg dh hown hn hm hx (fT _) (by
                rcases nG with ⟨h0,_⟩ | ⟨bb,q',arr,l,u',z1,z2,z3,z4,ay,_,z5,_⟩
                · exact .inl h0
                · exact .inr ⟨bb,q',arr,l,u',z1,z2,z3,z4,z5.mem_iff.2 jE⟩) (fun h=>by omega) hS hsc (by simpa using g3) hfr (A:=hi) (B:=m) ⟨by omega,bN _,by omega⟩ (fun j hj=>by
                  have:j<hi:=by omega
                  simp [this])
              simp only [om,Nat.sub_zero] at hfin
              rw [<-hm']
              exact hfin
          · exact h7.elim
        · rename_i r' p' n' q a' b''
          obtain ⟨Q,qD,oL,h6⟩:=iQ h5
          rcases bD h6 with ⟨tY,h7⟩ | ⟨_,h7⟩
          · clear h5 h6
            simp only [bg,lC] at tY
            obtain ⟨⟨⟨⟨⟨⟨d1,d2⟩,d3⟩,d4⟩,d5⟩,d6⟩,d7⟩:=tY
            have hne:r≠q:=fun e=>by rw [e] at d6; simp at d6
            have er:=bC d1
            have en:=bC d2
            have ep:=NK d3 (by rw [Fa c3,Fa (Td d3 c3)])
            subst er en ep
            cases qY:bU Q.k (.sl e (.gap kk.size)) Q.x with
            | none=>rw [qY] at h7; exact h7.elim
            | some ys=>
              rw [qY] at h7
              simp only at h7
              obtain ⟨⟨g1,g2,g3,g4,g5⟩,h8⟩:=h7
              obtain ⟨hfr,h9⟩:=p9 h8
              rw [bz h9]
              obtain ⟨e',Fv,xs',cu,bb,m',c',bq,m1,c1',s1,s2,s3,s4,⟨s5,skd⟩,s6,s7,⟨s8,s9,s10,s11⟩,s12⟩:=hu R hr.1 hv ug Q qD (bC d4)
              rw [hg] at s1
              simp only [au,Sigma.mk.injEq,K.sl.injEq] at s1
              obtain ⟨⟨rfl,rfl⟩,s1⟩:=s1
              have s1:=eq_of_heq s1
              subst s1
              rw [hn] at s4
              simp only [au,bS,jw,ou,eX] at s4
              obtain ⟨⟨rfl,rfl,rfl⟩,rfl⟩:=s4
              obtain ⟨zM,Cg⟩:=jl qY
              have nG:=wS zM Cg ((H.roots q Q qD).ow oL)
              rw [s6,s7] at nG
              unfold Ow at nG
              rw [aj d7] at nG
              obtain ⟨bx,a0,tQ,q1,q2,q3,nG⟩:=nG
              simp only [jw,ou,eX] at q1
              obtain ⟨rfl,rfl,rfl⟩:=q1
              have g3':hi=@List.length (El kk) xs:=g3
              have g4':b''=@List.length (El kk) xs:=g4
              have ha0:m1=a':=by omega
              subst ha0
              exact ab9 (P:=P) H hd hdn ho hcb hxy hat ym ht hr ug hne qD oL skd c3 hg dh hown hn hm s7 q3 (by
                rcases nG with ⟨h0,_⟩ | ⟨bb,q',arr,l,u',z1,z2,z3,z4,ay,_,z5,_⟩
                · exact .inl h0
                · exact .inr ⟨bb,q',arr,l,u',z1,z2,z3,z4,z5.mem_iff.2 jE⟩) (fun h=>by
                  obtain ⟨b1,o1,b0,o0,y1,y2,_,y4,y5⟩:=s12 h
                  exact ⟨b1,o1,b0,o0,y1,y2,y4,fun j i hj hi'=>by have:=y5 j i hj hi'; rw [aj hj] at this; exact this⟩) hS hsc g5 hfr (A:=m1) (B:=lo) ⟨g1,by omega,by omega⟩ (fun j hj=>rfl)
          · exact h7.elim
        · exact h5.elim
end
section
variable {P:Program} {T:bH} {cx:Cx} {Z:St} {J:aH} {F:List Nat} {a:Act} {w:World} {o:Oper} {d:Nat} {ws:List Wr} {r:Nat} {R:Root}
theorem aiw (hT:fJ P T) (H:Rel cx Z J F a w) (hd:o.dst=some d) (hdn:d<cx.nt) (h:(UB T o d fun ws=>(.ret ws:Prog (List Wr))).ends Z ws):dG P cx o a w (aC ws Z):=by
  unfold UB at h
  split at h
  · rename_i t ps ho
    obtain ⟨us,h1,h2⟩:=QF h
    rw [bz h2]
    exact aix hT H hd hdn h1 ho
  · rename_i c ho
    split at h
    · rename_i hcb
      obtain ⟨vs,h1,h2,h⟩:=xe H h
      split at h
      · split at h
        · rename_i hat ht1
          split at h
          · exact ait hT H hd hdn ho hcb h1 hat ht1 h
          · exact ahZ hT H hd hdn ho hcb h1 hat ht1 h
        · exact h.elim
      · exact h.elim
    · exact h.elim
  · rename_i t x ho
    exact ail hT H hd hdn ho h
  · exact h.elim
theorem anQ {β:Type} {l:List (List β)} {a b:Nat} (h:a<=b):(l.take a++l.drop b).flatten.Sublist l.flatten:=by
  have h1:(l.take a++l.drop b).Sublist l:=by
    have h2:(l.drop b).Sublist (l.drop a):=by
      rw [show b=a+(b - a) by omega, <-sV]
      exact List.drop_sublist _ _
    have h3:=P6 h2 (l.take a)
    rwa [BC] at h3
  clear h
  generalize l.take a++l.drop b=l' at h1
  induction h1 with
  | slnil=>exact List.Sublist.refl _
  | cons x h ih=>
    rw [lV]
    exact ih.trans (List.sublist_append_right _ _)
  | cons_cons x h ih=>
    rw [lV,lV]
    exact P6 ih _
theorem Yj {β:Type} {l:List β} {a b j:Nat} (h1:a<=b) (h2:b<=l.length) (hj:j<a+(l.length - b)):(l.take a++l.drop b)[j]?=l[if j<a then j else b+(j - a)]?:=by
  by_cases hja:j<a
  · rw [aj hja,y9 (by rw [mZ]; omega),Ma,aj hja]
  · rw [aA hja,xQ (by rw [mZ]; omega),mZ,Bw]
    congr 1
    omega
theorem Yk {β:Type} {l:List β} {a b:Nat} (h1:a<=b) (h2:b<=l.length):(l.take a++l.drop b).length=a+(l.length - b):=by
  rw [bV,mZ,wQ]
  omega
theorem aiu (hT:fJ P T) (H:Rel cx Z J F a w) (hd:o.dst=none) {t:TypeId} {x y:Operand} (ho:o.op=.store t x y) {u:AV} {r n q a' b':Nat} {p:List Stp} {k0:K} (hk0:T.ty t=some k0) (h1:aW cx Z J F w u (a.eval x)) (h2:dQ Z u) (h3:aW cx Z J F w (.sel r p n q a' b') (a.eval y))
    (h:(Uq k0 u r p n q a' b' fun ws=>(.ret ws:Prog (List Wr))).ends Z ws):dG P cx o a w (aC ws Z):=by
  have ht:=hT.ty t k0 hk0
  cases k0 with
  | sl e kk=>
    cases u with
    | ptr r' p' h0=>
      simp only [Uq] at h
      rcases bD h with ⟨hc,h5⟩ | ⟨_,h5⟩
      · clear h
        simp only [bg,lC] at hc
        obtain ⟨⟨⟨c1,c2⟩,c3⟩,c4⟩:=hc
        have hne:r≠q:=fun e=>by rw [e] at c4; simp at c4
        have er:=bC c1
        have Nj:p'.all Stp.kL=true:=Td c2 c3
        have ep:=NK c2 (by rw [Fa c3,Fa Nj])
        subst er ep
        obtain ⟨Q,qD,oL,h6⟩:=iQ h5
        rcases bD h6 with ⟨tY,h7⟩ | ⟨_,h7⟩
        · clear h5 h6
          simp only [bg] at tY
          cases qY:bU Q.k (.sl e (.gap kk.size)) Q.x with
          | none=>rw [qY] at h7; exact h7.elim
          | some yq=>
            rw [qY] at h7
            simp only at h7
            obtain ⟨R,hr,hv,h8⟩:=iQ h7
            rcases bD h8 with ⟨hcR,h9⟩ | ⟨_,h9⟩
            · clear h7 h8
              simp only [bg] at hcR
              obtain ⟨⟨⟨⟨d1,d2⟩,d3⟩,d4⟩,d5⟩:=hcR
              have hall:=qH d4
              cases hg:aB p R.k R.x with
              | none=>rw [hg] at h9; exact h9.elim
              | some dd=>
                rw [hg] at h9
                simp only at h9
                cases hck:bU dd.1 (.sl e kk) dd.2 with
                | none=>rw [hck] at h9; exact h9.elim
                | some xs=>
                  rw [hck] at h9
                  simp only at h9
                  obtain ⟨ek,ey⟩:=jl hck
                  obtain ⟨dk,dx⟩:=dd
                  simp only at ek ey
                  subst ek
                  simp only at ey
                  subst ey
                  cases hz:cz p R.k R.x ⟨.sl e kk,(show List (El kk) from xs).take a'++(show List (El kk) from xs).drop b'⟩ with
                  | none=>rw [hz] at h9; exact h9.elim
                  | some z=>
                    rw [hz] at h9
                    rw [bz h9]
                    obtain ⟨e',Fv,xs',wh,b,m,c,bq,m1,cq,s1,s2,s3,s4,⟨s5,skd⟩,s6,s7,⟨s8,s9,s10,s11⟩,s12⟩:=h3 R hr.1 hv (bC d1) Q qD (bC tY.1)
                    rw [hg] at s1
                    simp only [au,Sigma.mk.injEq,K.sl.injEq] at s1
                    obtain ⟨⟨rfl,rfl⟩,s1⟩:=s1
                    have s1:=eq_of_heq s1
                    subst s1
                    obtain ⟨H1,T1,hH,hcl⟩:=kill H qD skd oL
                    have hSr:Same Z J (aJ Z q iE) (jr J q) r:=lX hne
                    have hr1:=(hSr.live R).2 hr
                    have uf:∀m,(q,m)∉R.tags:=fun m hm=>by
                      have:=eH.1 d5 _ hm
                      simp at this
                    have hv1:cB (aJ Z q iE) R:=⟨hv.1,by rw [wZ uf]; exact hv.2⟩
                    obtain ⟨_,cs,bA,oA,hn2,eA⟩:=h1.2 R hr.1 hv d3 s3 (by rw [hg]; rfl)
                    rw [s4] at hn2
                    simp only [au,bS] at hn2
                    obtain ⟨rfl,rfl⟩:=hn2
                    have hn1:aT (hp w) p R.k ((jr J q).hdr r) (aK (jr J q) R r)=some ([.slice b m c],some (bA,oA)):=by rw [hSr.hdr,hSr.wh]; exact s4
                    obtain ⟨zM,Cg⟩:=jl qY
                    have nG:=wS zM Cg (hH.ow hcl)
                    rw [s6,s7] at nG
                    unfold Ow at nG
                    rw [aj tY.2] at nG
                    obtain ⟨bx,a0,tQ,q1,q2,q3,nG⟩:=nG
                    simp only [jw,ou,eX] at q1
                    obtain ⟨rfl,rfl,rfl⟩:=q1
                    have IZ:∀b'∈(jr J q).fo r,b'∉J.fo q++F:=fun b' hb'=>H1.fB r R hr1 b' (by rw [jG,mV]; exact .inr hb')
                    have hxl:m=@List.length (El kk) xs:=s10
                    have Nw:(@HAppend.hAppend (List (El kk)) (List (El kk)) (List (El kk)) _ (@List.take (El kk) a' xs) (@List.drop (El kk) b' xs)).length=m1:=by
                      rw [Yk s8 (by omega),s11,hxl]
                    obtain ⟨w',r1,J',F',r2⟩:=Uf (P:=P) ht H1 hr1 hv1 hg hz s2 s3 hall hn1 (v:=.slice bq m1 cq) ⟨_,_,_,rfl⟩ (lw:=iV R p :: (K.sl e kk).tys) (by simp) (fun aX ok hO hnd hsub=>by
                      have he:aa e R.own=true:=hall e (by simp [K.tys])
                      rcases nG with ⟨h0,_⟩ | ⟨bb,o1,arr,l,u',z1,z2,z3,z4,_,_,z5,_⟩
                      · refine ⟨[],mJ,by simp, ?_⟩
                        unfold Ow
                        rw [aj he]
                        exact ⟨bq,m1,cq,rfl,Nw.symm,q3, .inl ⟨h0,rfl⟩⟩
                      · have Y_:bb∈J.fo q:=z5.mem_iff.2 jE
                        unfold Ow at hO
                        rw [aj he] at hO
                        obtain ⟨b2,m2,c2,e1,e2,e3,hO⟩:=hO
                        simp only [jw,ou,eX] at e1
                        obtain ⟨rfl,rfl,rfl⟩:=e1
                        obtain ⟨ay,hfl,hfs,hfn,hfe⟩:∃ay:List (List Nat),ay.length=@List.length (El kk) xs/\(∀b'∈ay.flatten,b'∈aX)/\ay.flatten.Nodup/\∀(i:Nat) (hi:i < @List.length (El kk) xs),∃b0 o0 ds,b=some ⟨b0,o0,none⟩/\Cells (hp w) b0 (o0+i * kk.size) ds/\Ow (hp w) R.own ok kk (@getElem (List (El kk)) Nat (El kk) _ _ xs i hi) ds (ay.getD i []):=by
                          rcases hO with ⟨hc0,hf0⟩ | ⟨b0,o0,gG,lo',hi',ea,hbk,hfz,hs,ay,hl,hp0,hO⟩
                          · have hx0 : @List.length (El kk) xs=0:=by omega
                            exact ⟨[],by simp [hx0],by simp,by simp,fun i hi=>by omega⟩
                          · have jI:=hp0.nodup hnd
                            refine ⟨ay,hl,fun b' hb'=>hp0.mem_iff.2 (jD _ hb'),(jg.1 jI).2,fun i hi=>?_⟩
                            obtain ⟨ds,g1,g2⟩:=hO i hi
                            exact ⟨b0,o0,ds,ea,g1,g2⟩
                        have hsl:=anQ (l:=ay) (a:=a') (b:=b') s8
                        refine ⟨bb :: (ay.take a'++ay.drop b').flatten,jg.2 ⟨fun hm=>?_,hsl.nodup hfn⟩,fun b'' hb'=>?_, ?_⟩
                        · exact IZ bb (hsub bb (hfs bb (hsl.subset hm))) (bK _ Y_)
                        · rcases bT.1 hb' with h | h
                          · rw [h]; exact .inr (bK _ Y_)
                          · exact .inl (hfs b'' (hsl.subset h))
                        · have IL:Ow (hp w) R.own (fun _=>False) (.sl e kk) (show List (El kk) from (show List (El kk) from xs).take a'++(show List (El kk) from xs).drop b') [.slice bq m1 cq] (bb :: (ay.take a'++ay.drop b').flatten):=by
                            unfold Ow
                            rw [aj he]
                            refine ⟨_,m1,cq,rfl,Nw.symm,q3, .inr ⟨bb,o1,arr,l,u',z1,z2,z3,z4,ay.take a'++ay.drop b',by show (ay.take a'++ay.drop b').length=_; rw [Nw,Yk s8 (by rw [hfl]; omega),hfl,s11,hxl],by simp,fun i hi'=>?_⟩⟩
                            have hi2:i<(@HAppend.hAppend (List (El kk)) (List (El kk)) (List (El kk)) _ (@List.take (El kk) a' xs) (@List.drop (El kk) b' xs)).length:=hi'
                            have hi3:=hi2
                            rw [Nw] at hi3
                            obtain ⟨b1,o1',b0,o0,y1,y2,y3,y4,y5⟩:=s12 (by omega)
                            rw [z1] at y1
                            simp only [au,qK,eX] at y1
                            obtain ⟨rfl,rfl⟩:=y1
                            have hsi:(if i<a' then i else b'+(i - a')) < @List.length (El kk) xs:=by split <;> omega
                            obtain ⟨b0',o0',ds,x1,x2,x3⟩:=hfe _ hsi
                            rw [y2] at x1
                            simp only [au,qK,eX] at x1
                            obtain ⟨rfl,rfl⟩:=x1
                            have hx:(show List (El kk) from (show List (El kk) from xs).take a'++(show List (El kk) from xs).drop b')[i]'hi'=@getElem (List (El kk)) Nat (El kk) _ _ xs _ hsi:=by
                              have h8:=Yj (l:=(show List (El kk) from xs)) (a:=a') (b:=b') (j:=i) s8 (by show b'<=@List.length (El kk) xs; omega) (by show i<a'+(@List.length (El kk) xs - b'); omega)
                              have h9:=jd (l:=(show List (El kk) from xs)) hsi
                              rw [h9] at h8
                              obtain ⟨_,h8⟩:=qm.1 h8
                              exact h8
                            rw [hx]
                            have hfo:(ay.take a'++ay.drop b').getD i []=ay.getD (if i<a' then i else b'+(i - a')) []:=by
                              rw [ig,ig,Yj s8 (by omega) (by omega)]
                            rw [hfo]
                            have hdl:=fM x3
                            refine ⟨ds,fun j hj=>?_,j5 (lu (fun t ht=>hall t (by simp [K.tys,ht]))) x3⟩
                            rw [nM,y5 i j hi3 (by omega), <-nM]
                            exact x2 j hj
                          exact IL)
                    refine ⟨undef,w',J',F', .inr ⟨?_,rfl⟩, ?_⟩
                    · simp only [execOp,ho,eA,s7,dO,r1,fU,fA]
                    · rw [hd]
                      exact r2
            · exact h9.elim
        · exact h7.elim
      · exact h5.elim
    | _=>exact h.elim
  | _=>cases u <;> exact h.elim
theorem aiz (hT:fJ P T) (H:Rel cx Z J F a w) (hd:o.dst=none) {t:TypeId} {x y:Operand} (ho:o.op=.store t x y)
    (h:(eP x fun u=>eP y fun v=>UE T t u v fun ws=>(.ret ws:Prog (List Wr))).ends Z ws):dG P cx o a w (aC ws Z):=by
  obtain ⟨u,h1,h2,h⟩:=jT H h
  obtain ⟨v,h3,h4,h⟩:=jT H h
  unfold UE at h
  split at h
  · split at h
    · rename_i hk0
      exact aib hT H hd ho hk0 h1 h2 h3 h
    · exact h.elim
  · split at h
    · rename_i hk0
      exact ah0 hT H hd ho hk0 h1 h2 h3 h
    · exact h.elim
  · split at h
    · rename_i hk0
      exact aiu hT H hd ho hk0 h1 h2 h3 h
    · exact h.elim
  · exact aiA hT H hd ho h1 h2 h3 h4 h
end
end
section
open Go
variable [Fr]
section
variable {P:Program} {T:bH} {cx:Cx} {Z:St} {J:aH} {F:List Nat} {a:Act} {w:World}
structure Tk (cx:Cx) (Z:St) (J:aH) (F:List Nat) (a:Act) (w:World) (Z1:St) (aI:aH) (F1:List Nat) (ids:List Tag):Prop where
 rel:Rel cx Z1 aI F1 a w
 Oy:Views cx Z J F w Z1 aI F1 w
 same:∀t∈ids,Same Z J Z1 aI t.1
theorem Tk.sub {Z1:St} {aI:aH} {F1:List Nat} {ids ids':List Tag} (h:Tk cx Z J F a w Z1 aI F1 ids') (hs:∀t∈ids,t∈ids'):Tk cx Z J F a w Z1 aI F1 ids:=⟨h.rel,h.Oy,fun t ht=>h.same t (hs t ht)⟩
def xW (cx:Cx) (Z:St) (J:aH) (F:List Nat) (a:Act) (w:World) (k:K) (x:El k) (ids:List Tag) (v:Value):Prop:=
 ∃cs,VC k v cs/\∀Z1 aI F1,Tk cx Z J F a w Z1 aI F1 ids->Vw (hp w) (bG cx Z1 aI F1 w ids) k x cs
def rW (cx:Cx) (Z:St) (J:aH) (F:List Nat) (a:Act) (w:World) (k:K) (x:El k) (ids:List Tag) (v:Value):Prop:=
 ∃b o cs,v=.pointer (some ⟨b,o,none⟩)/\Cells (hp w) b o cs/\∀Z1 aI F1,Tk cx Z J F a w Z1 aI F1 ids->Vw (hp w) (bG cx Z1 aI F1 w ids) k x cs/\mE Z1 aI F1 w ids b
def wF (cx:Cx) (Z:St) (J:aH) (F:List Nat) (a:Act) (w:World) (ids:List Tag):(ks:List K)->Cont ks->List Value->Prop
 | [],_,[]=>True
 | k :: ks,c,v :: vs=>rW cx Z J F a w k c.1 ids v/\wF cx Z J F a w ids ks c.2 vs
 | _,_,_=>False
structure zi (cx:Cx) (Z:St) (J:aH) (w:World) (k:K) (x:El k) (ow:List TypeId) (i:bM) (wt ht:List TypeId) (r:Nat) (R:Root) (p:List Stp):Prop where
 wb:i.wb=some (r,p,wt,ht)
 ws:i.ws=[]
 ids:i.ids=R.tags
 lv:aU Z r R
 vl:cB Z R
 get:aB p R.k R.x=some ⟨k,x⟩
 pin:bX p R.k R.x
 own:∀t∈az p R.k,aa t R.own=true
 just:v_ k R.own ow=true
def rP (cx:Cx) (Z:St) (J:aH) (F:List Nat) (a:Act) (w:World):(ps:List aV)->Cont (kin ps)->List Value->List bM->List (Value×eU)->Prop
 | [],_,[],[],[]=>True
 | .val k _ :: ps,c,v :: vs,i :: is,ts=>(i.wb=none/\i.ws=[]/\i.bt=[]/\xW cx Z J F a w k c.1 i.ids v)/\rP cx Z J F a w ps c.2 vs is ts
 | .ro k :: ps,c,v :: vs,i :: is,ts=>(i.wb=none/\i.ws=[]/\i.bt=[]/\rW cx Z J F a w k c.1 i.ids v)/\rP cx Z J F a w ps c.2 vs is ts
 | .rw k ow wt ht :: ps,c,v :: vs,i :: is,ts=>(∃r R p,zi cx Z J w k c.1 ow i wt ht r R p/\i.bt=[iV R p]/\∃cs b o,aT (hp w) p R.k (J.hdr r) (aK J R r)=some (cs,some (b,o))/\v=.pointer (some ⟨b,o,none⟩))/\rP cx Z J F a w ps c.2 vs is ts
 | .bR k ow wt :: ps,c,v :: vs,i :: is,ts=>(∃r R p,zi cx Z J w k c.1 ow i wt k.tys r R p/\i.bt=[]/\∃cs wh,aT (hp w) p R.k (J.hdr r) (aK J R r)=some (cs,wh)/\VC k v cs)/\rP cx Z J F a w ps c.2 vs is ts
 | .own k ow :: ps,c,v :: vs,i :: is,q :: ts=>(q.1=v/\rX cx Z J F w v q.2/\i=⟨q.2.tags,none,q.2.ws,[]⟩/\(∃e:q.2.k=k,c.1=e▸q.2.x)/\v_ k q.2.own ow=true)/\rP cx Z J F a w ps c.2 vs is ts
 | .fn f ks :: ps,c,v :: vs,i :: is,ts=>(i.wb=none/\i.ws=[]/\i.bt=[]/\∃us:List Value,v=.func (.func f) #[] us.toArray/\wF cx Z J F a w i.ids ks (Cont.fst ks (kin ps) c) us)/\rP cx Z J F a w ps (Cont.snd ks (kin ps) c) vs is ts
 | .into _ p :: ps,c,v :: vs,i :: is,ts=>(i.wb=none/\i.ws=[]/\i.bt=[]/\∃b,v=.slice b 0 0)/\rP cx Z J F a w ps (Cont.snd (aV.into 0 p).kin (kin ps) c) vs is ts
 | _,_,_,_,_=>False
theorem II:∀(ks ls:List K) (c:Cont ks) (d:Cont ls),Cont.fst ks ls (Cont.app ks ls c d)=c
 | [],_,_,_=>rfl
 | _ :: ks,ls,c,d=>by show (c.1,Cont.fst ks ls (Cont.app ks ls c.2 d))=c; rw [II ks ls c.2 d]; rfl
theorem J4:∀(ks ls:List K) (c:Cont ks) (d:Cont ls),Cont.snd ks ls (Cont.app ks ls c d)=d
 | [],_,_,_=>rfl
 | _ :: ks,ls,c,d=>J4 ks ls c.2 d
theorem rW.mono {ids ids':List Tag} (h:∀t∈ids,t∈ids') {k:K} {x:El k} {v:Value} (H:rW cx Z J F a w k x ids v):rW cx Z J F a w k x ids' v:=by
 obtain ⟨b,o,cs,h1,h2,h3⟩:=H
 refine ⟨b,o,cs,h1,h2,fun Z1 aI F1 hT=>?_⟩
 obtain ⟨g1,g2⟩:=h3 Z1 aI F1 (hT.sub h)
 exact ⟨lN (fun _ _=>rfl) (fun b hb=>CW hb h) g1,amA g2 h⟩
theorem wF.mono {ids ids':List Tag} (h:∀t∈ids,t∈ids'):∀{ks:List K} {c:Cont ks} {vs:List Value},wF cx Z J F a w ids ks c vs->wF cx Z J F a w ids' ks c vs
 | [],_,[],_=>trivial
 | _ :: _,_,_ :: _,⟨h1,hh⟩=>⟨h1.mono h,wF.mono h hh⟩
 | [],_,_ :: _,hh=>hh.elim
 | _ :: _,_,[],hh=>hh.elim
theorem Tk.clean {Z1:St} {aI:aH} {F1:List Nat} {ids:List Tag} (h:Tk cx Z J F a w Z1 aI F1 ids) (tys:List TypeId):cO Z1 tys ids=cO Z tys ids:=rZ (fun t ht=>(h.same t ht).root)
theorem rW.aaW {bt:TypeId} {k:K} {x:El k} {T:List Tag} {v:Value} (h:wz cx Z J F w bt k x T v) (hw:gB Z T) (hc:cO Z (bt :: k.tys) T=true):rW cx Z J F a w k x T v:=by
 obtain ⟨b,o,cs,e,h1,h2,h3,h4⟩:=h.2 hc
 refine ⟨b,o,cs,e,h1,fun Z1 aI F1 hT=>?_⟩
 obtain ⟨b',o',cs',e',h1',h2',h3',_⟩:=(hT.Oy.ro hw h).2 (by rw [hT.clean]; exact hc)
 have:b'=b/\o'=o:=by rw [e] at e'; simpa using e'.symm
 obtain ⟨rfl,rfl⟩:=this
 have hcs:cs'=cs:=cells_eq h1 h1' ((nO h2').trans (nO h2).symm)
 subst hcs
 exact ⟨h2',h3'⟩
theorem rW.aaV (H:Rel cx Z J F a w) {r:Nat} {R:Root} {p:List Stp} {d:Dat} {cs:List Value} {b o:Nat} (hr:aU Z r R) (hv:cB Z R) (hg:aB p R.k R.x=some d) (dh:bX p R.k R.x) (hown:∀t∈az p R.k,aa t R.own=true)
  (hn:aT (hp w) p R.k (J.hdr r) (aK J R r)=some (cs,some (b,o))) (n:Nat):rW cx Z J F a w d.1 d.2 ((r,n) :: R.tags) (.pointer (some ⟨b,o,none⟩)):=by
 obtain ⟨hC,_⟩:=xy H hr hv hg dh hown hn
 refine ⟨b,o,cs,rfl,hC,fun Z1 aI F1 hT=>?_⟩
 have hS:=hT.same (r,n) (by simp)
 have hr1:=(hS.live R).2 hr
 have hv1:cB Z1 R:=⟨hv.1,by rw [rZ (fun t ht=>(hT.same t (by simp [ht])).root)]; exact hv.2⟩
 obtain ⟨_,⟨aX,hO,hf⟩,hbb,_,_⟩:=xy hT.rel hr1 hv1 hg dh hown (by rw [hS.hdr,hS.wh]; exact hn)
 have hq:∀b∈blk aI R r,mE Z1 aI F1 w ((r,n) :: R.tags) b:=fun b hb=>by
  refine ⟨((hT.rel.roots r R hr1).mine b hb).1,hT.rel.fB r R hr1 b hb,fun q Q hq hbq=>?_⟩
  by_cases e:q=r
  ·subst e; exact ⟨n,by simp⟩
  ·exact absurd hb (hT.rel.lQ q Q r R hq hr1 e b hbq)
 refine ⟨qp _ (fun b hb=>CW hb (fun t ht=>by simp [ht])) (fun b hb=>?_) hO,hq b hbb⟩
 have hbr:b∈blk aI R r:=bB _ (hf b hb)
 obtain ⟨q1,q2,q3⟩:=hq b hbr
 refine ⟨q1,q2,zU hT.rel hr1 (hf b hb),q3,fun h0=>?_⟩
 rcases ((hT.rel.roots r R hr1).mine b hbr).2 with h | ⟨j,pi,h1,h2⟩
 ·omega
 ·exact .inr ⟨j,pi,h1,h2⟩
theorem XL {A:Type} {z:A} (H:Rel cx Z J F a w) {x:AV} {v:Value} {k:(kk:K)->El kk->List Tag->Prog A} (hx:aW cx Z J F w x v) (hw:dQ Z x) (h:(qw x k).ends Z z) :
  ∃kk y T,xW cx Z J F a w kk y T v/\(k kk y T).ends Z z:=by
 have key:∀{r:Nat} {R:Root} {p:List Stp} {d:Dat} {cs:List Value} {wh:Option (Nat×Nat)},aU Z r R->cB Z R->aB p R.k R.x=some d->bX p R.k R.x->(∀t∈az p R.k,aa t R.own=true)->aT (hp w) p R.k (J.hdr r) (aK J R r)=some (cs,wh)->VC d.1 v cs->
   xW cx Z J F a w d.1 d.2 (R.out r d.1) v:=by
  intro r R p d cs wh hr hv hg h1 h2 h3 h4
  refine ⟨cs,h4,fun Z1 aI F1 hT=>?_⟩
  cases hf:d.1.flat with
  | true=>
   obtain ⟨aX,h5,_⟩:=wo H hr hv hg h1 h2 h3
   exact ni hf (qp (fun _=>True) (fun _ _=>trivial) (fun _ _=>trivial) h5)
  | false=>
   rcases NT R r hf with ho | ⟨ho,hn⟩
   ·rw [ho] at hT
    have hS:=hT.same (r,dS R.w) (by simp)
    have hr1:=(hS.live R).2 hr
    have hv1:cB Z1 R:=⟨hv.1,by rw [rZ (fun t ht=>(hT.same t (by simp [ht])).root)]; exact hv.2⟩
    obtain ⟨aX,h5,h6⟩:=wo hT.rel hr1 hv1 hg h1 h2 (by rw [hS.hdr,hS.wh]; exact h3)
    exact vZ hT.rel hr1 h5 h6
   ·obtain ⟨aX,h5,h6⟩:=wo H hr hv hg h1 h2 h3
    have hV:=vZ H hr h5 h6
    rw [ho] at hT hV ⊢
    exact hT.Oy.vw (H.gy r R hr.1).1 (by rw [hT.clean]; exact BU hv.2 (fun _ h=>h) (fun t ht=>Ov p hg h2 t ((Ke ht).resolve_right (by rw [hn t ht]; exact qM)))) (fun _ h=>h) hV
 cases x with
 | val kk y T=>
  obtain ⟨h1,h2⟩:=tN h
  obtain ⟨cs,h3,h4⟩:=hx (.inr h1)
  exact ⟨kk,y,T,⟨cs,h3,fun Z1 aI F1 hT=>hT.Oy.vw hw (by rw [hT.clean]; exact h1) (fun _ h=>h) h4⟩,h2⟩
 | ref r g=>
  obtain ⟨R,hr,hv,h⟩:=iQ h
  rcases bD h with ⟨hg,h⟩ | ⟨_,h⟩
  ·obtain ⟨_,h2⟩:=hx R hr (bC hg)
   exact ⟨R.k,R.x,R.out r R.k,key (p:=[]) (d:=⟨R.k,R.x⟩) hr hv rfl trivial (fun t ht=>by simp [az] at ht) rfl h2,h⟩
  ·exact h.elim
 | dZ r p n=>
  obtain ⟨R,hr,hv,h⟩:=iQ h
  rcases bD h with ⟨hg,h⟩ | ⟨_,h⟩
  ·cases fC:aB p R.k R.x with
   | none=>rw [fC] at h; exact h.elim
   | some d=>
    rw [fC] at h
    obtain ⟨h1,h2,cs,wh,h3,h4⟩:=hx R hr.1 hv (bC hg) d fC
    exact ⟨d.1,d.2,R.out r d.1,key hr hv fC h1 h2 h3 h4,h⟩
  ·exact h.elim
 | undef=>exact h.elim
 | fG=>exact h.elim
 | ptr r p n=>exact h.elim
 | fQ bt k x T=>exact h.elim
 | lZ _ _ _ _=>exact h.elim
 | pz _=>exact h.elim
 | part _ _ _ _ _=>exact h.elim
 | nI _ _ _ _=>exact h.elim
 | sub _ _ _ _ _ _=>exact h.elim
 | sel _ _ _ _ _ _=>exact h.elim
 | app _ _ _ _=>exact h.elim
 | kG=>exact h.elim
 | fn f cs=>exact h.elim
theorem xW.flat {k:K} {x:El k} {ids:List Tag} {v:Value} (hf:k.flat=true) (h:xW cx Z J F a w k x ids v) (H:Rel cx Z J F a w):xW cx Z J F a w k x [] v:=by
 obtain ⟨cs,h1,h2⟩:=h
 have h3:=h2 Z J F ⟨H,fun T tys _ h=>⟨h,fun b hb _=>⟨hb,rfl⟩,fun b hb _=>⟨hb,rfl⟩⟩,fun _ _=>vD ..⟩
 exact ⟨cs,h1,fun _ _ _ _=>ni hf h3⟩
theorem ahz {A:Type} {z:A}:∀{ks:List K} {l:List (TypeId×Dat×List Tag)} {vs:List Value} {k:Cont ks->List Tag->Prog A},nA cx Z J F w l vs->(∀c∈l,gB Z c.2.2)->(MO ks l k).ends Z z->
  ∃c T,wF cx Z J F a w T ks c vs/\(k c T).ends Z z:=by
 intro ks
 induction ks with
 | nil=>
  intro l vs k h1 h2 h
  cases l with
  | nil=>
   cases vs with
   | nil=>exact ⟨(),[],trivial,h⟩
   | cons v vs=>exact h1.elim
  | cons q l=>exact h.elim
 | cons kk ks ih=>
  intro l vs k h1 h2 h
  cases l with
  | nil=>exact h.elim
  | cons q l=>
   obtain ⟨t,d,tags⟩:=q
   cases vs with
   | nil=>exact h1.elim
   | cons v vs=>
    simp only [MO] at h
    obtain ⟨hc,h⟩:=tN h
    cases hk:bU d.1 kk d.2 with
    | none=>rw [hk] at h; exact h.elim
    | some x=>
     rw [hk] at h
     simp only at h
     obtain ⟨ek,ey⟩:=jl hk
     obtain ⟨c,T,g1,g2⟩:=ih h1.2 (fun c hc=>h2 c (by simp [hc])) h
     refine ⟨(x,c),lM tags T,⟨?_,g1.mono (fun t ht=>mD.2 (.inr ht))⟩,g2⟩
     obtain ⟨dk,dx⟩:=d
     simp only at ek ey h1
     subst ek
     subst ey
     exact (rW.aaW h1.1 (h2 _ jE) hc).mono (fun t ht=>mD.2 (.inl ht))
theorem ajo {A:Type} {z:A} (H:Rel cx Z J F a w):∀{ps:List aV} {nP:List AV} {vs:List Value} {k:Cont (kin ps)->List bM->Prog A},iN cx Z J F w nP vs->(∀v∈nP,dQ Z v)->(o9 ps nP k).ends Z z->
  ∃c is ts,rP cx Z J F a w ps c vs is ts/\(k c is).ends Z z:=by
 intro ps
 induction ps with
 | nil=>
  intro nP vs k h1 _ h
  cases nP with
  | nil=>
   cases vs with
   | nil=>exact ⟨(),[],[],trivial,h⟩
   | cons v vs=>exact h1.elim
  | cons x nP=>exact h.elim
 | cons p ps ih=>
  intro nP vs k h1 h2 h
  cases nP with
  | nil=>
   cases p with
   | into j q=>cases q <;> exact h.elim
   | _=>exact h.elim
  | cons x nP=>
   cases vs with
   | nil=>exact h1.elim
   | cons v vs=>
    have h2':∀v∈nP,dQ Z v:=fun v hv=>h2 v (by simp [hv])
    cases p with
    | val kk bE=>
     have hgo:∀(y:El kk) (tags:List Tag),xW cx Z J F a w kk y tags v->
       (o9 ps nP fun c is=>k (y,c) (⟨tags,none,[],[]⟩ :: is)).ends Z z->∃c is ts,rP cx Z J F a w (.val kk bE :: ps) c (v :: vs) is ts/\(k c is).ends Z z:=by
      intro y tags hy h
      obtain ⟨c,is,ts,g1,g2⟩:=ih h1.2 h2' h
      exact ⟨(y,c),⟨tags,none,[],[]⟩ :: is,ts,⟨⟨rfl,rfl,rfl,hy⟩,g1⟩,g2⟩
     have hval:(qw x fun k' x tags=>match bU k' kk x with
       | some y=>o9 ps nP fun c is=>k (y,c) (⟨bif kk.flat then [] else tags,none,[],[]⟩ :: is)
       | none=>.fail).ends Z z->∃c is ts,rP cx Z J F a w (.val kk bE :: ps) c (v :: vs) is ts/\(k c is).ends Z z:=by
      intro h
      obtain ⟨k',y,Tg,f1,f5⟩:=XL H h1.1 (h2 x (by simp)) h
      cases hc:bU k' kk y with
      | none=>rw [hc] at f5; exact f5.elim
      | some y'=>
       rw [hc] at f5
       obtain ⟨ek,ey⟩:=jl hc
       subst ek
       simp only at ey
       subst ey
       cases hf:k'.flat with
       | true=>
        rw [hf] at f5
        exact hgo _ _ (f1.flat hf H) f5
       | false=>
        rw [hf] at f5
        exact hgo _ _ f1 f5
     cases x with
     | fG=>
      cases kk with
      | sl e kk=>
       obtain ⟨b,rfl⟩:=h1.1
       exact hgo [] [] ⟨[.slice b 0 0],J3,fun _ _ _ _=>⟨b,0,0,rfl,rfl,bN _,fun h=>by omega⟩⟩ h
      | _=>exact h.elim
     | undef=>exact hval h
     | val _ _ _=>exact hval h
     | ref _ _=>exact hval h
     | dZ _ _ _=>exact hval h
     | ptr _ _ _=>exact hval h
     | fQ _ _ _ _=>exact hval h
     | lZ _ _ _ _=>exact hval h
     | pz _=>exact hval h
     | part _ _ _ _ _=>exact hval h
     | nI _ _ _ _=>exact hval h
     | sub _ _ _ _ _ _=>exact hval h
     | sel _ _ _ _ _ _=>exact hval h
     | app _ _ _ _=>exact hval h
     | kG=>exact hval h
     | fn _ _=>exact hval h
    | ro kk=>
     simp only [o9] at h
     have hgo:∀(d:Dat) (tags:List Tag),rW cx Z J F a w d.1 d.2 tags v->(match bU d.1 kk d.2 with
       | some y=>o9 ps nP fun c is=>k (y,c) (⟨tags,none,[],[]⟩ :: is)
       | none=>.fail).ends Z z->∃c is ts,rP cx Z J F a w (.ro kk :: ps) c (v :: vs) is ts/\(k c is).ends Z z:=by
      intro d tags hd h
      cases hc:bU d.1 kk d.2 with
      | none=>rw [hc] at h; exact h.elim
      | some y=>
       rw [hc] at h
       obtain ⟨ek,ey⟩:=jl hc
       obtain ⟨dk,dx⟩:=d
       simp only at ek ey hd
       subst ek
       subst ey
       obtain ⟨c,is,ts,g1,g2⟩:=ih h1.2 h2' h
       exact ⟨(y,c),⟨tags,none,[],[]⟩ :: is,ts,⟨⟨rfl,rfl,rfl,hd⟩,g1⟩,g2⟩
     cases x with
     | ptr r p n=>
      rcases MC H h1.1 (h2 (.ptr r p n) (by simp)) h with ⟨r',R,p',d,cs,b,o,hr,hv,hg,dh,hown,hn,e,h5⟩ | ⟨bt,d,Tg,b,o,cs,hw,e,hcs,hV,hok,hb,h5⟩
      ·subst e
       exact hgo d _ (rW.aaV H hr hv hg dh hown hn _) h5
      ·simp only [addrOf] at h
       obtain ⟨R,hr,hv,h⟩:=iQ h
       rcases bD h with ⟨hc,h⟩ | ⟨_,h⟩
       ·simp only [bg] at hc
        cases fC:aB p R.k R.x with
        | none=>rw [fC] at h; exact h.elim
        | some d=>
         rw [fC] at h
         have hown:=qH hc.2
         obtain ⟨g1,cs,b,o,g2,g3⟩:=h1.1.2 R hr.1 hv hc.1 hown (by rw [fC]; rfl)
         subst g3
         exact hgo d _ (rW.aaV H hr hv fC g1 hown g2 _) h
       ·exact h.elim
     | fQ bt kx y Tg=>
      simp only [addrOf] at h
      obtain ⟨hc,h⟩:=tN h
      exact hgo ⟨kx,y⟩ Tg (rW.aaW h1.1 (h2 (.fQ bt kx y Tg) (by simp)) hc) h
     | _=>exact h.elim
    | rw kk ow wt ht=>
     simp only [o9] at h
     cases x with
     | ptr r p n=>
      simp only at h
      obtain ⟨R,hr,hv,h⟩:=iQ h
      rcases bD h with ⟨hc,h⟩ | ⟨_,h⟩
      ·simp only [bg] at hc
       cases fC:aB p R.k R.x with
       | none=>rw [fC] at h; exact h.elim
       | some d=>
        rw [fC] at h
        simp only at h
        cases hck:bU d.1 kk d.2 with
        | none=>rw [hck] at h; exact h.elim
        | some y=>
         rw [hck] at h
         obtain ⟨ek,ey⟩:=jl hck
         obtain ⟨dk,dx⟩:=d
         simp only at ek ey h
         subst ek
         subst ey
         rcases bD h with ⟨hj,h⟩ | ⟨_,h⟩
         ·have hown:=qH hc.2
          obtain ⟨g1,cs,b,o,g2,g3⟩:=h1.1.2 R hr.1 hv hc.1 hown (by rw [fC]; rfl)
          obtain ⟨c,is,ts,f1,f2⟩:=ih h1.2 h2' h
          exact ⟨(y,c),⟨R.tags,some (r,p,wt,ht),[],[iV R p]⟩ :: is,ts,⟨⟨r,R,p,⟨rfl,rfl,rfl,hr,hv,fC,g1,hown,hj⟩,rfl,cs,b,o,g2,g3⟩,f1⟩,f2⟩
         ·exact h.elim
      ·exact h.elim
     | _=>exact h.elim
    | bR kk ow wt=>
     simp only [o9] at h
     have hgo:∀(r:Nat) (R:Root) (p:List Stp) (d:Dat),aU Z r R->cB Z R->aB p R.k R.x=some d->bX p R.k R.x->(∀t∈az p R.k,aa t R.own=true)->(∃cs wh,aT (hp w) p R.k (J.hdr r) (aK J R r)=some (cs,wh)/\VC d.1 v cs)->
       (match bU d.1 kk d.2 with
       | some y=>bif v_ kk R.own ow then o9 ps nP fun c is=>k (y,c) (⟨R.tags,some (r,p,wt,kk.tys),[],[]⟩ :: is) else .fail
       | none=>.fail).ends Z z->∃c is ts,rP cx Z J F a w (.bR kk ow wt :: ps) c (v :: vs) is ts/\(k c is).ends Z z:=by
      intro r R p d hr hv hg dh hown hn h
      cases hck:bU d.1 kk d.2 with
      | none=>rw [hck] at h; exact h.elim
      | some y=>
       rw [hck] at h
       obtain ⟨ek,ey⟩:=jl hck
       obtain ⟨dk,dx⟩:=d
       simp only at ek ey h hn
       subst ek
       subst ey
       rcases bD h with ⟨hj,h⟩ | ⟨_,h⟩
       ·obtain ⟨c,is,ts,f1,f2⟩:=ih h1.2 h2' h
        exact ⟨(y,c),⟨R.tags,some (r,p,wt,dk.tys),[],[]⟩ :: is,ts,⟨⟨r,R,p,⟨rfl,rfl,rfl,hr,hv,hg,dh,hown,hj⟩,rfl,hn⟩,f1⟩,f2⟩
       ·exact h.elim
     cases x with
     | dZ r p n=>
      simp only at h
      obtain ⟨R,hr,hv,h⟩:=iQ h
      rcases bD h with ⟨hc,h⟩ | ⟨_,h⟩
      ·cases fC:aB p R.k R.x with
       | none=>rw [fC] at h; exact h.elim
       | some d=>
        rw [fC] at h
        obtain ⟨g1,g2,cs,wh,g3,g4⟩:=h1.1 R hr.1 hv (bC hc) d fC
        exact hgo r R p d hr hv fC g1 g2 ⟨cs,wh,g3,g4⟩ h
      ·exact h.elim
     | ref r g=>
      simp only at h
      obtain ⟨R,hr,hv,h⟩:=iQ h
      rcases bD h with ⟨hc,h⟩ | ⟨_,h⟩
      ·obtain ⟨_,g4⟩:=h1.1 R hr (bC hc)
       exact hgo r R [] ⟨R.k,R.x⟩ hr hv rfl trivial (fun t ht=>by simp [az] at ht) ⟨_,_,rfl,g4⟩ h
      ·exact h.elim
     | _=>exact h.elim
    | own kk ow=>
     simp only [o9] at h
     obtain ⟨tk,htk,h⟩:=Ap H h1.1 (h2 x (by simp)) h
     cases hck:bU tk.k kk tk.x with
     | none=>rw [hck] at h; exact h.elim
     | some y=>
      rw [hck] at h
      obtain ⟨ek,ey⟩:=jl hck
      simp only at h
      rcases bD h with ⟨hj,h⟩ | ⟨_,h⟩
      ·obtain ⟨c,is,ts,f1,f2⟩:=ih h1.2 h2' h
       exact ⟨(y,c),⟨tk.tags,none,tk.ws,[]⟩ :: is,(v,tk) :: ts,⟨⟨rfl,htk,rfl,⟨ek,ey⟩,hj⟩,f1⟩,f2⟩
      ·exact h.elim
    | fn f ks=>
     simp only [o9] at h
     cases x with
     | fn f' caps=>
      simp only at h
      rcases bD h with ⟨hf,h⟩ | ⟨_,h⟩
      ·obtain ⟨us,e1,e2⟩:=h1.1
       obtain ⟨c0,T0,g1,h⟩:=ahz (a:=a) e2 (fun c hc=>h2 (.fn f' caps) (by simp) c hc) h
       obtain ⟨c,is,ts,f1,f2⟩:=ih h1.2 h2' h
       refine ⟨Cont.app ks (kin ps) c0 c,⟨T0,none,[],[]⟩ :: is,ts,⟨⟨rfl,rfl,rfl,us, ?_, ?_⟩, ?_⟩,f2⟩
       ·rw [e1,bC hf]
       ·rw [II]; exact g1
       ·rw [J4]; exact f1
      ·exact h.elim
     | _=>exact h.elim
    | into j q=>
     cases q with
     | cons _ _=>exact h.elim
     | nil=>
      cases x with
      | fG=>
       obtain ⟨b,hb⟩:=h1.1
       obtain ⟨c,is,ts,f1,f2⟩:=ih h1.2 h2' h
       exact ⟨c,⟨[],none,[],[]⟩ :: is,ts,⟨⟨rfl,rfl,rfl,b,hb⟩,f1⟩,f2⟩
      | _=>exact h.elim
end
end
section
open Go
variable [Fr]
structure GA where
 v:Value
 cs:List Value
 fo:List Nat
 base:Option (Nat×Nat)
 ow:Bool
 wb:Bool
def Ab (p:aV) (i:Nat) (c:Cont p.kin):AV:=match p,c with
 | .val k bE,c=>.val k c.1 (bif k.flat then [] else (jA i,0) :: bE.map fun j=>(ah j,0))
 | .ro k,c=>.fQ SENT k c.1 [(jA i,0)]
 | .rw _ _ _ _,_=>.ptr (ah i) [] 0
 | .bR _ _ _,_=>.ref (ah i) 0
 | .own _ _,_=>.ref (ah i) 0
 | .fn f ks,c=>.fn f (gp.x8 i ks c)
 | .into _ _,_=>.fG
def lK (p:aV) (i:Nat) (c:Cont p.kin):Option Root:=match p,c with
 | .rw k ow _ _,c=>some (bL k c.1 ow (bif k.tys.all (fun t=>aa t ow) then [] else [(jA i,0)]) .par true)
 | .bR k ow _,c=>some { bL k c.1 ow (bif k.tys.all (fun t=>aa t ow) then [] else [(jA i,0)]) .anon true with fixed:=true }
 | .own k ow,c=>some (bL k c.1 ow (bif k.tys.all (fun t=>aa t ow) then [] else [(jA i,0)]) .anon)
 | _,_=>none
def vS:(p:aV)->(ps:List aV)->Cont (kin (p :: ps))->Cont p.kin
 | .val _ _,_,c=>(c.1,())
 | .ro _,_,c=>(c.1,())
 | .rw _ _ _ _,_,c=>(c.1,())
 | .bR _ _ _,_,c=>(c.1,())
 | .own _ _,_,c=>(c.1,())
 | .fn _ ks,ps,c=>Cont.fst ks (kin ps) c
 | .into _ p,ps,c=>Cont.fst (aV.into 0 p).kin (kin ps) c
def Aq:(p:aV)->(ps:List aV)->Cont (kin (p :: ps))->Cont (kin ps)
 | .val _ _,_,c=>c.2
 | .ro _,_,c=>c.2
 | .rw _ _ _ _,_,c=>c.2
 | .bR _ _ _,_,c=>c.2
 | .own _ _,_,c=>c.2
 | .fn _ ks,ps,c=>Cont.snd ks (kin ps) c
 | .into _ p,ps,c=>Cont.snd (aV.into 0 p).kin (kin ps) c
theorem SN (p:aV) (ps:List aV) (i:Nat) (c:Cont (kin (p :: ps))):gp (p :: ps) i c=(i,Ab p i (vS p ps c)) :: gp ps (i+1) (Aq p ps c):=by cases p <;> rfl
theorem Jj (p:aV) (ps:List aV) (i:Nat) (c:Cont (kin (p :: ps))):iI (p :: ps) i c=(match lK p i (vS p ps c) with
 | some R=>[(ah i,R)]
 | none=>[])++iI ps (i+1) (Aq p ps c):=by cases p <;> rfl
theorem aa_ {i j:Nat} (h:ah i=ah j):i=j:=by unfold ah at h; omega
theorem aaC:∀(ps:List aV) (i:Nat) (c:Cont (kin ps)) (s:Nat),jm (gp ps i c) s=.one .undef\/∃j p cj,s=i+j/\ps[j]?=some p/\jm (gp ps i c) s=.one (Ab p s cj)
 | [],i,c,s=>.inl rfl
 | p :: ps,i,c,s=>by
  rw [SN]
  simp only [jm]
  by_cases h:s=i
  ·subst h
   refine .inr ⟨0,p,vS p ps c,rfl,rfl, ?_⟩
   simp
  ·have:Nat.beq s i=false:=by
    cases hb:Nat.beq s i with
    | true=>exact absurd (bC hb) h
    | false=>rfl
   rw [this]
   simp only [kg]
   rcases aaC ps (i+1) (Aq p ps c) s with h1 | ⟨j,q,cj,h1,h2,h3⟩
   ·exact .inl h1
   ·exact .inr ⟨j+1,q,cj,by omega,by simpa using h2,h3⟩
theorem Jv (l m:List (Nat×Root)) (n:Nat):iJ (l++m) n=match iJ l n with
 | some R=>some R
 | none=>iJ m n:=by
 induction l with
 | nil=>rfl
 | cons q l ih=>
  obtain ⟨s,a⟩:=q
  simp only [kX,iJ]
  cases Nat.beq n s with
  | true=>rfl
  | false=>exact ih
theorem aaB:∀(ps:List aV) (i:Nat) (c:Cont (kin ps)) (r:Nat),r<ah i->iJ (iI ps i c) r=none
 | [],_,_,_,_=>rfl
 | p :: ps,i,c,r,h=>by
  rw [Jj,Jv]
  have h2:=aaB ps (i+1) (Aq p ps c) r (by unfold ah at h ⊢; omega)
  cases lK p i (vS p ps c) with
  | none=>exact h2
  | some R=>
   have:Nat.beq r (ah i)=false:=by
    cases hb:Nat.beq r (ah i) with
    | true=>have:=bC hb; omega
    | false=>rfl
   simp only [iJ,this,kg]
   exact h2
def Qg (cx:Cx) (Z:St) (J:aH) (F:List Nat) (a:Act) (w:World) (r:Nat) (R:Root) (p:List Stp) (d:Dat) (cs1:List Value) (cu:Option (Nat×Nat)) (aX:List Nat):Prop:=
 ∃rest,(J.fo r).Perm (aX++rest)/\(∀b o,cu=some (b,o)->b∈rest\/∃o0,aK J R r=some (b,o0)/\o0<=o/\o+d.1.size<=o0+R.k.size)/\(∀b o,cu=some (b,o)->b∉aX)/\
  ∀{t z:Dat} {tags':List Tag} {lw lh:List TypeId} {kp:Bool} {ft F':List Nat} {cs':List Value} {w':World},BH cx Z J F w r R p d R.own cs1 cu aX rest t z tags' lw lh kp ft F' cs' w'->
    ∃J',Rel cx (aJ Z r (je R z R.own tags' lw lh kp)) J' F' a w'/\iC cx Z J F w (aJ Z r (je R z R.own tags' lw lh kp)) J' F' w' (kU r lw) (kU r lh)/\(∀b∈blk J' (je R z R.own tags' lw lh kp) r,(∃o,aK J R r=some (b,o))\/b∈ft\/b∈rest)/\
     (jM∉lh->cB (aJ Z r (je R z R.own tags' lw lh kp)) (je R z R.own tags' lw lh kp)->aT (hp w') p z.1 (J'.hdr r) (aK J' (je R z R.own tags' lw lh kp) r)=some (cs',cu))/\∀b∈ft,b∈J'.fo r
def uD (cx:Cx) (Z:St) (J:aH) (F:List Nat) (a:Act) (w:World) (p:aV) (c:Cont p.kin) (v:Value) (i:bM) (g:GA):Prop:=g.v=v/\match p,c with
 | .val k _,c=>g.ow=false/\g.wb=false/\i.wb=none/\g.fo=[]/\g.base=none/\VC k v g.cs/\Vw (hp w) (bG cx Z J F w i.ids) k c.1 g.cs
 | .ro k,c=>g.ow=false/\g.wb=false/\i.wb=none/\g.fo=[]/\g.base=none/\∃b o,v=.pointer (some ⟨b,o,none⟩)/\Cells (hp w) b o g.cs/\Vw (hp w) (bG cx Z J F w i.ids) k c.1 g.cs/\mE Z J F w i.ids b
 | .rw k ow wt ht,c=>g.ow=false/\g.wb=true/\∃r R p b o,zi cx Z J w k c.1 ow i wt ht r R p/\i.bt=[iV R p]/\aT (hp w) p R.k (J.hdr r) (aK J R r)=some (g.cs,some (b,o))/\v=.pointer (some ⟨b,o,none⟩)/\g.base=some (b,o)/\
   Ow (hp w) R.own (bG cx Z J F w R.tags) k c.1 g.cs g.fo/\(∀b∈g.fo,b∈J.fo r)/\g.fo.Nodup/\b∉g.fo/\Qg cx Z J F a w r R p ⟨k,c.1⟩ g.cs (some (b,o)) g.fo
 | .bR k ow wt,c=>g.ow=false/\g.wb=true/\∃r R p wh,zi cx Z J w k c.1 ow i wt k.tys r R p/\i.bt=[]/\aT (hp w) p R.k (J.hdr r) (aK J R r)=some (g.cs,wh)/\VC k v g.cs/\g.base=none/\
   Ow (hp w) R.own (bG cx Z J F w R.tags) k c.1 g.cs g.fo/\(∀b∈g.fo,b∈J.fo r)/\g.fo.Nodup/\Qg cx Z J F a w r R p ⟨k,c.1⟩ g.cs wh g.fo
 | .own k ow,c=>g.ow=true/\g.wb=false/\i.wb=none/\g.base=none/\VC k v g.cs/\Ow (hp w) ow (bG cx Z J F w i.ids) k c.1 g.cs g.fo/\(∀b∈g.fo,b∈F)/\g.fo.Nodup
 | .fn f ks,c=>g.ow=false/\g.wb=false/\i.wb=none/\g.fo=[]/\g.base=none/\∃us:List Value,v=.func (.func f) #[] us.toArray/\Kj ks c us i.ids
 | .into _ _,_=>g.ow=false/\g.wb=false/\i.wb=none/\g.fo=[]/\g.base=none/\∃b,v=.slice b 0 0
where Kj:(ks:List K)->Cont ks->List Value->List Tag->Prop
 | [],_,[],_=>True
 | k :: ks,c,v :: vs,ids=>(∃b o cs,v=.pointer (some ⟨b,o,none⟩)/\Cells (hp w) b o cs/\Vw (hp w) (bG cx Z J F w ids) k c.1 cs/\mE Z J F w ids b)/\Kj ks c.2 vs ids
 | _,_,_,_=>False
def wM (cx:Cx) (Z:St) (J:aH) (F:List Nat) (a:Act) (w:World):(ps:List aV)->Cont (kin ps)->List Value->List bM->List GA->Prop
 | [],_,[],[],[]=>True
 | p :: ps,c,v :: vs,i :: is,g :: gs=>uD cx Z J F a w p (vS p ps c) v i g/\wM cx Z J F a w ps (Aq p ps c) vs is gs
 | _,_,_,_,_=>False
section
variable {P:Program} {T:bH} {cx:Cx} {Z:St} {J:aH} {F:List Nat} {a:Act} {w:World}
theorem wF.caps {Z1:St} {aI:aH} {F1:List Nat} {ids:List Tag} (hT:Tk cx Z J F a w Z1 aI F1 ids):∀{ks:List K} {c:Cont ks} {us:List Value},wF cx Z J F a w ids ks c us->uD.Kj cx Z1 aI F1 w ks c us ids
 | [],_,[],_=>trivial
 | _ :: _,_,_ :: _,⟨⟨b,o,cs,h1,h2,h3⟩,hh⟩=>⟨⟨b,o,cs,h1,h2,h3 Z1 aI F1 hT⟩,wF.caps hT hh⟩
 | [],_,_ :: _,hh=>hh.elim
 | _ :: _,_,[],hh=>hh.elim
theorem ag7 {Z1:St} {aI:aH} {F1:List Nat} (H1:Rel cx Z1 aI F1 a w) (hV:Views cx Z J F w Z1 aI F1 w):∀{ps:List aV} {c:Cont (kin ps)} {vs:List Value} {is:List bM} {ts:List (Value×eU)} {hs:List (List Value×List Nat)},
  rP cx Z J F a w ps c vs is ts->vg cx Z1 aI F1 w ts hs->(∀i∈is,∀t∈i.ids,Same Z J Z1 aI t.1)->(∀i∈is,∀r q,i.wb=some (r,q)->Same Z J Z1 aI r)->
  ∃gs,wM cx Z1 aI F1 a w ps c vs is gs/\(gs.flatMap fun g=>bif g.ow then g.fo else [])=hs.flatMap (·.2):=by
 intro ps
 induction ps with
 | nil=>
  intro c vs is ts hs h hh _ _
  cases vs with
  | cons _ _=>exact h.elim
  | nil=>cases is with
   | cons _ _=>exact h.elim
   | nil=>cases ts with
    | cons _ _=>exact h.elim
    | nil=>cases hs with
     | cons _ _=>exact hh.elim
     | nil=>exact ⟨[],trivial,rfl⟩
 | cons p ps ih=>
  intro c vs is ts hs h hh hS hR
  have hpl:∀{k:K} {x:El k} {ow:List TypeId} {i:bM} {wt ht:List TypeId} {r:Nat} {R:Root} {p:List Stp} {cs:List Value} {wh:Option (Nat×Nat)},zi cx Z J w k x ow i wt ht r R p->(∀t∈i.ids,Same Z J Z1 aI t.1)->Same Z J Z1 aI r->
    aT (hp w) p R.k (J.hdr r) (aK J R r)=some (cs,wh)->zi cx Z1 aI w k x ow i wt ht r R p/\aT (hp w) p R.k (aI.hdr r) (aK aI R r)=some (cs,wh)/\
     ∃fo,Ow (hp w) R.own (bG cx Z1 aI F1 w R.tags) k x cs fo/\(∀b∈fo,b∈aI.fo r)/\fo.Nodup/\(∀b o,wh=some (b,o)->b∉fo)/\Qg cx Z1 aI F1 a w r R p ⟨k,x⟩ cs wh fo:=by
   intro k x ow i wt ht r R p cs wh hP hid hr hn
   have hr1:=(hr.live R).2 hP.lv
   have hv1:cB Z1 R:=⟨hP.vl.1,by rw [rZ (fun t ht=>(hid t (by rw [hP.ids]; exact ht)).root)]; exact hP.vl.2⟩
   have hn1:aT (hp w) p R.k (aI.hdr r) (aK aI R r)=some (cs,wh):=by rw [hr.hdr,hr.wh]; exact hn
   have K:=H1.roots r R hr1
   have hnd:=K.nd
   rw [jG,uR] at hnd
   obtain ⟨fd,ok',aX,rest,jy,wh2,hn',hpf,hd1,hty,hall,iH,hwf,hgo⟩:=H1.place hr1 hv1 (own':=R.own) hP.get hP.pin (fun _ h=>h) hP.own
   rw [hn1] at hn'
   simp only [au,bS] at hn'
   obtain ⟨rfl,rfl⟩:=hn'
   obtain ⟨Nb,hO⟩:=hall (fun _ _=>rfl)
   subst Nb
   rw [h_] at hpf
   have jI:=hpf.nodup hnd.2
   exact ⟨⟨hP.wb,hP.ws,hP.ids,hr1,hv1,hP.get,hP.pin,hP.own,hP.just⟩,hn1,aX,hO,fun b hb=>hpf.mem_iff.2 (bK _ hb),(cK.1 jI).1,hwf,rest,hpf,iH,hwf,hgo⟩
  cases vs with
  | nil=>cases p <;> exact h.elim
  | cons v vs=>
   cases is with
   | nil=>cases p <;> exact h.elim
   | cons i is=>
    have hS1:=hS i (by simp)
    have YX:=hR i (by simp)
    have sD:Tk cx Z J F a w Z1 aI F1 i.ids:=⟨H1,hV,hS1⟩
    have hS2:∀i∈is,∀t∈i.ids,Same Z J Z1 aI t.1:=fun i hi=>hS i (by simp [hi])
    have hR2:∀i∈is,∀r q,i.wb=some (r,q)->Same Z J Z1 aI r:=fun i hi=>hR i (by simp [hi])
    cases p with
    | val k bE=>
     obtain ⟨⟨h1,h2,h3,cs,h4,h5⟩,h6⟩:=h
     obtain ⟨gs,g1,g2⟩:=ih h6 hh hS2 hR2
     exact ⟨⟨v,cs,[],none,false,false⟩ :: gs,⟨⟨rfl,rfl,rfl,h1,rfl,rfl,h4,h5 Z1 aI F1 sD⟩,g1⟩,by simpa using g2⟩
    | ro k=>
     obtain ⟨⟨h1,h2,h3,b,o,cs,h4,h5,h7⟩,h6⟩:=h
     obtain ⟨gs,g1,g2⟩:=ih h6 hh hS2 hR2
     exact ⟨⟨v,cs,[],none,false,false⟩ :: gs,⟨⟨rfl,rfl,rfl,h1,rfl,rfl,b,o,h4,h5,h7 Z1 aI F1 sD⟩,g1⟩,by simpa using g2⟩
    | rw k ow wt ht=>
     obtain ⟨⟨r,R,p,hP,hbt,cs,b,o,hn,hv⟩,h6⟩:=h
     obtain ⟨gs,g1,g2⟩:=ih h6 hh hS2 hR2
     obtain ⟨q1,q2,fo,q3,q4,q5,q6,q7⟩:=hpl hP hS1 (YX r _ hP.wb) hn
     exact ⟨⟨v,cs,fo,some (b,o),false,true⟩ :: gs,⟨⟨rfl,rfl,rfl,r,R,p,b,o,q1,hbt,q2,hv,rfl,q3,q4,q5,q6 b o rfl,q7⟩,g1⟩,by simpa using g2⟩
    | bR k ow wt=>
     obtain ⟨⟨r,R,p,hP,hbt,cs,wh,hn,hv⟩,h6⟩:=h
     obtain ⟨gs,g1,g2⟩:=ih h6 hh hS2 hR2
     obtain ⟨q1,q2,fo,q3,q4,q5,q6,q7⟩:=hpl hP hS1 (YX r _ hP.wb) hn
     exact ⟨⟨v,cs,fo,none,false,true⟩ :: gs,⟨⟨rfl,rfl,rfl,r,R,p,wh,q1,hbt,q2,hv,rfl,q3,q4,q5,q7⟩,g1⟩,by simpa using g2⟩
    | own k ow=>
     cases ts with
     | nil=>exact h.elim
     | cons q ts=>
      cases hs with
      | nil=>exact hh.elim
      | cons hd hs=>
       obtain ⟨⟨h1,h2,h3,⟨ek,ey⟩,h5⟩,h6⟩:=h
       obtain ⟨⟨k1,k2,k3⟩,k4⟩:=hh
       obtain ⟨gs,g1,g2⟩:=ih h6 k4 hS2 hR2
       obtain ⟨v',tk⟩:=q
       simp only at h1 h2 h3 ek ey h5 k1 k2 k3
       subst h1
       have hO:Ow (hp w) ow (bG cx Z1 aI F1 w tk.tags) k c.1 hd.1 hd.2:=by
        refine vv (fun t ht=>?_) (wS ek ey (k2.ow k3))
        have:=eH.1 h5 t ht
        exact (by simpa using this:aa t tk.own=aa t ow).symm
       refine ⟨⟨v',hd.1,hd.2,none,true,false⟩ :: gs,⟨⟨rfl,rfl,rfl,by rw [h3],rfl,ek▸k1,by rw [h3]; exact hO,k2.sub,k2.nd⟩,g1⟩,by simp [g2]⟩
    | fn f ks=>
     obtain ⟨⟨h1,h2,h3,us,h4,h5⟩,h6⟩:=h
     obtain ⟨gs,g1,g2⟩:=ih h6 hh hS2 hR2
     exact ⟨⟨v,[],[],none,false,false⟩ :: gs,⟨⟨rfl,rfl,rfl,h1,rfl,rfl,us,h4,h5.caps sD⟩,g1⟩,by simpa using g2⟩
    | into j q=>
     obtain ⟨⟨h1,h2,h3,b,h4⟩,h6⟩:=h
     obtain ⟨gs,g1,g2⟩:=ih h6 hh hS2 hR2
     exact ⟨⟨v,[],[],none,false,false⟩ :: gs,⟨⟨rfl,rfl,rfl,h1,rfl,rfl,b,h4⟩,g1⟩,by simpa using g2⟩
theorem wM.at:∀{ps:List aV} {c:Cont (kin ps)} {vs:List Value} {is:List bM} {gs:List GA} {i0:Nat},wM cx Z J F a w ps c vs is gs->
  vs.length=ps.length/\is.length=ps.length/\gs.length=ps.length/\∀j p,ps[j]?=some p->∃cj v i g,vs[j]?=some v/\is[j]?=some i/\gs[j]?=some g/\uD cx Z J F a w p cj v i g/\
   jm (gp ps i0 c) (i0+j)=.one (Ab p (i0+j) cj)/\iJ (iI ps i0 c) (ah (i0+j))=lK p (i0+j) cj:=by
 intro ps
 induction ps with
 | nil=>
  intro c vs is gs i0 h
  cases vs with
  | cons _ _=>exact h.elim
  | nil=>cases is with
   | cons _ _=>exact h.elim
   | nil=>cases gs with
    | cons _ _=>exact h.elim
    | nil=>exact ⟨rfl,rfl,rfl,fun j p hp=>by simp at hp⟩
 | cons p ps ih=>
  intro c vs is gs i0 h
  cases vs with
  | nil=>exact h.elim
  | cons v vs=>cases is with
   | nil=>exact h.elim
   | cons i is=>cases gs with
    | nil=>exact h.elim
    | cons g gs=>
     obtain ⟨h1,h2⟩:=h
     obtain ⟨l1,l2,l3,h3⟩:=ih (i0:=i0+1) h2
     refine ⟨by simp [l1],by simp [l2],by simp [l3],fun j q hq=>?_⟩
     cases j with
     | zero=>
      simp only [qO,au] at hq
      subst hq
      refine ⟨vS p ps c,v,i,g,rfl,rfl,rfl,h1, ?_, ?_⟩
      ·rw [SN]; simp [jm]
      ·rw [Jj,Jv]
       cases hr:lK p i0 (vS p ps c) with
       | none=>
        simp only [iJ,pK]
        rw [aaB ps (i0+1) (Aq p ps c) (ah i0) (by unfold ah; omega)]
       | some R=>simp [iJ]
     | succ j=>
      obtain ⟨cj,v',i',g',e1,e2,e3,e4,e5,e6⟩:=h3 j q (by simpa using hq)
      have ej:i0+(j+1)=i0+1+j:=by omega
      refine ⟨cj,v',i',g',e1,e2,e3,e4, ?_, ?_⟩
      ·rw [SN,ej]
       simp only [jm]
       have:Nat.beq (i0+1+j) i0=false:=by
        cases hb:Nat.beq (i0+1+j) i0 with
        | true=>have:=bC hb; omega
        | false=>rfl
       rw [this]
       exact e5
      ·rw [Jj,Jv,ej]
       cases hr:lK p i0 (vS p ps c) with
       | none=>exact e6
       | some R=>
        have:Nat.beq (ah (i0+1+j)) (ah i0)=false:=by
         cases hb:Nat.beq (ah (i0+1+j)) (ah i0) with
         | true=>have:=aa_ (bC hb); omega
         | false=>rfl
        simp only [iJ,this,kg]
        exact e6
theorem al_:∀{ps:List aV} {c:Cont (kin ps)} {i0 r:Nat} {R:Root},iJ (iI ps i0 c) r=some R->∃j p,r=ah (i0+j)/\ps[j]?=some p:=by
 intro ps
 induction ps with
 | nil=>intro c i0 r R h; simp [iI,iJ] at h
 | cons p ps ih=>
  intro c i0 r R h
  rw [Jj,Jv] at h
  have hrec:iJ (iI ps (i0+1) (Aq p ps c)) r=some R->∃j q,r=ah (i0+j)/\(p :: ps)[j]?=some q:=by
   intro h
   obtain ⟨j,q,h1,h2⟩:=ih h
   exact ⟨j+1,q,by rw [h1]; congr 1; omega,by simpa using h2⟩
  cases hr:lK p i0 (vS p ps c) with
  | none=>rw [hr] at h; exact hrec h
  | some Q=>
   rw [hr] at h
   simp only [iJ] at h
   cases hb:Nat.beq r (ah i0) with
   | true=>exact ⟨0,p,bC hb,rfl⟩
   | false=>rw [hb] at h; exact hrec h
end
end
end Go.Proofs.YtailcbngagacaaaGreat.Ow

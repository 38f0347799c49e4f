/- A verified reading of translated code: values in place of memory; part D of 6, spaces and remarks taken out. No condition. Own work of this seat. -/
import Derived.Test.YtdknpknohipffaaGreatOwC
set_option linter.unusedSectionVars false
set_option linter.unusedVariables false
set_option linter.unusedSimpArgs false
namespace Go.Proofs.YtdknpknohipffaaGreat.Ow
section
open Go
variable [Fr]
section
variable {P:Program} {T:ji} {cx:Cx} {σ:St} {α:dK} {F:List Nat} {a:Act} {w:World} {o:Oper} {d:Nat} {ws:List Wr}
def zW (z:Array Value) (n:Nat):Array Value:=(Array.range n).map (z[· % z.size]!)
theorem run_buildSlice {t e:TypeId} {kk:K} (ht:fM P T t (.sl e kk)) {len:Nat} {parts:Array (Nat×Value)} {cells:Array Value} (hb:len * kk.size≤16777216)
    (hf:Instr.fill (fun i=>some (i * kk.size,kk.size)) (zW (bV kk).toArray (len * kk.size)) parts.toList=some cells) :
    (Instr.buildSlice t len parts).run P w=.ok (.slice (some ⟨w.heap.size,0,none⟩) len len) (w.alloc (.cells cells e)):=by
  obtain ⟨hu,he,hk,_⟩:=ht.sl
  have hzc:=xx he.shape
  unfold Instr.buildSlice
  have h1:¬(len * kk.size>2 ^ 24):=by omega
  by_cases h0:len * kk.size=0
  · have hf':Instr.fill (fun i=>some (i * kk.size,kk.size)) #[] parts.toList=some cells:=by
      have e:zW (bV kk).toArray (len * kk.size)=#[]:=by
        apply Array.eq_empty_of_size_eq_zero
        simp [zW,h0]
      rw [e] at hf
      exact hf
    have hr0:∀f:Nat→Value,Array.map f (Array.range 0)=#[]:=fun f=>by apply Array.eq_empty_of_size_eq_zero; simp
    simp [run_underlying hu,he.info.sizeOf w,Result.andThen,h0,hr0,hf',newRow]
  · have hf':Instr.fill (fun i=>some (i * kk.size,kk.size)) ((Array.range (len * kk.size)).map fun x=>(bV kk).toArray[x % (bV kk).toArray.size]!) parts.toList=some cells:=hf
    simp only [apD,run_underlying hu,apw,he.info.sizeOf w]
    rw [if_neg h1,if_neg h0]
    simp only [apD,apI,apw,he.info.zero w,hzc,hf']
    simp [newRow,Result.andThen]
theorem SF {kk:K} {len i:Nat} (hk:0<kk.size) (hz:(bV kk).length=kk.size) (hi:i<len):nS (zW (bV kk).toArray (len * kk.size)).toList kk.size i=bV kk:=by
  have hle:(i+1) * kk.size≤len * kk.size:=apJ _ (by omega)
  rw [Nat.add_mul,Nat.one_mul] at hle
  apply List.ext_getElem?
  intro j
  by_cases hj:j<kk.size
  · rw [mH hj,Array.getElem?_toList]
    unfold zW
    rw [Array.getElem?_map]
    have hlt:i * kk.size+j<len * kk.size:=by omega
    rw [Array.getElem?_range,if_pos hlt]
    simp only [Option.map_some,List.size_toArray,hz]
    have hm:(i * kk.size+j) % kk.size=j:=by
      rw [Nat.mul_comm,Nat.mul_add_mod]
      exact Nat.mod_eq_of_lt hj
    rw [hm,getElem!_pos _ _ (by simp; omega)]
    simp [show j<(bV kk).length by omega]
  · rw [List.getElem?_eq_none (by rw [sH (m:=len) (by simp [zW]) hi]; omega),List.getElem?_eq_none (by omega)]
theorem K8 {L:K→List TypeId} (hT:fu P T) (H:Rel cx σ α F a w) (hd:o.dst=some d) (hdn:d<cx.nt) {t:TypeId} {len:Nat} {ps:Array (Nat×Operand)}
    (h:(match T.ty t with
      | some (.sl e kk)=>Lh ps.toList fun l=>Ld kk l ⟨[],[],[],[],false,[]⟩ fun b=>bif !(NC b.ws b.all && Nat.ble (len * kk.size) 16777216) then .fail else bif Nat.beq (gG b.xs) len && !ay e b.bad then
          jY (bE d 0) (.ret (b.ws++[Wr.r (bE d 0) (some (aP (.sl e kk) b.xs (e :: bJ (L kk) b.bad) b.tags .anon b.keep)),Wr.s d (.one (.ref (bE d 0) 0))]))
        else bif Nat.beq (gG b.xs) 0 then
          jY (bE d 0) (.ret [Wr.r (bE d 0) (some (aP (.sl e kk) (List.replicate len kk.zero) (e :: kk.tys) [] .anon)),Wr.s d (.one (.ref (bE d 0) 0))])
        else .fail
      | _=>(.fail:Prog (List Wr))).ends σ ws) (ho:o.op=.buildSlice t len ps):sM P cx o a w (aC ws σ):=by
  cases hty:T.ty t with
  | none=>rw [hty] at h; exact h.elim
  | some k0=>
    rw [hty] at h
    cases k0 with
    | sl e kk=>
      have ht:=hT.ty t _ hty
      obtain ⟨hu,he,hk,_⟩:=ht.sl
      simp only at h
      obtain ⟨vs,e1,h1,h2,h3⟩:=NR H h
      obtain ⟨tks,b',l1,l2,Y2,Rv,h4⟩:=Ua H h1 h2 h3
      have hlen:vs.length=tks.length:=l1.symm
      have Un:(vs.map (·.1)).length=tks.length:=by rw [List.length_map]; exact hlen
      have RI:((evs a ps.toList).map (·.2)).length=tks.length:=by rw [l2]; exact hlen
      generalize hns:vs.map (·.1)=ns at *
      generalize hvv:(evs a ps.toList).map (·.2)=vals at *
      obtain ⟨z1,z2,z3,z4⟩:=OT ns vals tks Un RI
      obtain ⟨f1,f2,f4,_,f6,_,f8,_,f9⟩:=Ju _ Rv
      simp only [List.nil_append] at f1
      have f9':b'.xs.length=tks.length:=by rw [f9]; simp; omega
      have hzO:∀h ok own,Ow h own ok kk kk.zero (bV kk) []:=fun h ok own=>Gp he.gN
      have hzl:(bV kk).length=kk.size:=dn (hzO (hp w) (fun _=>True) [])
      have hzs:(zW (bV kk).toArray (len * kk.size)).size=len * kk.size:=by simp [zW]
      have hparts:((ps.map fun (p:Nat×Operand)=>(p.1,a.eval p.2)).toList)=ns.zip vals:=by
        rw [Array.toList_map, ←hvv,e1]
        have:∀l:List (Nat×Operand),l.map (fun p=>(p.1,a.eval p.2))=(l.map (·.1)).zip ((evs a l).map (·.2)):=by
          intro l
          induction l with
          | nil=>rfl
          | cons p l ih=>simp [evs] at ih ⊢; exact ih
        exact this _
      have acK:∀{cells:Array Value},len * kk.size≤16777216→Instr.fill (fun i=>some (i * kk.size,kk.size)) (zW (bV kk).toArray (len * kk.size)) (ns.zip vals)=some cells→
          (execOp a.eval o).run P w=.ok (.value (.slice (some ⟨w.heap.size,0,none⟩) len len)) (w.alloc (.cells cells e)):=by
        intro cells hb hf
        have:=run_buildSlice (w:=w) ht (parts:=ps.map fun (p:Nat×Operand)=>(p.1,a.eval p.2)) hb (by rw [hparts]; exact hf)
        simp only [execOp,ho,apD,this,apw,apI]
      rcases aB h4 with ⟨_,h5⟩ | ⟨hws,h5⟩
      · exact h5.elim
      · have PR:(NC b'.ws b'.all && Nat.ble (len * kk.size) 16777216)=true:=by simpa using hws
        rw [apj] at PR
        have ahC:len * kk.size≤16777216:=Nat.le_of_ble_eq_true PR.2
        have Xh:=PR.1
        unfold NC at Xh
        simp only [apj] at Xh
        have hw1:=Ag.1 Xh.1
        have hw2:=D7.1 Xh.2
        rw [f1, ←z4] at hw1 hw2
        rcases aB h5 with ⟨hc,h6⟩ | ⟨_,h6⟩
        · rw [apj] at hc
          have hxl:b'.xs.length=len:=by rw [←qd]; exact aph hc.1
          have hbad:e∉b'.bad:=by have:=hc.2; simp only [Bool.not_eq_true',aV] at this; exact this
          obtain ⟨g1,g2⟩:=gZ h6
          rw [aD g2]
          obtain ⟨α',F',hs,H',hA,hnd,hnF,hFF,hS,_⟩:=takes (vals.zip tks) H Y2 hw1 (fun tg xC=>hw2 tg (by
            obtain ⟨it,hit,h6⟩:=apP.1 xC
            have:it∈(ns.zip (vals.zip tks)).map (·.2):=by rw [z1]; exact hit
            obtain ⟨q,hq,rfl⟩:=apO.1 this
            exact f2 (q.1,q.2.2) (by rw [←z2]; exact apO.2 ⟨q,hq,rfl⟩) tg h6))
          have hA0:=hA
          rw [←z1] at hA
          have ho2:∀t,ay t (e :: bJ (L kk) b'.bad)=true→t∉b'.bad:=fun t ht=>by
            rcases apq.1 (aL.1 ht) with h | h
            · rw [h]; exact hbad
            · exact (dH.1 (aL.2 h)).2
          obtain ⟨Ba,HY,p1,p2⟩:=DK (own':=e :: bJ (L kk) b'.bad) (T:=b'.tags) (ns.zip (vals.zip tks)) hA
            (fun it hit tg xC=>by
              cases hm:ay tg (e :: bJ (L kk) b'.bad) with
              | false=>rfl
              | true=>exact absurd (f4 (it.1,it.2.2) (by rw [←z2]; exact apO.2 ⟨it,hit,rfl⟩) tg xC) (ho2 tg hm))
            (fun it hit tg xC=>f6 (it.1,it.2.2) (by rw [←z2]; exact apO.2 ⟨it,hit,rfl⟩) tg xC)
          rw [z2,z3,z1] at p2
          have hzn:(ns.zip tks).map (·.1)=ns:=by rw [List.map_fst_zip (by omega)]
          obtain ⟨cells',c1,c2,c3,c4⟩:=T9 (N:=len) (ns.zip tks) (b:=⟨[],[],[],[],false,[]⟩) (cells:=zW (bV kk).toArray (len * kk.size)) (bz:=[]) (by simp; omega) hzs rfl (fun i hi=>by simp at hi) p2 Rv
          rw [hzn] at c1
          simp only [List.nil_append] at c3 c4
          have hrun:=acK ahC c1
          have tN:=p1.nodup hnd
          have n2:=apk.1 tN
          have hin:∀b∈hs.flatMap (·.2),b∈F':=Ce hA0
          have hwt:fD (aC (vF (vals.zip tks)) σ) b'.tags:=by
            intro tg xC
            rcases f8 tg xC with h | ⟨q,hq,hq2⟩
            · simp at h
            · rw [←z2] at hq
              obtain ⟨it,hit,rfl⟩:=apO.1 hq
              have hit2:it.2∈vals.zip tks:=by rw [←z1]; exact apO.2 ⟨it,hit,rfl⟩
              exact J6 (Eb hA0 it.2 hit2) tg hq2
          have hnr:=MQ g1 Y2
          have hn1:(aC (vF (vals.zip tks)) σ).roots (bE d 0)=none:=by rw [(hS _ hnr).root]; exact g1
          have abN:b'.ws=vF (vals.zip tks):=by rw [f1,z4]
          obtain ⟨II,F2,k1,k2⟩:=VM (r:=bE d 0) (e:=e) (k:=kk) (xs:=b'.xs) (own:=e :: bJ (L kk) b'.bad) (tags:=b'.tags) (arr:=cells') (lo:=0) (hi:=0) (n:=len) (c:=len) (bz:=Ba) (F1:=F'.filter fun b=>!ay b (Ba.flatten++HY)) H' hn1 (gF d 0)
            hwt (aL.2 (by simp)) (fun i hi=>by omega) hxl.symm (apu _) (by rw [c2]; exact apu _) c3 (fun b hb=>hin b (p1.mem_iff.2 (by simp [hb]))) n2.1
            (fun b hb=>by
              rw [apv] at hb
              have:=hb.2
              simp only [Bool.not_eq_true',aV,apm,not_or] at this
              exact ⟨hb.1,this.1⟩) (H'.Ca.filter _)
            (fun i hi=>by
              have hsl:(nS cells'.toList kk.size i).length=kk.size:=sH (m:=len) (by rw [Array.length_toList,c2]) (by omega)
              refine ⟨_,hsl,fun j hj=>?_,bC (fun _ _=>rfl) (fun b hb=>?_) (fun _ _=>rfl) (c4 i hi)⟩
              · rw [hsl] at hj
                rw [mH hj,Array.getElem?_toList]
              · rcases hb with hb | hb
                · exact .inl hb
                · refine .inr ⟨hin b (p1.mem_iff.2 (by simp [hb])),fun h=>?_,fun h=>n2.2.2 b h b hb rfl⟩
                  rw [apv] at h
                  have:=h.2
                  simp only [Bool.not_eq_true',aV,apm,not_or] at this
                  exact this.2 hb) b'.keep w.drawn
          rw [abN,dA]
          exact iW (x:=.one (.ref (bE d 0) 0)) k1 hd hdn hrun k2 ⟨_,aK .., .inr (apM _)⟩
        · rcases aB h6 with ⟨hc,h7⟩ | ⟨_,h7⟩
          · obtain ⟨g1,g2⟩:=gZ h7
            rw [aD g2]
            have hxl:b'.xs.length=0:=by rw [←qd]; exact aph hc
            have ht0:tks=[]:=List.eq_nil_of_length_eq_zero (by omega)
            have hv0:vals=[]:=List.eq_nil_of_length_eq_zero (by rw [ht0] at RI; simpa using RI)
            have hrun:=acK (cells:=zW (bV kk).toArray (len * kk.size)) ahC (by rw [hv0]; simp [Instr.fill])
            obtain ⟨II,F2,k1,k2⟩:=Qe (r:=bE d 0) (e:=e) (k:=kk) (xs:=List.replicate len kk.zero) (own:=e :: kk.tys) (arr:=zW (bV kk).toArray (len * kk.size)) (lo:=0) (hi:=0) (n:=len) (c:=len) H g1 (gF d 0)
              (aL.2 (by simp)) (fun i hi=>by omega) (by simp) (apu _) (by rw [hzs]; exact apu _)
              (fun i hi=>by
                have hi':i<len:=by simpa using hi
                refine ⟨bV kk,hzl,fun j hj=>?_,fun h ok=>?_⟩
                · have hs:=congrArg (fun l=>l[j]?) (SF hk hzl hi')
                  rw [mH (by omega),Array.getElem?_toList] at hs
                  exact hs
                · have:(List.replicate len kk.zero)[i]'hi=kk.zero:=by simp
                  rw [this]
                  exact hzO h ok _) false w.drawn
            exact iW (x:=.one (.ref (bE d 0) 0)) k1 hd hdn hrun k2 ⟨_,aK .., .inr (apM _)⟩
          · exact h7.elim
    | _=>exact h.elim
end
section
variable {P:Program} {T:ji} {cx:Cx} {σ:St} {α:dK} {F:List Nat} {a:Act} {w:World} {o:Oper} {d:Nat} {ws:List Wr} {r:Nat} {R:Root}
abbrev kg (R:Root) (e:TypeId) (kk:K) (ys:List (El kk)):Root:={ R with k:=.sl e kk,x:=ys,w:=e :: R.w }
theorem VN (H:Rel cx σ α F a w) (hr:aR σ r R) (hv:bq σ R) (hk:R.kind=.anon) {e:TypeId} {kk:K} {xs ys:List (El kk)} (hq:(⟨R.k,R.x⟩:Dat)=⟨.sl e kk,xs⟩) (hf:kk.flat=true) (hl:ys.length=xs.length) {w':World}
    (hos:w'.os=w.os∧w'.tape=w.tape∧w'.output=w.output) (hsize:w.heap.size≤w'.heap.size) (SI:∀b,hp w' b≠hp w b→b∈α.fo r∧q8 (hp w) b=some e) (how:∀ok,Ow (hp w') R.own ok (.sl e kk) ys (α.hdr r) (α.fo r)) :
    Rel cx (az σ r (kg R e kk ys)) (aJ α r (α.loc r) (α.hdr r) (α.fo r)) [] a w'∧
      ∀g v,g≤R.g→bI cx σ α F w (.ref r g) v→bI cx (az σ r (kg R e kk ys)) (aJ α r (α.loc r) (α.hdr r) (α.fo r)) [] w' (.ref r g) v:=by
  have hblk:blk α R r=α.fo r:=by simp [blk,eB,hk]
  have hk':(kg R e kk ys).kind=.anon:=hk
  have hRk:R.k=.sl e kk:=congrArg (fun q:Dat=>q.1) hq
  have hd':(kg R e kk ys).aX=false:=by simp [Root.aX,hk]
  have K0:=H.roots r R hr
  have hnt:=H.dD r R hr.1
  have Dt:∀g v,g≤R.g→bI cx σ α F w (.ref r g) v→bI cx (az σ r (kg R e kk ys)) (aJ α r (α.loc r) (α.hdr r) (α.fo r)) [] w' (.ref r g) v:=by
    intro g v _ hold Q hQ hg
    obtain ⟨rfl,_⟩:=eX hQ
    obtain ⟨h1,h2⟩:=hold R hr hg
    refine ⟨h1, ?_⟩
    simp only [aJ,upd_same]
    rw [hRk] at h2
    exact h2
  have T1:BP cx σ α F w r R (kg R e kk ys) (α.fo r) [] w' [e] []:=by
    refine ⟨.inr ⟨rfl,rfl,apu _,rfl,fun h=>by rw [hk] at h; simp at h, .inl (by simp)⟩,⟨fun t ht=>hnt.1 t ht,fun n hn=>hnt.2.2 n hn⟩,hos,hsize,fun b hb hne=>?_,fun _ b hb=>?_,fun b hb=>by simp at hb,List.nodup_nil,fun _ b _ h=>by simp at h,fun j pi b o n hj hb hrj hne=>?_,fun _=>⟨rfl,rfl⟩⟩
    · obtain ⟨h1,h2⟩:=SI b hne
      exact .inr ⟨by rw [hblk]; exact h1, .inr (.inl ⟨e,by simp,h2⟩)⟩
    · rw [gY hk'] at hb
      rw [hblk]
      exact .inl hb
    · obtain ⟨Q,hQ,hkq,_,_⟩:=H.mQ j pi b o n hj hb
      have hQR:Q=R:=by have:=hQ.1; rw [←hrj,hr.1] at this; simpa using this.symm
      rw [hQR,hk] at hkq
      simp at hkq
  refine ⟨T1.rel H hr (fun _=>⟨fun _=>how _,by rw [K0.len,hRk],fun b o hb=>by rw [zV hk'] at hb; simp at hb,by rw [gY hk', ←hblk]; exact K0.nd⟩) ?_ (fun _=>Dt),Dt⟩
  intro _ p n v hn hold
  refine ⟨hold.1,fun Q hQ hvQ hcl hty hs=>?_⟩
  rw [aK] at hQ
  simp only [apd] at hQ
  subst hQ
  cases p with
  | nil=>
    obtain ⟨_,cs,b,o,h1,_⟩:=hold.2 R hr.1 hv (by simp [clean,eD,ay]) (fun t ht=>by simp [ah] at ht) rfl
    simp only [bF,apd,apo] at h1
    have:eB α R r=none:=by simp [eB,hk]
    rw [this] at h1
    simp at h1
  | cons s q=>
    have hcl':clean R.h n (eD (s :: q) R.k)=true:=by rw [hRk]; exact hcl
    obtain ⟨g1,cs,b,o,g2,g3⟩:=hold.2 R hr.1 hv hcl' (fun t ht=>hty t (by rw [hRk] at ht; exact ht)) (by
      have h9:(aT (s :: q) (.sl e kk) ys).isSome=true:=hs
      rw [qU (s :: q) (y:=xs)] at h9
      have:=congrArg (fun d:Dat=>(aT (s :: q) d.1 d.2).isSome) hq
      exact this.trans h9)
    have g1:=cast (congrArg (fun d:Dat=>nX (s :: q) d.1 d.2) hq) g1
    simp only at g1
    cases s with
    | gL m=>exact g1.elim
    | idx i=>
      obtain ⟨p1,p2,p3⟩:=g1
      rw [hRk] at g2
      have hwn:eB α R r=none:=by simp [eB,hk]
      have amC:eB (aJ α r (α.loc r) (α.hdr r) (α.fo r)) (kg R e kk ys) r=none:=by
        have hkk:(kg R e kk ys).kind=R.kind:=rfl
        unfold eB
        rw [hkk,hk]
      have hd2:(aJ α r (α.loc r) (α.hdr r) (α.fo r)).hdr r=α.hdr r:=by simp [aJ,upd_same]
      rw [amC,hd2]
      simp only [bF] at g2
      split at g2
      · rename_i ad m c hh
        obtain ⟨k1,c1,k2⟩:=vQ (h':=hp w') (own:=[]) q (y:=(show List (El kk) from ys).getD i.toNat kk.zero) (cs':=qC (hp w') ad.block (ad.off+i.toNat * kk.size) kk.size) p3 (fun t ht=>by
          have:=pG q t ht
          rw [wL hf] at this
          simp at this) g2
        refine ⟨⟨p1, ?_,k1⟩,c1,b,o, ?_,g3⟩
        · show i<((ys.length:Nat):Int)
          have:i<((xs.length:Nat):Int):=p2
          omega
        · show bF (hp w') (.idx i :: q) (.sl e kk) (α.hdr r) none=_
          rw [hh]
          simp only [bF]
          exact k2
      · simp at g2
theorem adV {own:List TypeId} {ok:Nat→Prop} {e:TypeId} {kk:K} {xs zs:List (El kk)} {b q n c s:Nat} {fo:List Nat} {news:List Value} (hf:kk.flat=true) (he:ay e own=true) (hs:s+zs.length≤xs.length) (hz:0<zs.length) (hkk:0<kk.size)
    (H:Ow (hp w) own ok (.sl e kk) xs [.slice (some ⟨b,q,none⟩) n c] fo) (hnl:news.length=zs.length * kk.size) (hel:∀i (hi:i<zs.length),Vw (hp w) (fun _=>True) kk zs[i] (nS news kk.size i)) (h1:∀v∈news,v.oneCell'=true) :
    (storeCells ⟨b,q+s * kk.size,none⟩ news).run P w=.ok () (w.setCells b (q+s * kk.size) news)∧b∈fo∧q8 (hp w) b=some e∧(∀b',b'≠b→hp (w.setCells b (q+s * kk.size) news) b'=hp w b')∧(w.setCells b (q+s * kk.size) news).heap.size=w.heap.size∧
      ∀ok',Ow (hp (w.setCells b (q+s * kk.size) news)) own ok' (.sl e kk) (xs.take s++zs++xs.drop (s+zs.length)) [.slice (some ⟨b,q,none⟩) n c] fo:=by
  unfold Ow at H
  rw [if_pos he] at H
  obtain ⟨a0,n',c',e1,e2,e3,H⟩:=H
  simp only [List.cons.injEq,Value.slice.injEq,and_true] at e1
  obtain ⟨rfl,rfl,rfl⟩:=e1
  have e2:n=xs.length:=e2
  rcases H with ⟨hc,_⟩ | ⟨bb,q',arr,lo,hi,ea,hb,hfr,hsz,bz,hl,hp0,H⟩
  · omega
  · simp only [apd,Addr.mk.injEq,and_true] at ea
    obtain ⟨rfl,rfl⟩:=ea
    have hm:(s+zs.length) * kk.size≤c * kk.size:=apJ _ (by omega)
    rw [Nat.add_mul] at hm
    have hle:q+s * kk.size+news.length≤arr.size:=by rw [hnl]; omega
    have hst:=nI (P:=P) (o:=q+s * kk.size) news hb hfr hle h1
    obtain ⟨s1,s2,kP,s3,s4,s5,s6⟩:=uV b news w arr e (lo,hi) (q+s * kk.size) hb hle
    have h0:∀l∈bz,l=[]:=by
      intro l hl'
      obtain ⟨i,hi',rfl⟩:=List.mem_iff_getElem.1 hl'
      have hl:bz.length=xs.length:=hl
      obtain ⟨ds,_,h2⟩:=H i (by show i<xs.length; omega)
      have:=KA hf h2
      rw [←this]; simp [apr,hi']
    have hg0:∀i,bz.getD i []=[]:=fun i=>by
      by_cases hi:i<bz.length
      · have:=h0 (bz[i]) (apG hi)
        simp [apr,hi,this]
      · simp [apr,hi]
    refine ⟨hst,hp0.mem_iff.2 (by simp),by unfold q8; rw [hb],s1,s2,fun ok'=>?_⟩
    unfold Ow
    rw [if_pos he]
    have hlen:(xs.take s++zs++xs.drop (s+zs.length)).length=xs.length:=by simp; omega
    refine ⟨_,_,_,rfl,by show n=(xs.take s++zs++xs.drop (s+zs.length)).length; omega,e3, .inr ⟨b,q,kP,lo,hi,rfl,s3,by rw [s4]; exact hfr,by rw [s4]; exact hsz,bz,by show bz.length=(xs.take s++zs++xs.drop (s+zs.length)).length; rw [hlen]; exact hl,hp0,fun i hi=>?_⟩⟩
    rw [hg0]
    have hi':i<xs.length:=by have:i<(xs.take s++zs++xs.drop (s+zs.length)).length:=hi; omega
    have hcell:∀t,cellAt (hp (w.setCells b (q+s * kk.size) news)) b t=kP[t]?:=fun t=>by unfold cellAt; rw [s3]
    have hcell0:∀t,cellAt (hp w) b t=arr[t]?:=fun t=>by unfold cellAt; rw [hb]
    by_cases hin:s≤i∧i<s+zs.length
    · have hx:(show List (El kk) from xs.take s++zs++xs.drop (s+zs.length))[i]'hi=zs[i - s]'(by omega):=by
        show (xs.take s++zs++xs.drop (s+zs.length))[i]'hi=_
        rw [List.getElem_append_left (by simp; omega),List.getElem_append_right (by simp; omega)]
        congr 1
        simp
        omega
      rw [hx]
      have hlt:i - s<zs.length:=by omega
      have hv:=hel (i - s) hlt
      refine ⟨nS news kk.size (i - s),fun j hj=>?_,oZ (fun t ht=>?_) (iA hf hv)⟩
      · rw [sH hnl hlt] at hj
        rw [hcell,mH hj]
        have hb2:(i - s+1) * kk.size≤zs.length * kk.size:=apJ _ (by omega)
        rw [Nat.add_mul,Nat.one_mul] at hb2
        have hi2:i * kk.size=s * kk.size+(i - s) * kk.size:=by rw [←Nat.add_mul]; congr 1; omega
        rw [show q+i * kk.size+j=q+s * kk.size+((i - s) * kk.size+j) by omega]
        exact s5 _ (by rw [hnl]; omega)
      · rw [wL hf] at ht; simp at ht
    · have hx:(show List (El kk) from xs.take s++zs++xs.drop (s+zs.length))[i]'hi=xs[i]'hi':=by
        show (xs.take s++zs++xs.drop (s+zs.length))[i]'hi=_
        by_cases hlt:i<s
        · rw [List.getElem_append_left (by simp; omega),List.getElem_append_left (by simp; omega)]
          simp
        · rw [List.getElem_append_right (by simp; omega)]
          simp only [List.getElem_drop]
          congr 1
          simp
          omega
      rw [hx]
      obtain ⟨ds,g1,g2⟩:=H i hi'
      have hg:=hg0 i
      rw [hg] at g2
      refine ⟨ds,fun j hj=>?_,oZ (fun t ht=>by rw [wL hf] at ht; simp at ht) (iA hf (lu (fun _=>True) (fun _ _=>trivial) (fun _ _=>trivial) g2))⟩
      rw [hcell]
      have hj':=g1 j hj
      rw [hcell0] at hj'
      rw [←hj']
      have hds:=dn g2
      refine s6 _ fun hc=>hin ?_
      rw [hnl] at hc
      constructor
      · refine apA fun h=>?_
        have:(i+1) * kk.size≤s * kk.size:=apJ _ (by omega)
        rw [Nat.add_mul,Nat.one_mul] at this
        omega
      · refine apA fun h=>?_
        have:(s+zs.length) * kk.size≤i * kk.size:=apJ _ (by omega)
        rw [Nat.add_mul] at this
        omega
end
section
variable {P:Program} {T:ji} {cx:Cx} {σ:St} {α:dK} {F:List Nat} {a:Act} {w:World} {o:Oper} {d:Nat} {ws:List Wr} {r:Nat} {R:Root}
theorem UI (H:Rel cx σ α F a w) (hr:aR σ r R) (hv:bq σ R) (hk:R.kind=.anon) {e:TypeId} {kk:K} {xs zs:List (El kk)} {s:Nat} (hq:(⟨R.k,R.x⟩:Dat)=⟨.sl e kk,xs⟩) (hf:kk.flat=true) (he:ay e R.own=true) (hkk:0<kk.size) (hs:s+zs.length≤xs.length)
    {b:Option Addr} {n c:Nat} (hh:α.hdr r=[.slice b n c]) {bb:Option Addr} (hbb:0<zs.length→bb=b.map (·.add (s * kk.size)))
    {news:List Value} (hnl:news.length=zs.length * kk.size) (hel:∀i (hi:i<zs.length),Vw (hp w) (fun _=>True) kk zs[i] (nS news kk.size i)) (h1:∀v∈news,v.oneCell'=true) :
    ∃w',(∀ad,bb=some ad→(storeCells ad news).run P w=.ok () w')∧(zs.length=0→w'=w)∧(0<zs.length→∃ad,bb=some ad)∧
      Rel cx (az σ r (kg R e kk (xs.take s++zs++xs.drop (s+zs.length)))) (aJ α r (α.loc r) (α.hdr r) (α.fo r)) [] a w'∧
      ∀g v,g≤R.g→bI cx σ α F w (.ref r g) v→bI cx (az σ r (kg R e kk (xs.take s++zs++xs.drop (s+zs.length)))) (aJ α r (α.loc r) (α.hdr r) (α.fo r)) [] w' (.ref r g) v:=by
  have hRk:R.k=.sl e kk:=congrArg (fun q:Dat=>q.1) hq
  have hO:Ow (hp w) R.own (iT cx σ α F w R.tags) (.sl e kk) xs [.slice b n c] (α.fo r):=by
    have:=cast (congrArg (fun q:Dat=>Ow (hp w) R.own (iT cx σ α F w R.tags) q.1 q.2 (α.hdr r) (α.fo r)) hq) ((H.roots r R hr).ow hv)
    simp only at this
    rw [hh] at this
    exact this
  by_cases hz:0<zs.length
  · have hb0:∃bk q,b=some ⟨bk,q,none⟩:=by
      have LB:=hO
      unfold Ow at LB
      rw [if_pos he] at LB
      obtain ⟨a0,n',c',e1,e2,e3,H'⟩:=LB
      simp only [List.cons.injEq,Value.slice.injEq,and_true] at e1
      obtain ⟨rfl,rfl,rfl⟩:=e1
      have e2:n=xs.length:=e2
      rcases H' with ⟨hc,_⟩ | ⟨bk,q,arr,lo,hi,ea,_⟩
      · omega
      · exact ⟨bk,q,ea⟩
    obtain ⟨bk,q,rfl⟩:=hb0
    obtain ⟨g1,g2,g3,g4,g5,g6⟩:=adV (P:=P) (w:=w) hf he hs hz hkk hO hnl hel h1
    have hb1:bb=some ⟨bk,q+s * kk.size,none⟩:=by rw [hbb hz]; simp [addr_add]
    obtain ⟨r1,r2⟩:=VN (w':=w.setCells bk (q+s * kk.size) news) H hr hv hk (ys:=xs.take s++zs++xs.drop (s+zs.length)) hq hf (by simp; omega) (qD _ _ _ _) (by omega)
      (fun b' hb'=>by
        by_cases e:b'=bk
        · subst e; exact ⟨g2,g3⟩
        · exact absurd (g4 b' e) hb') (fun ok=>by rw [hh]; exact g6 ok)
    exact ⟨_,fun ad ha=>by rw [hb1] at ha; simp only [apd] at ha; subst ha; exact g1,fun h=>by omega,fun _=>⟨_,hb1⟩,r1,r2⟩
  · have hz0:zs=[]:=List.eq_nil_of_length_eq_zero (by omega)
    subst hz0
    have hn0:news=[]:=List.eq_nil_of_length_eq_zero (by simpa using hnl)
    subst hn0
    have hys:xs.take s++[]++xs.drop (s+([]:List (El kk)).length)=xs:=by simp
    obtain ⟨r1,r2⟩:=VN (w':=w) H hr hv hk (ys:=xs.take s++[]++xs.drop (s+([]:List (El kk)).length)) hq hf (by simp) ⟨rfl,rfl,rfl⟩ (apu _) (fun b' hb'=>absurd rfl hb') (fun ok=>by
      rw [hys,hh]
      have hO2:=gP (ok':=ok) (dm (k:=.sl e kk) (own:=R.own) (fun t ht=>by simp only [K.tys,wL hf,apx] at ht; subst ht; exact he)) hO
      exact hO2)
    exact ⟨w,fun ad _=>by cases ad; rfl,fun _=>rfl,fun h=>by simp at h,r1,r2⟩
end
section
variable {P:Program} {T:ji} {cx:Cx} {σ:St} {α:dK} {F:List Nat} {a:Act} {w:World} {o:Oper} {d:Nat} {ws:List Wr} {r:Nat} {R:Root}
theorem wV {A:Type} {z:A} {g:Nat} {k:Root→(e:TypeId)→(kk:K)→List (El kk)→Prog A} (h:(ownRow r g k).ends σ z) :
    ∃R e kk xs,aR σ r R∧bq σ R∧R.g=g∧(⟨R.k,R.x⟩:Dat)=⟨.sl e kk,xs⟩∧kk.flat=true∧ay e R.own=true∧(k R e kk xs).ends σ z:=by
  unfold ownRow at h
  obtain ⟨R,hr,hv,h⟩:=cO h
  rcases aB h with ⟨hg,h⟩ | ⟨_,h⟩
  · have hK:∀q:Dat,(⟨R.k,R.x⟩:Dat)=q→(match q.1,q.2 with
        | .sl e kk,xs=>bif kk.flat && ay e R.own then k R e kk (show List (El kk) from xs) else .fail
        | _,_=>Prog.fail).ends σ z→∃R e kk xs,aR σ r R∧bq σ R∧R.g=g∧(⟨R.k,R.x⟩:Dat)=⟨.sl e kk,xs⟩∧kk.flat=true∧ay e R.own=true∧(k R e kk xs).ends σ z:=by
      intro q hq hh
      obtain ⟨qk,qx⟩:=q
      cases qk with
      | sl e kk=>
        simp only at hh
        rcases aB hh with ⟨hc,hh⟩ | ⟨_,hh⟩
        · simp only [apj] at hc
          exact ⟨R,e,kk,qx,hr,hv,aph hg,hq,hc.1,hc.2,hh⟩
        · exact hh.elim
      | _=>exact hh.elim
    exact hK _ rfl h
  · exact h.elim
theorem Ij (H:Rel cx σ α F a w) (hr:aR σ r R) (hv:bq σ R) {e:TypeId} {kk:K} {xs:List (El kk)} (hq:(⟨R.k,R.x⟩:Dat)=⟨.sl e kk,xs⟩) (he:ay e R.own=true) {v:Value} (h:VC R.k v (α.hdr r)) :
    ∃b n c,v=.slice b n c∧α.hdr r=[.slice b n c]∧n=xs.length∧n≤c:=by
  have hO:=cast (congrArg (fun q:Dat=>Ow (hp w) R.own (iT cx σ α F w R.tags) q.1 q.2 (α.hdr r) (α.fo r)) hq) ((H.roots r R hr).ow hv)
  have hV:VC (.sl e kk) v (α.hdr r):=cast (congrArg (fun q:Dat=>VC q.1 v (α.hdr r)) hq) h
  simp only at hO
  unfold Ow at hO
  rw [if_pos he] at hO
  obtain ⟨b,n,c,e1,e2,e3,_⟩:=hO
  rw [hV.1] at e1
  simp only [List.cons.injEq,and_true] at e1
  exact ⟨b,n,c,e1,by rw [hV.1,e1],e2,e3⟩
theorem Sr {len cap:Nat} {lo hi:Option Int} {l h:Option Value} (hl:lo=none→l=none) (hl':∀j,lo=some j→∃ik,l=some (.int ik j)) (hh:hi=none→h=none) (hh':∀j,hi=some j→∃ik,h=some (.int ik j))
    (h0:0≤lo.getD 0) (h1:lo.getD 0≤hi.getD (len:Int)) (h2:hi.getD (len:Int)≤(cap:Int)) :
    (Instr.sliceBounds true len cap l h none).run P w=.ok ((lo.getD 0).toNat,(hi.getD (len:Int)).toNat,cap) w:=by
  unfold Instr.sliceBounds
  cases hi with
  | none=>
    rw [hh rfl]
    simp only [Option.getD_none] at h1 h2
    cases lo with
    | none=>rw [hl rfl]; simp
    | some j=>
      obtain ⟨ik,e⟩:=hl' j rfl
      simp only [Option.getD_some] at h0 h1
      rw [e]
      simp [Instr.sliceBound,asIntOf,h0,h1]
  | some i=>
    obtain ⟨ik,e⟩:=hh' i rfl
    simp only [Option.getD_some] at h1 h2
    have f1:0≤i:=by omega
    rw [e]
    cases lo with
    | none=>rw [hl rfl]; simp [Instr.sliceBound,asIntOf,f1,h2]
    | some j=>
      obtain ⟨ik2,e2⟩:=hl' j rfl
      simp only [Option.getD_some] at h0 h1
      have g3:j≤max i 0:=by omega
      rw [e2]
      simp [Instr.sliceBound,asIntOf,f1,h2,h0]
      omega
theorem MJ {t e:TypeId} {k:K} (ht:fM P T t (.sl e k)) {b:Option Addr} {n c:Nat} {lo hi:Option Int} {l h:Option Value} (hl:lo=none→l=none) (hl':∀j,lo=some j→∃ik,l=some (.int ik j)) (hh:hi=none→h=none) (hh':∀j,hi=some j→∃ik,h=some (.int ik j))
    (h0:0≤lo.getD 0) (h1:lo.getD 0≤hi.getD (n:Int)) (h2:hi.getD (n:Int)≤(c:Int)) :
    (Instr.sliceAt t (.slice b n c) l h none).run P w=.ok (.slice (if c=(lo.getD 0).toNat then b else b.map (·.add ((lo.getD 0).toNat * k.size))) ((hi.getD (n:Int)).toNat - (lo.getD 0).toNat) (c - (lo.getD 0).toNat)) w:=by
  obtain ⟨hu,he,_,_⟩:=ht.sl
  unfold Instr.sliceAt Instr.slice
  simp only [apD,run_underlying hu,Result.andThen,Sr (w:=w) hl hl' hh hh' h0 h1 h2,he.info.sizeOf w,apI]
theorem add_add (b:Option Addr) (m n:Nat):(b.map (·.add m)).map (·.add n)=b.map (·.add (m+n)):=by
  cases b with
  | none=>rfl
  | some ad=>obtain ⟨x,y,z⟩:=ad; by_cases hm:m=0 <;> by_cases hn:n=0 <;> simp [Addr.add,hm,hn,Nat.add_assoc]
theorem add_zero (b:Option Addr):b.map (·.add 0)=b:=by
  cases b with
  | none=>rfl
  | some ad=>obtain ⟨x,y,z⟩:=ad; simp [Addr.add]
theorem Nk (hT:fu P T) (H:Rel cx σ α F a w) (hd:o.dst=some d) (hdn:d<cx.nt) {t:TypeId} {x:Operand} {lo hi mx:Option Operand}
    (h:(match T.ty t with
      | some kk=>dN x fun a=>Jz lo fun lo=>Jz hi fun hi=>Jz mx fun mx=>VK kk a lo hi mx fun u=>.ret [Wr.s d (.one u)]
      | none=>(.fail:Prog (List Wr))).ends σ ws) (ho:o.op=.slice t x lo hi mx):sM P cx o a w (aC ws σ):=by
  cases hty:T.ty t with
  | none=>rw [hty] at h; exact h.elim
  | some k0=>
    rw [hty] at h
    have ht:=hT.ty t k0 hty
    obtain ⟨u,h1,h2,h⟩:=bR H h
    obtain ⟨lo',h,l1,l2⟩:=Cr H h
    obtain ⟨hi',h,g1,g2⟩:=Cr H h
    obtain ⟨mx',h,m1,m2⟩:=Cr H h
    have hl:lo'=none→lo.map a.eval=none:=fun e=>by rw [l1.1 e]; rfl
    have hh:hi'=none→hi.map a.eval=none:=fun e=>by rw [g1.1 e]; rfl
    cases u with
    | ref r g=>
      simp only [VK] at h
      obtain ⟨R,e,kk,xs,hr,hv,hg,hq,hf,he,h⟩:=wV h
      rcases aB h with ⟨hk0,h5⟩ | ⟨_,h5⟩
      · clear h
        have ek:=K.eq_of_beq hk0
        subst ek
        obtain ⟨hka,H6⟩:=h1 R hr hg
        obtain ⟨b,n,c,ev,eh,en,hnc⟩:=Ij H hr hv hq he H6
        cases mx' with
        | none=>
          have hmx:mx.map a.eval=none:=by rw [m1.1 rfl]; rfl
          obtain ⟨⟨c1,c2,c3⟩,h6⟩:=h5
          rw [aD h6]
          have hrun:=MJ (P:=P) (w:=w) (b:=b) (n:=n) (c:=c) ht hl l2 hh g2 c1 (by rw [en]; exact c2) (by rw [en]; omega)
          refine bM (x:=.one (.part r g (lo'.getD 0).toNat (hi'.getD (xs.length:Int)).toNat kk.size)) H hd hdn (v:=.slice (if c=(lo'.getD 0).toNat then b else b.map (·.add ((lo'.getD 0).toNat * kk.size))) ((hi'.getD (n:Int)).toNat - (lo'.getD 0).toNat) (c - (lo'.getD 0).toNat)) ?_ ?_ ⟨R,hr.1, .inr (by omega)⟩
          · simp only [execOp,ho,ev,hmx,apD,hrun,apw,apI]
          · refine ⟨_,b,n,c,by rw [en], ?_,by omega,by rw [en]; omega,hnc, ?_⟩
            · rintro (h0 | h0)
              · rw [h0]; simp [add_zero]
              · rw [if_neg h0]
            · rw [←ev]; exact h1
        | some m=>
          obtain ⟨jk,hmx⟩:=m2 m rfl
          simp only at h5
          rcases aB h5 with ⟨hs,h6⟩ | ⟨_,h6⟩
          · obtain ⟨⟨c1,c2,c3,c4⟩,h7⟩:=h6
            rw [aD h7]
            cases hi' with
            | none=>simp at hs
            | some i=>
              obtain ⟨ik,ehi⟩:=g2 i rfl
              simp only [Option.getD_some] at c2 c3
              obtain ⟨hu,he',_,_⟩:=ht.sl
              have c5:m≤(c:Int):=by omega
              have hrun:∃v,(Instr.sliceAt t (.slice b n c) (lo.map a.eval) (hi.map a.eval) (mx.map a.eval)).run P w=.ok v w:=by
                unfold Instr.sliceAt Instr.slice Instr.sliceBounds
                rw [hmx,ehi]
                cases lo' with
                | none=>
                  rw [hl rfl]
                  simp only [Option.getD_none] at c1 c2
                  refine ⟨.slice (if m.toNat=0 then b else b.map (·.add (0 * kk.size))) (i.toNat - 0) (m.toNat - 0), ?_⟩
                  simp [run_underlying hu,Instr.sliceBound,asIntOf,c5,c3,he'.info.sizeOf w,show 0≤m by omega,show 0≤i by omega,show (i≤max m 0) by omega,Result.andThen]
                | some j=>
                  obtain ⟨lk,elo⟩:=l2 j rfl
                  rw [elo]
                  simp only [Option.getD_some] at c1 c2
                  refine ⟨.slice (if m.toNat=j.toNat then b else b.map (·.add (j.toNat * kk.size))) (i.toNat - j.toNat) (m.toNat - j.toNat), ?_⟩
                  simp [run_underlying hu,Instr.sliceBound,asIntOf,c5,c3,c1,he'.info.sizeOf w,show 0≤m by omega,show 0≤i by omega,show (i≤max m 0) by omega,show (j≤max i 0) by omega,Result.andThen]
              obtain ⟨v,hrun⟩:=hrun
              exact bM (x:=.one .undef) H hd hdn (v:=v) (by simp only [execOp,ho,ev,apD,hrun,apw,apI]) trivial trivial
          · exact h6.elim
      · exact h5.elim
    | part r g l0 h0 sz=>
      simp only [VK] at h
      obtain ⟨R,e,kk,xs,hr,hv,hg,hq,hf,he,h⟩:=wV h
      rcases aB h with ⟨hk0,h5⟩ | ⟨_,h5⟩
      · clear h
        simp only [apj] at hk0
        have ek:=K.eq_of_beq hk0.1.1
        subst ek
        have hsz:kk.size=sz:=aph hk0.1.2
        subst hsz
        cases mx' with
        | some m=>simp at hk0
        | none=>
          have hmx:mx.map a.eval=none:=by rw [m1.1 rfl]; rfl
          obtain ⟨⟨c1,c2,c3⟩,h6⟩:=h5
          rw [aD h6]
          obtain ⟨b',b,n,c,ev,eb,e2,e3,e4,hrf⟩:=h1
          obtain ⟨hka,H6⟩:=hrf R hr hg
          obtain ⟨b2,n2,c2',ev2,eh,en,hnc⟩:=Ij H hr hv hq he H6
          simp only [Value.slice.injEq] at ev2
          obtain ⟨rfl,rfl,rfl⟩:=ev2
          have hrun:=MJ (P:=P) (w:=w) (b:=b') (n:=h0 - l0) (c:=c - l0) ht hl l2 hh g2 c1 c2 (by omega)
          refine bM (x:=.one (.part r g (l0+(lo'.getD 0).toNat) (l0+(hi'.getD ((h0 - l0:Nat):Int)).toNat) kk.size)) H hd hdn
            (v:=.slice (if c - l0=(lo'.getD 0).toNat then b' else b'.map (·.add ((lo'.getD 0).toNat * kk.size))) ((hi'.getD ((h0 - l0:Nat):Int)).toNat - (lo'.getD 0).toNat) (c - l0 - (lo'.getD 0).toNat)) ?_ ?_ ⟨R,hr.1, .inr (by omega)⟩
          · simp only [execOp,ho,ev,hmx,apD,hrun,apw,apI]
          · refine ⟨if c - l0=(lo'.getD 0).toNat then b' else b'.map (·.add ((lo'.getD 0).toNat * kk.size)),b,n,c, ?_, ?_,by omega,by rw [en]; omega,e4,hrf⟩
            · rw [show l0+(hi'.getD ((h0 - l0:Nat):Int)).toNat - (l0+(lo'.getD 0).toNat)=(hi'.getD ((h0 - l0:Nat):Int)).toNat - (lo'.getD 0).toNat by omega,show c - (l0+(lo'.getD 0).toNat)=c - l0 - (lo'.getD 0).toNat by omega]
            · rintro (h0' | h0')
              · have z1:l0=0:=by omega
                have z2:(lo'.getD 0).toNat=0:=by omega
                rw [eb (.inl z1),z1,z2]
                simp [add_zero]
              · rw [if_neg (by omega)]
                rw [eb (by omega),add_add,Nat.add_mul]
      · exact h5.elim
    | _=>exact h.elim
end
section
variable {P:Program} {T:ji} {cx:Cx} {σ:St} {α:dK} {F:List Nat} {a:Act} {w:World} {o:Oper} {d:Nat} {ws:List Wr} {r:Nat} {R:Root}
theorem VI {c:Call} {u:AV} (h:fG cx σ α F w [u] (c.args.toList.map a.eval)):∃x,c.args.toList=[x]∧bI cx σ α F w u (a.eval x):=by
  revert h
  generalize c.args.toList=l
  intro h
  cases l with
  | nil=>exact h.elim
  | cons x l=>cases l with
    | nil=>exact ⟨x,rfl,h.1⟩
    | cons _ _=>exact h.2.elim
theorem MR {c:Call} {u v:AV} (h:fG cx σ α F w [u,v] (c.args.toList.map a.eval)):∃x y,c.args.toList=[x,y]∧bI cx σ α F w u (a.eval x)∧bI cx σ α F w v (a.eval y):=by
  revert h
  generalize c.args.toList=l
  intro h
  cases l with
  | nil=>exact h.elim
  | cons x l=>cases l with
    | nil=>exact h.2.elim
    | cons y l=>cases l with
      | nil=>exact ⟨x,y,rfl,h.1,h.2.1⟩
      | cons _ _=>exact h.2.2.elim
theorem U2 {kk:K} {m:Nat} (hk:0<kk.size) (hz:(bV kk).length=kk.size) (hg:gN kk=true):(zW (bV kk).toArray (m * kk.size)).toList.length=m * kk.size∧(∀i,i<m→nS (zW (bV kk).toArray (m * kk.size)).toList kk.size i=bV kk)∧
    ∀v∈(zW (bV kk).toArray (m * kk.size)).toList,v.oneCell'=true:=by
  refine ⟨by simp [zW],fun i hi=>SF hk hz hi,fun v hv=>?_⟩
  simp only [zW,Array.toList_map,apO] at hv
  obtain ⟨i,_,rfl⟩:=hv
  have hlt:i % (bV kk).toArray.size<(bV kk).toArray.size:=Nat.mod_lt _ (by simp [hz,hk])
  have h1:=O5 hg (lu (h:=hp (default:World)) (own:=kk.tys) (ok:=fun _=>False) (fun _=>True) (fun _ _=>trivial) (fun _ _=>trivial) (Gn hg (fun t ht=>aL.2 ht)))
  rw [getElem!_pos (bV kk).toArray _ hlt]
  exact h1 _ (by simp)
theorem WE (hT:fu P T) (H:Rel cx σ α F a w) {c:Call} (ho:o.op=.call c) (hcb:c.callee=.builtin .clear) {u:AV} {e0:TypeId} {k0:K} (hl:fG cx σ α F w [u] (c.args.toList.map a.eval)) (ht0:(c.argTypes[0]?).bind T.ty=some (.sl e0 k0))
    (h:(TM (.sl e0 k0) u fun ws=>(.ret ws:Prog (List Wr))).ends σ ws):∃v w' α',(execOp a.eval o).run P w=.ok (.value v) w'∧Rel cx (aC ws σ) α' [] a w':=by
  obtain ⟨x,hx,hu⟩:=VI hl
  obtain ⟨t,hat,ht⟩:=ve hT ht0
  cases u with
  | part r g lo hi sz=>
    simp only [TM] at h
    obtain ⟨R,e,kk,xs,hr,hv,hg,hq,hf,he,h⟩:=wV h
    rcases aB h with ⟨hsz,h5⟩ | ⟨_,h5⟩
    · clear h
      simp only [apj] at hsz
      have ek:=K.eq_of_beq hsz.1
      have hsz:=aph hsz.2
      subst hsz
      obtain ⟨rfl,rfl⟩:e=e0∧kk=k0:=by simpa using ek
      rw [aD h5]
      obtain ⟨b',b,n,c',ev,eb,e2,e3,e4,hrf⟩:=hu
      obtain ⟨hka,H6⟩:=hrf R hr hg
      obtain ⟨b2,n2,c2',ev2,eh,en,hnc⟩:=Ij H hr hv hq he H6
      simp only [Value.slice.injEq] at ev2
      obtain ⟨rfl,rfl,rfl⟩:=ev2
      obtain ⟨hun,hel,hks,_⟩:=ht.sl
      have hng:=hel.gN
      have hzl:(bV kk).length=kk.size:=by
        have:=Gn (h:=hp w) (ok:=fun _=>False) (own:=kk.tys) hng (fun t ht=>aL.2 ht)
        exact dn this
      obtain ⟨z1,z2,z3⟩:=U2 (m:=hi - lo) hks hzl hng
      obtain ⟨w',r1,r2,r3,r4,_⟩:=UI (P:=P) (zs:=List.replicate (hi - lo) kk.zero) (s:=lo) H hr hv hka hq hf he hks (by simp; omega) (b:=b) (n:=n) (c:=c') eh (bb:=b') (fun h0=>eb (by
          simp only [List.length_replicate] at h0
          omega)) (news:=(zW (bV kk).toArray ((hi - lo) * kk.size)).toList) (by rw [z1]; simp) (fun i hi'=>by
          have hi2:i<hi - lo:=by simpa using hi'
          rw [z2 i hi2]
          have:(List.replicate (hi - lo) kk.zero)[i]'hi'=kk.zero:=by simp
          rw [this]
          exact lu (own:=kk.tys) (ok:=fun _=>False) _ (fun _ _=>trivial) (fun _ _=>trivial) (Gn hng (fun t ht=>aL.2 ht))) z3
      have hdrop:lo+(List.replicate (hi - lo) kk.zero).length=hi:=by simp; omega
      rw [hdrop] at r4
      obtain ⟨cc,hcc⟩:=jE (P:=P) (a:=a) (w:=w) ho hcb
      have Y4:(c.args.map a.eval)[0]?=some (.slice b' (hi - lo) (c' - lo)):=by
        rw [←Array.getElem?_toList,Array.toList_map,hx]
        simp [ev]
      refine ⟨.tuple #[],w',_, ?_,r4⟩
      rw [hcc]
      have hrun:(Builtin.clear_ c.argTypes o.type (c.args.map a.eval)).run P w=.ok (.tuple #[]) w':=by
        unfold Builtin.clear_
        simp only [hat,Y4]
        by_cases h0:hi - lo=0
        · rw [h0]
          rw [r2 (by simp [h0])]
          cases b' <;> simp [run_underlying hun,Result.andThen]
        · obtain ⟨ad,had⟩:=r3 (by simp; omega)
          subst had
          have hst:=r1 ad rfl
          have hzc:(Builtin.zeroCells (sP kk).cells (hi - lo)).toList=(zW (bV kk).toArray ((hi - lo) * kk.size)).toList:=by
            rw [xx hel.shape]
            unfold Builtin.zeroCells zW
            simp [hzl]
          obtain ⟨m,hm⟩:∃m,hi - lo=m+1:=⟨hi - lo - 1,by omega⟩
          rw [hm] at hzc hst ⊢
          simp only [apD,run_underlying hun,apw,hel.info.zero w,hzc,hst,apI]
      simp only [builtin,apD,hrun,apw,apI]
    · exact h5.elim
  | _=>exact h.elim
end
section
variable {P:Program} {T:ji} {cx:Cx} {σ:St} {α:dK} {F:List Nat} {a:Act} {w:World} {o:Oper} {d:Nat} {ws:List Wr} {r:Nat} {R:Root}
theorem WG (hT:fu P T) (H:Rel cx σ α F a w) (hd:o.dst=some d) (hdn:d<cx.nt) {c:Call} (ho:o.op=.call c) (hcb:c.callee=.builtin .append) {u v:AV} {e0 e1:TypeId} {k0 k1:K} (hl:fG cx σ α F w [u,v] (c.args.toList.map a.eval))
    (ht0:(c.argTypes[0]?).bind T.ty=some (.sl e0 k0)) (ht1:(c.argTypes[1]?).bind T.ty=some (.sl e1 k1)) (h:(TN (.sl e0 k0) d u v fun ws=>(.ret ws:Prog (List Wr))).ends σ ws):sM P cx o a w (aC ws σ):=by
  obtain ⟨x,y,hxy,hu,hv0⟩:=MR hl
  obtain ⟨t,hat,ht⟩:=ve hT ht0
  obtain ⟨t2,abE,ht2⟩:=ve hT ht1
  cases u with
  | part r g l0 h0 sz=>
    cases v with
    | part r' g' l1 h1 sz'=>
      simp only [TN] at h
      obtain ⟨R,e,kk,xs,hr,hv,hg,hq,hf,he,h⟩:=wV h
      rcases aB h with ⟨hc,h5⟩ | ⟨_,h5⟩
      · clear h
        simp only [apj] at hc
        obtain ⟨⟨⟨⟨⟨c1,c2⟩,c3⟩,c4⟩,c5⟩,c6⟩:=hc
        have ek:=K.eq_of_beq c1
        have c2:=aph c2
        have c3:=aph c3
        have c4:=aph c4
        have c5:=aph c5
        have c6:=aph c6
        subst c2 c3 c4 c5 c6
        obtain ⟨rfl,rfl⟩:e=e0∧kk=k0:=by simpa using ek
        obtain ⟨hle,h6⟩:=h5
        rw [aD h6]
        obtain ⟨b1,b,n,cp,ev1,eb1,e2,e3,e4,hrf⟩:=hu
        obtain ⟨b2,b',n',cp',ev2,eb2,f2,f3,f4,amv⟩:=hv0
        obtain ⟨hka,H6⟩:=hrf R hr hg
        obtain ⟨_,alN⟩:=amv R hr hg
        obtain ⟨q1,q2,q3,ev,eh,en,hnc⟩:=Ij H hr hv hq he H6
        simp only [Value.slice.injEq] at ev
        obtain ⟨rfl,rfl,rfl⟩:=ev
        obtain ⟨q1,q2,q3,ev,eh',_,_⟩:=Ij H hr hv hq he alN
        simp only [Value.slice.injEq] at ev
        obtain ⟨rfl,rfl,rfl⟩:=ev
        rw [eh] at eh'
        simp only [List.cons.injEq,Value.slice.injEq,and_true] at eh'
        obtain ⟨rfl,rfl,rfl⟩:=eh'
        have hb1:b1=b:=by rw [eb1 (.inl rfl)]; simp [add_zero]
        subst hb1
        obtain ⟨hun,hel,hks,_⟩:=ht.sl
        have hng:=hel.gN
        have hO:Ow (hp w) R.own (iT cx σ α F w R.tags) (.sl e kk) xs [.slice b1 n cp] (α.fo r):=by
          have:=cast (congrArg (fun q:Dat=>Ow (hp w) R.own (iT cx σ α F w R.tags) q.1 q.2 (α.hdr r) (α.fo r)) hq) ((H.roots r R hr).ow hv)
          simp only at this
          rw [eh] at this
          exact this
        have hV:=lu (fun _=>True) (fun _ _=>trivial) (fun _ _=>trivial) hO
        have hVp:=Vf hV f2 (by omega:h1≤n)
        have hlz:((xs.take h1).drop l1).length=h1 - l1:=by
          have:n=xs.length:=en
          simp; omega
        have hVy:Vw (hp w) (fun _=>True) (.sl e kk) (show List (El kk) from (xs.take h1).drop l1) [.slice b2 (h1 - l1) (cp - l1)]:=by
          by_cases hcl:cp=l1
          · refine ⟨_,_,_,rfl,hlz.symm,by omega,fun h=>?_⟩
            omega
          · rw [if_neg hcl] at hVp
            rw [eb2 (.inr hcl)]
            exact hVp
        obtain ⟨news,hS,hE⟩:=Qo (P:=P) (u:=t2) (xs:=(xs.take h1).drop l1) (v:=a.eval y) (.inl ⟨_,ht2.sl.1⟩) hng rfl (cs:=[.slice b2 (h1 - l1) (cp - l1)]) ⟨by rw [ev2],by rw [ev2]; simp⟩ hVy
        have hzl:((show List (El kk) from (xs.take h1).drop l1)).length=h1 - l1:=hlz
        have hroom:h0+((xs.take h1).drop l1).length≤cp:=by omega
        obtain ⟨w',r1,r2,r3,r4,r5⟩:=UI (P:=P) (zs:=(xs.take h1).drop l1) (s:=h0) H hr hv hka hq hf he hks (by rw [hlz]; have:n=xs.length:=en; omega) (b:=b1) (n:=n) (c:=cp) eh (bb:=b1.map (·.add (h0 * kk.size))) (fun _=>rfl) (news:=news) hS.nl hE hS.one
        rw [hlz] at r4 r5
        have hrun:=yM (P:=P) (ty:=o.type) (t:=t) (u:=t2) ht hS (b:=b1) (n:=h0) (c:=cp) hroom
        have N8:(Builtin.append_ #[t,t2] o.type #[a.eval x,a.eval y]).run P w=.ok (.slice b1 (h0+(h1 - l1)) cp) w':=by
          rw [ev1]
          simp only [Nat.sub_zero]
          rw [hrun,hlz]
          cases hbb:b1 with
          | none=>
            have:((xs.take h1).drop l1).length=0:=by
              refine apA fun hne=>?_
              obtain ⟨ad,had⟩:=r3 (by omega)
              rw [hbb] at had
              simp at had
            rw [r2 this]
            simp [Result.andThen]
          | some ad=>
            have:=r1 (ad.add (h0 * kk.size)) (by rw [hbb]; rfl)
            simp only [this,apw]
        show sM P cx o a w (aC [Wr.s d (.one (.part r g 0 (h0+(h1 - l1)) kk.size))] (az σ r (kg R e kk (xs.take h0++(xs.take h1).drop l1++xs.drop (h0+(h1 - l1))))))
        refine iW (x:=.one (.part r g 0 (h0+(h1 - l1)) kk.size)) (v:=.slice b1 (h0+(h1 - l1)) cp) r4 hd hdn (nH ho hcb hxy hat abE N8) ?_ ⟨_,aK .., .inr (by rw [←hg]; exact apu _)⟩
        refine ⟨b1,b1,n,cp,by simp,fun _=>by simp [add_zero],by omega,by omega,e4,r5 g (.slice b1 n cp) (by omega) hrf⟩
      · exact h5.elim
    | _=>exact h.elim
  | _=>exact h.elim
theorem Rb (hT:fu P T) (H:Rel cx σ α F a w) (hd:o.dst=some d) (hdn:d<cx.nt) {c:Call} (ho:o.op=.call c) (hcb:c.callee=.builtin .len) {r g lo hi sz:Nat} {e0:TypeId} {k0:K} (hl:fG cx σ α F w [.part r g lo hi sz] (c.args.toList.map a.eval))
    (ht0:(c.argTypes[0]?).bind T.ty=some (.sl e0 k0)):sM P cx o a w (aC [.s d (.one (.val (.int .i64) ((hi - lo:Nat):Int) []))] σ):=by
  obtain ⟨x,hx,hu⟩:=VI hl
  obtain ⟨t,hat,ht⟩:=ve hT ht0
  obtain ⟨b',b,n,cp,ev,_⟩:=hu
  have Y4:(c.args.map a.eval)[0]?=some (.slice b' (hi - lo) (cp - lo)):=by
    rw [←Array.getElem?_toList,Array.toList_map,hx]
    simp [ev]
  obtain ⟨cc,hcc⟩:=jE (P:=P) (a:=a) (w:=w) ho hcb
  refine bM H hd hdn ?_ (pJ .i64 (n:=((hi - lo:Nat):Int)) trivial) BC
  rw [hcc]
  simp only [builtin,apD,VQ (ty:=o.type) (w:=w) hat Y4 (.inr ⟨⟨_,ht.sl.1⟩,b',cp - lo,rfl⟩),apw,apI]
theorem Su {t u ty e:TypeId} {k:K} (ht:fM P T t (.sl e k)) {b:Option Addr} {n c m:Nat} {x:Value} {news:List Value} (hs:Src P w k.size u x m news) (hr:m≤n) :
    (Builtin.copy_ #[t,u] ty #[.slice b n c,x]).run P w=(match b with
      | some a=>(storeCells a news).run P w
      | none=>.ok () w).andThen fun _ w'=>.ok (.int .i64 (m:Int)) w':=by
  obtain ⟨hu,he,_,_⟩:=ht.sl
  have e1:=hs.len w
  have e2:=hs.cells.1
  have hm:Nat.min m n=m:=Nat.min_eq_left hr
  cases b <;> simp [Builtin.copy_,run_underlying hu,he.info.sizeOf w,e1,e2,hm,Result.andThen,goInt]
theorem YJ (hT:fu P T) (H:Rel cx σ α F a w) (hd:o.dst=some d) (hdn:d<cx.nt) {c:Call} (ho:o.op=.call c) (hcb:c.callee=.builtin .copy) {u v:AV} {e0 e1:TypeId} {k0 k1:K} (hl:fG cx σ α F w [u,v] (c.args.toList.map a.eval)) (hwv:tF σ v)
    (ht0:(c.argTypes[0]?).bind T.ty=some (.sl e0 k0)) (ht1:(c.argTypes[1]?).bind T.ty=some (.sl e1 k1)) (h:(YG (.sl e0 k0) d u v fun ws=>(.ret ws:Prog (List Wr))).ends σ ws):sM P cx o a w (aC ws σ):=by
  obtain ⟨x,y,hxy,hu,hv0⟩:=MR hl
  obtain ⟨t,hat,ht⟩:=ve hT ht0
  obtain ⟨t2,abE,ht2⟩:=ve hT ht1
  cases u with
  | ref r g=>
    simp only [YG] at h
    obtain ⟨R,e,kk,xs,hr,hv,hg,hq,hf,he,h⟩:=wV h
    rcases aB h with ⟨hc,h5⟩ | ⟨_,h5⟩
    · clear h
      have ek:=K.eq_of_beq hc
      obtain ⟨rfl,rfl⟩:e=e0∧kk=k0:=by simpa using ek
      obtain ⟨hun,hel,hks,_⟩:=ht.sl
      have hng:=hel.gN
      obtain ⟨s,h6,_,_,news,_,_,_,_,_,_,hS,hels⟩:=Sy (P:=P) (u:=t2) H (.inl ⟨_,ht2.sl.1⟩) hng hv0 hwv h5
      obtain ⟨hle,h7⟩:=h6
      rw [aD h7]
      obtain ⟨hka,H6⟩:=hu R hr (by omega)
      obtain ⟨b,n,cp,ev,eh,en,hnc⟩:=Ij H hr hv hq he H6
      obtain ⟨bz,DF,_,_,_,hE⟩:=hels [] (fun t ht=>by rw [wL hf] at ht; simp at ht)
      have hb0:b.map (·.add (0 * kk.size))=b:=by rw [Nat.zero_mul]; exact add_zero b
      obtain ⟨w',r1,r2,r3,r4,r5⟩:=UI (P:=P) (zs:=s.xs) (s:=0) H hr hv hka hq hf he hks (by omega) (b:=b) (n:=n) (c:=cp) eh (bb:=b) (fun _=>hb0.symm) (news:=news) hS.nl (fun i hi=>lu (fun _=>True) (fun _ _=>trivial) (fun _ _=>trivial) (hE i hi)) hS.one
      have hxs:xs.take 0++s.xs++xs.drop (0+s.xs.length)=s.xs++xs.drop s.xs.length:=by simp
      rw [hxs] at r4 r5
      have hrun:=Su (P:=P) (ty:=o.type) (t:=t) (u:=t2) ht hS (b:=b) (n:=n) (c:=cp) (by omega)
      have N8:(Builtin.copy_ #[t,t2] o.type #[a.eval x,a.eval y]).run P w=.ok (.int .i64 (s.xs.length:Int)) w':=by
        rw [ev,hrun]
        cases hbb:b with
        | none=>
          have:s.xs.length=0:=by
            refine apA fun hne=>?_
            obtain ⟨ad,had⟩:=r3 (by omega)
            rw [hbb] at had
            simp at had
          rw [r2 this]
          simp [Result.andThen]
        | some ad=>
          have:=r1 ad hbb
          simp only [this,apw]
      have ah4:(execOp a.eval o).run P w=.ok (.value (.int .i64 (s.xs.length:Int))) w':=by
        obtain ⟨cc,hcc⟩:=jE (P:=P) (a:=a) (w:=w) ho hcb
        rw [hcc]
        have h1:c.args.map a.eval=#[a.eval x,a.eval y]:=by
          apply Array.ext'
          rw [Array.toList_map,hxy]
          rfl
        have h2:Builtin.copy_ c.argTypes o.type #[a.eval x,a.eval y]=Builtin.copy_ #[t,t2] o.type #[a.eval x,a.eval y]:=by
          unfold Builtin.copy_
          simp only [hat]
          rfl
        rw [h1]
        simp only [builtin,apD,h2,N8,apw,apI]
      show sM P cx o a w (aC [Wr.s d (.one (.val (.int .i64) (s.xs.length:Int) []))] (az σ r (kg R e kk (s.xs++xs.drop s.xs.length))))
      exact iW (x:=.one (.val (.int .i64) (s.xs.length:Int) [])) r4 hd hdn ah4 (pJ .i64 (n:=((s.xs.length:Nat):Int)) trivial) BC
    · exact h5.elim
  | _=>exact h.elim
theorem Py (hT:fu P T) (H:Rel cx σ α F a w) (hd:o.dst=some d) (hdn:d<cx.nt) (h:(MN T o d fun ws=>(.ret ws:Prog (List Wr))).ends σ ws):sM P cx o a w (aC ws σ):=by
  unfold MN at h
  split at h
  · rename_i t x lo hi mx ho
    exact Nk hT H hd hdn h ho
  · rename_i c ho
    split at h
    · rename_i hcb
      obtain ⟨vs,h1,h2,h⟩:=jm H h
      split at h
      · split at h
        · rename_i ht0
          rw [aD h]
          exact Rb hT H hd hdn ho hcb h1 ht0
        · exact h.elim
      · exact h.elim
    · rename_i hcb
      obtain ⟨vs,h1,h2,h⟩:=jm H h
      split at h
      · split at h
        · rename_i ht0 ht1
          exact WG hT H hd hdn ho hcb h1 ht0 ht1 h
        · exact h.elim
      · exact h.elim
    · rename_i hcb
      obtain ⟨vs,h1,h2,h⟩:=jm H h
      split at h
      · split at h
        · rename_i ht0 ht1
          exact YJ hT H hd hdn ho hcb h1 (h2 _ (by simp)) ht0 ht1 h
        · exact h.elim
      · exact h.elim
    · exact h.elim
  · exact h.elim
end
theorem RQ {p:List Stp}:∀{q:List Stp},wS p q=true→RJ p=RJ q→p=q:=by
  induction p with
  | nil=>intro q h _; cases q with
    | nil=>rfl
    | cons s q=>cases s <;> simp [wS] at h
  | cons s p ih=>
    intro q h hi
    cases q with
    | nil=>cases s <;> simp [wS] at h
    | cons u q=>
      cases s with
      | gL n=>
        cases u with
        | gL m=>
          simp only [wS,apj] at h
          rw [aph h.1,ih h.2 hi]
        | idx j=>simp [wS] at h
      | idx i=>
        cases u with
        | gL m=>simp [wS] at h
        | idx j=>
          simp only [RJ,List.cons.injEq] at hi
          rw [hi.1,ih h hi.2]
theorem Xp {p:List Stp}:∀{q:List Stp},wS p q=true→p.all Stp.qW=true→q.all Stp.qW=true:=by
  induction p with
  | nil=>intro q h _; cases q with
    | nil=>rfl
    | cons s q=>cases s <;> simp [wS] at h
  | cons s p ih=>
    intro q h hi
    cases q with
    | nil=>cases s <;> simp [wS] at h
    | cons u q=>
      cases s with
      | idx i=>simp [Stp.qW] at hi
      | gL n=>
        cases u with
        | idx j=>simp [wS] at h
        | gL m=>
          simp only [wS,apj] at h
          simp only [List.all_cons,apj] at hi ⊢
          exact ⟨rfl,ih h.2 hi.2⟩
theorem N9 {p:List Stp}:p.all Stp.qW=true→RJ p=[]:=by
  induction p with
  | nil=>intro _; rfl
  | cons s p ih=>
    intro h
    simp only [List.all_cons,apj] at h
    cases s with
    | gL n=>exact ih h.2
    | idx i=>exact absurd h.1 (by simp [Stp.qW])
section
variable {P:Program} {T:ji} {cx:Cx} {σ:St} {α:dK} {F:List Nat} {a:Act} {w:World} {o:Oper} {d:Nat} {ws:List Wr} {r:Nat} {R:Root}
theorem Sn {t e:TypeId} {kk:K} (hT:fM P T t (.sl e kk)) (H:Rel cx σ α F a w) (hr:aR σ r R) (hv:bq σ R) {p:List Stp} {xs ys:List (El kk)} {z:Dat} (hg:aT p R.k R.x=some ⟨.sl e kk,xs⟩) (hz:eF p R.k R.x ⟨.sl e kk,ys⟩=some z) (fU:nX p R.k R.x)
    (hown:∀t∈ah p R.k,ay t R.own=true) (hall:∀t∈(K.sl e kk).tys,ay t R.own=true) {cs1:List Value} {b o:Nat} (hn:bF (hp w) p R.k (α.hdr r) (eB α R r)=some (cs1,some (b,o))) {v:Value} (Jw:∃bv nv cv,v=.slice bv nv cv) {lw:List TypeId} (hlw:eU R p∈lw)
    (how:∀gq ok,Ow (hp w) R.own ok (.sl e kk) xs cs1 gq→gq.Nodup→(∀b∈gq,b∈α.fo r)→∃ft,ft.Nodup∧(∀b∈ft,b∈gq∨b∈F)∧Ow (hp w) R.own (fun _=>False) (.sl e kk) ys [v] ft) :
    ∃w',(Instr.storeAt t (.pointer (some ⟨b,o,none⟩)) v).run P w=.ok () w'∧∃α' F',Rel cx (az σ r (bH R z R.own R.tags lw (K.sl e kk).tys R.keep)) α' F' a w':=by
  have K0:=H.roots r R hr
  have hnt:=H.dD r R hr.1
  obtain ⟨_,_,hbb,⟨arr,te,lo,hi,hb,hf,hs,hlast⟩,_⟩:=qB H hr hv hg fU hown hn
  have hone:∀u∈[v],u.oneCell'=true:=by
    intro u hu
    simp only [apx] at hu
    subst hu
    obtain ⟨bv,nv,cv,rfl⟩:=Jw
    rfl
  have amB:VC (.sl e kk) v [v]:=by
    obtain ⟨bv,nv,cv,rfl⟩:=Jw
    exact ⟨rfl,by simp⟩
  have hrun:=I7 (o:=o) hT hb hf (show [v].length=(K.sl e kk).size from rfl) hs amB hone
  obtain ⟨s1,s2,kP,s3,s4,s5,s6⟩:=uV b [v] w arr te (lo,hi) o hb hs
  have s7:=qD b [v] w o
  refine ⟨_,hrun, ?_⟩
  obtain ⟨fd,ok',gq,rest,qo,nY,hn',hpf,hd1,hty,_,Az,hwf,hgo⟩:=H.place hr hv (own':=R.own) hg fU (fun t h=>h) hown
  rw [hn] at hn'
  simp only [apd,apo] at hn'
  obtain ⟨rfl,rfl⟩:=hn'
  have hnd:=K0.nd
  rw [bT,nQ] at hnd
  have Zl:=hpf.nodup hnd.2
  have Vn:∀b∈gq,b∈α.fo r:=fun b hb=>hpf.mem_iff.2 (api _ (api _ hb))
  obtain ⟨ft,al5,Zd,al6⟩:=how gq ok' hd1 (apk.1 (apk.1 Zl).1).1 Vn
  have Jv:b∉F:=H.jB r R hr b hbb
  have alQ:b∉ft:=fun h=>by
    rcases Zd b h with h | h
    · exact hwf b o rfl h
    · exact Jv h
  have hF':∀b',b'∈F.filter (fun b=>!ay b ft)↔b'∈F∧b'∉ft:=fun b'=>by rw [apv]; simp [aV]
  have hP:tu cx σ α F w r R p ⟨.sl e kk,xs⟩ R.own cs1 (some (b,o)) gq rest ⟨.sl e kk,ys⟩ z R.tags lw (K.sl e kk).tys R.keep ft (F.filter fun b=>!ay b ft) [v] (w.setCells b o [v]):=by
    refine ⟨hz,rfl,fun _ h=>h,⟨s7.1,s7.2.1,s7.2.2⟩,by omega,fun b' _ hne=>?_,fun b' o' e'=>?_,fun h=>by simp at h,rfl, .inl (fun h=>by rw [h] at hlw; simp at hlw),⟨fun _ h=>h,hnt.1,hnt.2.2⟩,fun b' hb'=>(Zd b' hb').imp id .inl,al5,fun b' hb'=>.inl ((hF' b').1 hb').1,H.Ca.filter _,
      fun b' hb' h=>((hF' b').1 h).2 hb', .inl rfl, .inl rfl,fun _ q c0 w0 hpq Zw hnq hqs=>?_,fun α' Tn hblk hval=>?_⟩
    · refine .inr (.inr ?_)
      by_cases e:b'=b
      · subst e; exact ⟨o,rfl,hlw⟩
      · exact absurd (s1 b' e) hne
    · simp only [apd,apo] at e'
      obtain ⟨rfl,rfl⟩:=e'
      refine ⟨fun i hi=>?_,arr,kP,te,(lo,hi),hb,s3,s4,fun i hi=>s6 i hi⟩
      unfold cellAt
      rw [s3]
      exact s5 i hi
    · cases q with
      | nil=>
        simp only [bF,apd,apo] at hnq
        exact ⟨trivial,[v],by simp only [bF]; rw [hnq.2]⟩
      | cons s q=>
        cases s with
        | gL n=>exact hpq.elim
        | idx i=>exact absurd (show e∈(K.sl e kk).tys by simp [K.tys]) (Zw e (by simp [ah])).2
    · exact gP (dm hall) (bC (fun _ h=>h.elim) (fun _ h=>h) (fun b' hb'=>s1 b' (fun e=>alQ (e▸hb'))) al6)
  obtain ⟨α',h,_⟩:=hgo hP
  exact ⟨α',_,h⟩
theorem Pv (hT:fu P T) (H:Rel cx σ α F a w) (hd:o.dst=none) {t:TypeId} {x y:Operand} (ho:o.op=.store t x y) {u:AV} {r n m:Nat} {p:List Stp} {k0:K} (hk0:T.ty t=some k0) (h1:bI cx σ α F w u (a.eval x)) (h2:tF σ u) (h3:bI cx σ α F w (.yL r p n m) (a.eval y))
    (h:(Hz k0 u r p n m fun ws=>(.ret ws:Prog (List Wr))).ends σ ws):sM P cx o a w (aC ws σ):=by
  have ht:=hT.ty t k0 hk0
  cases k0 with
  | sl e kk=>
    cases u with
    | ptr r' p' h0=>
      simp only [Hz] at h
      rcases aB h with ⟨hc,h5⟩ | ⟨_,h5⟩
      · clear h
        simp only [apj] at hc
        obtain ⟨hix,h6⟩:=h5
        have er:=aph hc.1
        have ep:=RQ hc.2 hix
        subst er ep
        obtain ⟨R,hr,hv,h7⟩:=cO h6
        rcases aB h7 with ⟨hc2,h8⟩ | ⟨_,h8⟩
        · simp only [apj] at hc2
          obtain ⟨⟨⟨c1,c2⟩,c3⟩,c4⟩:=hc2
          have hall:=kI c4
          cases hg:aT p R.k R.x with
          | none=>rw [hg] at h8; exact h8.elim
          | some dd=>
            rw [hg] at h8
            simp only at h8
            cases hck:bP dd.1 (.sl e kk) dd.2 with
            | none=>rw [hck] at h8; exact h8.elim
            | some xs=>
              rw [hck] at h8
              simp only at h8
              obtain ⟨ek,ey⟩:=bL hck
              obtain ⟨dk,dx⟩:=dd
              simp only at ek ey
              subst ek
              simp only at ey
              subst ey
              cases hz:eF p R.k R.x ⟨.sl e kk,(show List (El kk) from xs).take m⟩ with
              | none=>rw [hz] at h8; exact h8.elim
              | some z=>
                rw [hz] at h8
                rw [aD h8]
                obtain ⟨b0,c,ev,h3⟩:=h3
                obtain ⟨fU,hown,q,wh,hn,hmq⟩:=h3 R hr.1 hv (aph c1) _ hg
                obtain ⟨_,cs,b,o',hn2,ep⟩:=h1.2 R hr.1 hv c3 hown (by rw [hg]; rfl)
                rw [hn] at hn2
                simp only [apd,apo] at hn2
                obtain ⟨rfl,rfl⟩:=hn2
                obtain ⟨w',r1,α',F',r2⟩:=Sn (P:=P) ht H hr hv hg hz fU hown hall hn (v:=.slice b0 m c) ⟨_,_,_,rfl⟩ (lw:=eU R p :: (K.sl e kk).tys) (by simp) (fun gq ok hO hnd hsub=>by
                  unfold Ow at hO
                  have he:ay e R.own=true:=hall e (by simp [K.tys])
                  rw [if_pos he] at hO
                  obtain ⟨a0,n',c',e1,e2,e3,hO⟩:=hO
                  simp only [List.cons.injEq,Value.slice.injEq,and_true] at e1
                  obtain ⟨rfl,rfl,rfl⟩:=e1
                  have e2:q=@List.length (El kk) xs:=e2
                  have hmx:m≤@List.length (El kk) xs:=by omega
                  have hlen:(@List.take (El kk) m xs).length=m:=by rw [List.length_take]; omega
                  rcases hO with ⟨hc0,hf0⟩ | ⟨bb,o0,arr,lo,hi,ea,hb,hfr,hs,bz,hl,hp0,hO⟩
                  · refine ⟨[],List.nodup_nil,by simp, ?_⟩
                    unfold Ow
                    rw [if_pos he]
                    exact ⟨b0,m,c,rfl,hlen.symm,by omega, .inl ⟨hc0,rfl⟩⟩
                  · have hl:bz.length=(show List (El kk) from xs).length:=hl
                    have tN:=hp0.nodup hnd
                    have Zv:((bz.take m).flatten).Sublist bz.flatten:=by
                      have:(bz.take m++bz.drop m).flatten=bz.flatten:=by rw [List.take_append_drop]
                      rw [←this,List.flatten_append]
                      exact List.sublist_append_left _ _
                    refine ⟨bb :: (bz.take m).flatten,(apL.2 ⟨fun h=>(apL.1 tN).1 (Zv.subset h),(apL.1 tN).2.sublist Zv⟩),fun b' hb'=>.inl (hp0.mem_iff.2 (by
                      rcases apq.1 hb' with h | h
                      · rw [h]; exact apK
                      · exact apC _ (Zv.subset h))), ?_⟩
                    have hOO:Ow (hp w) R.own (fun _=>False) (.sl e kk) (show List (El kk) from (show List (El kk) from xs).take m) [.slice b0 m c] (bb :: (bz.take m).flatten):=by
                      unfold Ow
                      rw [if_pos he]
                      refine ⟨b0,m,c,rfl,hlen.symm,by omega, .inr ⟨bb,o0,arr,lo,hi,ea,hb,hfr,hs,bz.take m,by show (bz.take m).length=((show List (El kk) from xs).take m).length; simp [hl], .refl _,fun i hi'=>?_⟩⟩
                      have hi2:i<((show List (El kk) from xs).take m).length:=hi'
                      have hi3:i<m∧i < @List.length (El kk) xs:=by
                        have h9:i<(@List.take (El kk) m xs).length:=hi'
                        rw [hlen] at h9; omega
                      obtain ⟨ds,g1,g2⟩:=hO i hi3.2
                      refine ⟨ds,g1, ?_⟩
                      have e1:(show List (El kk) from (show List (El kk) from xs).take m)[i]'hi'=(show List (El kk) from xs)[i]'hi3.2:=by
                        show ((show List (El kk) from xs).take m)[i]=_
                        simp
                      have e2:(bz.take m).getD i []=bz.getD i []:=by simp [apr,List.getElem?_take,hi3.1]
                      rw [e1,e2]
                      exact gP (dm (fun t ht=>hall t (by simp [K.tys,ht]))) g2
                    exact hOO)
                refine ⟨undef,w',α',F', .inr ⟨?_,rfl⟩, ?_⟩
                · simp only [execOp,ho,ep,ev,apD,r1,apw,apI]
                · rw [hd]
                  exact r2
        · exact h8.elim
      · exact h5.elim
    | _=>exact h.elim
  | _=>exact h.elim
end
section
variable {P:Program} {T:ji} {cx:Cx} {σ:St} {α:dK} {F:List Nat} {a:Act} {w:World} {o:Oper} {d:Nat} {ws:List Wr} {r:Nat} {R:Root}
theorem Wl {t u ty e:TypeId} {kk:K} (ht:fM P T t (.sl e kk)) {own:List TypeId} {ok:Nat→Prop} {xs:List (El kk)} {b:Option Addr} {n c:Nat} {x:Value} {yI:List Nat} {news:List Value}
    (hO:Ow (hp w) own ok (.sl e kk) xs [.slice b n c] yI) (hown:ay e own=true) (hS:Src P w kk.size u x 1 news) (hb:(xs.length+1) * T.bytes e≤140737488355328) :
    ∃w' b1 o1 c1 arr lo hi,(Builtin.append_ #[t,u] ty #[.slice b n c,x]).run P w=.ok (.slice (some ⟨b1,o1,none⟩) (n+1) c1) w'∧(w'.os=w.os∧w'.tape=w.tape∧w'.output=w.output)∧w.heap.size≤w'.heap.size∧n+1≤c1∧n=xs.length∧
      hp w' b1=some (.cells arr e (lo,hi))∧(∀i,i<arr.size→¬(lo≤i∧i<hi))∧o1+c1 * kk.size≤arr.size∧Cells (hp w') b1 (o1+n * kk.size) news∧(∀b',b'<w.heap.size→b'≠b1→hp w' b'=hp w b')∧
      ((b=some ⟨b1,o1,none⟩∧c=c1∧b1∈yI∧q8 (hp w) b1=some e∧gT (hp w) (hp w') b1 (o1+n * kk.size) kk.size)∨
       (b1=w.heap.size∧w.heap.size<w'.heap.size∧(0<n→∃b0 o0,b=some ⟨b0,o0,none⟩∧b0∈yI∧∀i,i<n * kk.size→cellAt (hp w') b1 (o1+i)=cellAt (hp w) b0 (o0+i)))):=by
  have hnl:news.length=kk.size:=by simpa using hS.nl
  unfold Ow at hO
  rw [if_pos hown] at hO
  obtain ⟨a,n',c',e1,e2,e3,hO⟩:=hO
  simp only [List.cons.injEq,Value.slice.injEq,and_true] at e1
  obtain ⟨rfl,rfl,rfl⟩:=e1
  have e2':n=xs.length:=e2
  by_cases hr:n+1≤c
  · have hrun:=yM (ty:=ty) ht hS (b:=b) (n:=n) hr
    rcases hO with ⟨hc0,_⟩ | ⟨bb,q,arr,lo,hi,ea,hbk,hf,hs,xB,hl0,hp0,hO⟩
    · omega
    · subst ea
      have hle:(n+1) * kk.size≤c * kk.size:=apJ _ hr
      rw [Nat.add_mul,Nat.one_mul] at hle
      have hst:=nI (P:=P) (o:=q+n * kk.size) news hbk hf (by rw [hnl]; omega) hS.one
      simp only [Result.andThen,addr_add,hst] at hrun
      obtain ⟨s1,s2,kP,s3,s4,s5,s6⟩:=uV bb news w arr e (lo,hi) (q+n * kk.size) hbk (by rw [hnl]; omega)
      refine ⟨_,bb,q,c,kP,lo,hi,hrun,qD bb news w _,by omega,hr,e2',s3,by rw [s4]; exact hf,by rw [s4]; exact hs,fun i hi'=>?_,fun b' _ h=>s1 b' h, .inl ⟨rfl,rfl,hp0.mem_iff.2 (by simp),by unfold q8; rw [hbk],arr,kP,e,(lo,hi),hbk,s3,s4,fun i hi'=>?_⟩⟩
      · unfold cellAt
        rw [s3]
        exact s5 i hi'
      · exact s6 i (by rw [hnl]; exact hi')
  · obtain ⟨olds,ho1,ho2,ho3⟩:∃olds:List Value,olds.length=n * kk.size∧(Builtin.firstCells kk.size n (.slice b n c)).run P w.drew=.ok olds.toArray w.drew∧(0<n→∃b0 o0,b=some ⟨b0,o0,none⟩∧b0∈yI∧∀i,i<n * kk.size→olds[i]?=cellAt (hp w) b0 (o0+i)):=by
      rcases hO with ⟨hc0,hf0⟩ | ⟨bb,q,arr,lo,hi,ea,hbk,hf,hs,xB,hl0,hp0,hO⟩
      · have hn0:n=0:=by omega
        subst hn0
        refine ⟨[],by simp, ?_,fun h=>by omega⟩
        cases b with
        | none=>exact run_firstCells_none w.drew kk.size 0 0 c
        | some ad=>exact run_firstCells_some (P:=P) w.drew kk.size 0 ad 0 c [] (by simp) (fun j v hj=>by simp at hj)
      · subst ea
        have hle:n * kk.size≤c * kk.size:=apJ _ e3
        have hrow:=Gr (n:=n * kk.size) hbk (by omega:q+n * kk.size≤arr.size)
        have hrl:(qC (hp w) bb q (n * kk.size)).length=n * kk.size:=by simp [qC]
        refine ⟨qC (hp w) bb q (n * kk.size),hrl, ?_,fun _=>⟨bb,q,rfl,hp0.mem_iff.2 (by simp),fun i hi'=>(hrow i (by rw [hrl]; exact hi')).symm⟩⟩
        refine run_firstCells_some (P:=P) w.drew kk.size n ⟨bb,q,none⟩ n c _ hrl (fun j v hj=>?_)
        rw [addr_add,Al]
        have:=hrow j (by rw [hrl]; have:=(List.getElem?_eq_some_iff.1 hj).1; rw [hrl] at this; exact this)
        rw [hj] at this
        exact this
    obtain ⟨nc,hnc,hrun⟩:=CE (ty:=ty) ht hS ho2 hr (by rw [e2']; exact hb)
    have hnew:=sj w.drew (.cells (olds.toArray++news.toArray++Builtin.zeroCells (sP kk).cells (nc - (n+1))) e)
    have hold:∀b',b'<w.heap.size→hp (w.drew.alloc (.cells (olds.toArray++news.toArray++Builtin.zeroCells (sP kk).cells (nc - (n+1))) e)) b'=hp w b':=fun b' h=>qc w.drew _ h
    have hws:w.drew.heap.size=w.heap.size:=rfl
    rw [hws] at hnew
    have hsz2:(w.drew.alloc (.cells (olds.toArray++news.toArray++Builtin.zeroCells (sP kk).cells (nc - (n+1))) e)).heap.size=w.heap.size+1:=Array.size_push ..
    have hzl:(sP kk).cells.size=kk.size:=by
      rw [xx ht.sl.2.1.shape]
      simpa using dn (Gp (h:=hp w) (own:=own) (ok:=ok) ht.sl.2.1.gN)
    have hcell:∀q,q<(olds++news).length→cellAt (hp (w.drew.alloc (.cells (olds.toArray++news.toArray++Builtin.zeroCells (sP kk).cells (nc - (n+1))) e))) w.heap.size (0+q)=(olds++news)[q]?:=by
      intro q hq
      unfold cellAt
      rw [hnew]
      simp only [Nat.zero_add]
      rw [Array.getElem?_append_left (by simpa using hq)]
      simp
    refine ⟨_,w.heap.size,0,nc,_,0,0,hrun,⟨rfl,rfl,rfl⟩,by omega,hnc,e2',hnew,fun i hi=>by omega, ?_,fun i hi=>?_,fun b' h1 _=>hold b' h1, .inr ⟨rfl,by omega,fun hn=>?_⟩⟩
    · simp only [Array.size_append,List.size_toArray,size_zeroCells,hzl,ho1,hnl]
      have h9:n * kk.size+kk.size+(nc - (n+1)) * kk.size=(n+1+(nc - (n+1))) * kk.size:=by rw [Nat.add_mul,Nat.add_mul,Nat.one_mul]
      rw [h9]
      have:n+1+(nc - (n+1))=nc:=by omega
      rw [this]
      omega
    · rw [Nat.add_assoc,hcell _ (by rw [apl,ho1]; omega),List.getElem?_append_right (by omega),ho1]
      congr 1
      omega
    · obtain ⟨b0,o0,z1,z2,z3⟩:=ho3 hn
      refine ⟨b0,o0,z1,z2,fun i hi=>?_⟩
      rw [hcell _ (by rw [apl,ho1]; omega),List.getElem?_append_left (by rw [ho1]; exact hi)]
      exact z3 i hi
end
section
variable {P:Program} {T:ji} {cx:Cx} {σ:St} {α:dK} {F:List Nat} {a:Act} {w:World} {o:Oper} {d:Nat} {ws:List Wr} {r:Nat} {R:Root}
theorem V5 {h h':Heap} {own:List TypeId} {ok ok':Nat→Prop} {e:TypeId} {kk:K} {xs:List (El kk)} {b1 o1 n c:Nat} {fo:List Nat} (hall:∀t∈(K.sl e kk).tys,ay t own=true) (hnd:fo.Nodup)
    (H:Ow h own ok (.sl e kk) xs [.slice (some ⟨b1,o1,none⟩) n c] fo) (hb1:b1∈fo) (hs:gT h h' b1 (o1+n * kk.size) kk.size) (ho:∀b∈fo,b≠b1→h' b=h b):Ow h' own ok' (.sl e kk) xs [.slice (some ⟨b1,o1,none⟩) n c] fo:=by
  have he:ay e own=true:=hall e (by simp [K.tys])
  unfold Ow at H ⊢
  rw [if_pos he] at H ⊢
  obtain ⟨a,n',c',e1,e2,e3,H⟩:=H
  simp only [List.cons.injEq,Value.slice.injEq,and_true] at e1
  obtain ⟨rfl,rfl,rfl⟩:=e1
  have e2':n=xs.length:=e2
  refine ⟨_,n,c,rfl,e2,e3, ?_⟩
  rcases H with ⟨hc0,hf0⟩ | ⟨bb,q,arr,lo,hi,ea,hbk,hf,hsz,bz,hl,hp,H⟩
  · rw [hf0] at hb1; simp at hb1
  · simp only [apd,Addr.mk.injEq,and_true] at ea
    obtain ⟨rfl,rfl⟩:=ea
    obtain ⟨alh,kP,te,fr,s1,s2,s3,s4⟩:=hs
    rw [hbk] at s1
    simp only [apd,Obj.cells.injEq] at s1
    obtain ⟨rfl,rfl,rfl⟩:=s1
    have tN:=hp.nodup hnd
    refine .inr ⟨b1,o1,kP,lo,hi,rfl,s2,by rw [s3]; exact hf,by rw [s3]; exact hsz,bz,hl,hp,fun i hi'=>?_⟩
    obtain ⟨ds,g1,g2⟩:=H i hi'
    have hds:=dn g2
    refine ⟨ds,fun j hj=>?_, ?_⟩
    · have:=g1 j hj
      unfold cellAt at this ⊢
      rw [hbk] at this
      rw [s2]
      simp only at this ⊢
      have hlt:(i+1) * kk.size≤n * kk.size:=apJ _ (by have:i<xs.length:=hi'; omega)
      rw [Nat.add_mul,Nat.one_mul] at hlt
      rw [s4 _ (by omega)]
      exact this
    · refine gP (dm (fun t ht=>hall t (by simp [K.tys,ht]))) (bC (ok:=fun _=>False) (ok':=fun _=>False) (fun _ h=>h.elim) (fun _ h=>h) (fun b' hb'=>?_) (gP (dm (fun t ht=>hall t (by simp [K.tys,ht]))) g2))
      have hm:=sF hb'
      exact ho b' (hp.mem_iff.2 (apC _ hm)) (fun e=>(apL.1 tN).1 (e▸hm))
end
section
variable {P:Program} {T:ji} {cx:Cx} {σ:St} {α:dK} {F:List Nat} {a:Act} {w:World} {o:Oper} {d:Nat} {ws:List Wr} {r:Nat} {R:Root}
theorem abq (hT:fu P T) (H:Rel cx σ α F a w) (hd:o.dst=some d) (hdn:d<cx.nt) {c:Call} (ho:o.op=.call c) (hcb:c.callee=.builtin .append) {u v:AV} {t:TypeId} {e1:TypeId} {k1:K} (hl:fG cx σ α F w [u,v] (c.args.toList.map a.eval))
    (hat:c.argTypes[0]?=some t) (ht1:(c.argTypes[1]?).bind T.ty=some (.sl e1 k1)) (h:(ad3 T d t u v fun ws=>(.ret ws:Prog (List Wr))).ends σ ws):sM P cx o a w (aC ws σ):=by
  obtain ⟨x,y,hxy,hu,hv0⟩:=MR hl
  obtain ⟨t2,abE,ht2⟩:=ve hT ht1
  unfold ad3 at h
  split at h
  · rename_i e kk r p n0 rb gb hty
    have ht:=hT.ty t _ hty
    obtain ⟨B,hrB,hvB,h⟩:=cO h
    rcases aB h with ⟨hc,h5⟩ | ⟨_,h5⟩
    · clear h
      simp only [apj,Bool.not_eq_true',aV] at hc
      obtain ⟨⟨⟨⟨⟨c1,c2⟩,c3⟩,c4⟩,c5⟩,c6⟩:=hc
      have hne:r≠rb:=fun e=>by rw [e] at c3; simp at c3
      have YX:=kI c6
      cases hcB:bP B.k (.sl e kk) B.x with
      | none=>rw [hcB] at h5; exact h5.elim
      | some ys=>
        rw [hcB] at h5
        simp only at h5
        obtain ⟨R,hr,hv,h6⟩:=cO h5
        rcases aB h6 with ⟨hc2,h7⟩ | ⟨_,h7⟩
        · clear h5 h6
          simp only [apj] at hc2
          obtain ⟨⟨⟨q1,q2⟩,q3⟩,q4⟩:=hc2
          have hall:=kI q3
          cases hg:aT p R.k R.x with
          | none=>rw [hg] at h7; exact h7.elim
          | some dd=>
            rw [hg] at h7
            simp only at h7
            cases hck:bP dd.1 (.sl e kk) dd.2 with
            | none=>rw [hck] at h7; exact h7.elim
            | some xs=>
              rw [hck] at h7
              simp only at h7
              obtain ⟨ek,ey⟩:=bL hck
              obtain ⟨dk,dx⟩:=dd
              simp only at ek ey
              subst ek
              simp only at ey
              subst ey
              cases hz:eF p R.k R.x ⟨.sl e kk,xs⟩ with
              | none=>rw [hz] at h7; exact h7.elim
              | some z=>
                rw [hz] at h7
                simp only at h7
                obtain ⟨⟨hy1,hbd⟩,h8⟩:=h7
                obtain ⟨hfr,h9⟩:=gZ h8
                rw [aD h9]
                obtain ⟨hkB,hVB⟩:=hv0 B hrB (aph c1)
                obtain ⟨ekB,eyB⟩:=bL hcB
                obtain ⟨H1,T1,hH,hcl⟩:=kill H hrB hkB hvB
                have hSr:Same σ α (az σ rb cu) (jK α rb) r:=iy hne
                have hr1:=(hSr.live R).2 hr
                have htB:∀n,(rb,n)∉R.tags:=fun n hn=>by
                  have:=apt.1 q4 _ hn
                  simp at this
                have hv1:bq (az σ rb cu) R:=⟨hv.1,by rw [nG htB]; exact hv.2⟩
                obtain ⟨fU,hown,cs,wh,hn,H6⟩:=hu R hr.1 hv (aph q1) _ hg
                have hn1:bF (hp w) p R.k ((jK α rb).hdr r) (eB (jK α rb) R r)=some (cs,wh):=by rw [hSr.hdr,hSr.wh]; exact hn
                obtain ⟨fd,ok',gq,rest,qo,nY,hn',hpf,hd1,aoz,_,Az,hwf,hgo⟩:=H1.place hr1 hv1 (own':=R.own) hg fU (fun t h=>h) hown
                rw [hn1] at hn'
                simp only [apd,apo] at hn'
                obtain ⟨rfl,rfl⟩:=hn'
                have K1:=H1.roots r R hr1
                have hnd:=K1.nd
                rw [bT,nQ] at hnd
                have Zl:=hpf.nodup hnd.2
                have Vn:∀b∈gq,b∈(jK α rb).fo r:=fun b hb=>hpf.mem_iff.2 (api _ (api _ hb))
                have Zc:=(apk.1 (apk.1 Zl).1).1
                have H8:∀b∈gq,b<w.heap.size:=fun b hb=>(K1.mine b (by rw [bT,eZ]; exact .inr (Vn b hb))).1
                have acO:∀b∈gq,b∉α.fo rb++F:=fun b hb=>H1.jB r R hr1 b (by rw [bT,eZ]; exact .inr (Vn b hb))
                have hhd:∃b n c,a.eval x=.slice b n c∧cs=[.slice b n c]:=by
                  have hO:=hd1
                  unfold Ow at hO
                  rw [if_pos (hall e (by simp [K.tys]))] at hO
                  obtain ⟨b,n,c,e1,_⟩:=hO
                  have hV1:=H6.1
                  rw [e1] at hV1
                  simp only [List.cons.injEq,and_true] at hV1
                  exact ⟨b,n,c,hV1.symm,e1⟩
                obtain ⟨b,n,cp,evx,rfl⟩:=hhd
                have hlen1 : @List.length (El kk) ys=1:=hy1
                have hOB:Ow (hp w) B.own (iT cx (az σ rb cu) (jK α rb) (α.fo rb++F) w B.tags) (.sl e kk) ys (α.hdr rb) (α.fo rb):=by
                  have h0:=hH.ow hcl
                  exact Aa ekB eyB h0
                have alM:VC (.sl e kk) (a.eval y) (α.hdr rb):=ekB▸hVB
                obtain ⟨news,hS,bz,hfl,PL,ahL,hE⟩:=aah (P:=P) (u:=t2) (.inl ⟨_,ht2.sl.1⟩) ht.sl.2.1.gN alM (YX e (by simp [K.tys])) hOB hH.nd
                rw [hlen1] at hS
                have hnl:news.length=kk.size:=by simpa using hS.nl
                have aew:0 < @List.length (El kk) ys:=by omega
                have hE0:=hE 0 aew
                have hseg:nS news kk.size 0=news:=by
                  unfold nS
                  simp only [Nat.zero_mul,List.drop_zero]
                  exact List.take_of_length_le (by omega)
                rw [hseg] at hE0
                generalize hfe:bz.getD 0 []=fe at hE0
                have abH:∀b∈fe,b∈α.fo rb:=fun b hb=>ahL b (sF (by rw [hfe]; exact hb))
                have acN:fe.Nodup:=by
                  have:bz=[fe]:=by
                    cases bz with
                    | nil=>simp [hlen1] at hfl
                    | cons f l=>cases l with
                      | nil=>simp at hfe; rw [hfe]
                      | cons _ _=>simp [hlen1] at hfl
                  rw [this] at PL
                  simpa using PL
                obtain ⟨w',b1,o1,c1',arr,lo,hi,hrun,hos,hsz,hnc,hnx,hblk1,ahK,hsize,hcells,hoth,hcase⟩:=Wl (P:=P) (u:=t2) (ty:=o.type) (x:=a.eval y) ht hd1 (hall e (by simp [K.tys])) hS hbd
                obtain ⟨F',hF1,hF2,hF3,hF4⟩:∃F':List Nat,(∀b∈F',b∈α.fo rb++F∨(w.heap.size≤b∧b<w'.heap.size))∧F'.Nodup∧(∀b∈α.fo rb++F,b∈F')∧(b1=w.heap.size→w.heap.size<w'.heap.size→b1∈F'):=by
                  by_cases hs:w.heap.size<w'.heap.size
                  · refine ⟨w.heap.size :: (α.fo rb++F),fun b hb=>?_,apL.2 ⟨fun hm=>?_,H1.Ca⟩,fun b hb=>apC _ hb,fun e _=>by rw [e]; exact apK⟩
                    · rcases apq.1 hb with h | h
                      · exact .inr ⟨by omega,by omega⟩
                      · exact .inl h
                    · have:=(H1.fl _ hm).1; omega
                  · exact ⟨α.fo rb++F,fun b hb=>.inl hb,H1.Ca,fun b hb=>hb,fun _ h=>absurd h hs⟩
                have aes:∀b∈gq,b∉F':=fun b hb hm=>by
                  rcases hF1 b hm with h | h
                  · exact acO b hb h
                  · have:=H8 b hb; omega
                have Zr:∀b',b'<w.heap.size→b'∉gq→hp w' b'=hp w b':=fun b' hlt hno=>hoth b' hlt (fun e=>by
                  rcases hcase with ⟨_,_,h,_⟩ | ⟨h,_⟩
                  · exact hno (e▸h)
                  · omega)
                have hP:tu cx (az σ rb cu) (jK α rb) (α.fo rb++F) w r R p ⟨.sl e kk,xs⟩ R.own [.slice b n cp] wh gq rest ⟨.sl e kk,xs⟩ z R.tags [e] (K.sl e kk).tys R.keep gq F' [.slice b n cp] w':=by
                  have hnt:=H1.dD r R hr1.1
                  refine ⟨hz,rfl,fun _ h=>h,hos,hsz,fun b' hlt hne'=>?_,fun b' o' e'=>?_,fun _=>rfl,rfl, .inl (by simp),⟨fun _ h=>h,hnt.1,hnt.2.2⟩,fun b' hb'=>.inl hb',Zc,fun b' hb'=>(hF1 b' hb').imp id .inl,hF2,aes, .inl rfl, .inl rfl,fun _ q c0 w0 hpq Zw hnq hqs=>?_,fun α' Tn hblk hval=>?_⟩
                  · refine .inr (.inl ?_)
                    by_cases e':b'=b1
                    · rcases hcase with ⟨_,_,h1,h2,_⟩ | ⟨h,_⟩
                      · exact ⟨e'▸h1,e,by simp,e'▸h2⟩
                      · omega
                    · exact absurd (hoth b' hlt e') hne'
                  · obtain ⟨m1,_,m2,⟨alh,te,l0,h0,m3,_⟩,_⟩:=qB H1 hr1 hv1 hg fU hown (by rw [hn1,e'])
                    have hlt:=(K1.mine b' m2).1
                    have hs:=Zr b' hlt (hwf b' o' e')
                    exact ⟨m1.congr hs,gT.of_same _ _ m3 hs⟩
                  · cases q with
                    | nil=>
                      simp only [bF,apd,apo] at hnq
                      exact ⟨trivial,[.slice b n cp],by simp only [bF]; rw [hnq.2]⟩
                    | cons s q=>
                      cases s with
                      | gL n=>exact hpq.elim
                      | idx i=>exact absurd (show e∈(K.sl e kk).tys by simp [K.tys]) (Zw e (by simp [ah])).2
                  · rcases hcase with ⟨hb,_,h1,h2,h3⟩ | ⟨hb,_⟩
                    · rw [hb] at hd1 ⊢
                      refine V5 hall Zc hd1 h1 h3 (fun b' hb' hne'=>hoth b' (H8 b' hb') hne')
                    · exact gP (dm hall) (bC (ok:=fun _=>False) (ok':=fun _=>False) (fun _ h=>h.elim) (fun _ h=>h) (fun b' hb'=>hoth b' (H8 b' hb') (fun e=>by have:=H8 b' hb'; omega)) (gP (dm hall) hd1))
                obtain ⟨II,hR2,hT2,hb2,aeE,Zd⟩:=hgo hP
                have hqr:bE d 0≠r:=fun e=>by have:=hr.1; rw [←e,hfr] at this; simp at this
                have hqB:bE d 0≠rb:=fun e=>by have:=hrB.1; rw [←e,hfr] at this; simp at this
                have hq0:(az (az σ rb cu) r (bH R z R.own R.tags [e] (K.sl e kk).tys R.keep)).roots (bE d 0)=none:=by
                  rw [bZ _ _ hqr,bZ _ _ hqB]; exact hfr
                obtain ⟨hqv,foq,al0,al1,al2,al3⟩:∃(hqv:Value) (foq:List Nat),(∀b'∈foq,b'∈F')∧foq.Nodup∧
                    Ow (hp w') (e :: kk.tys) (fun _=>False) (QO e kk) ((show List (El kk) from ys).getD 0 kk.zero,(([]:List Unit),())) (news++[hqv]) foq∧
                    ((b=some ⟨b1,o1,none⟩∧b1∈gq∧hqv=.slice none 0 0∧cp=c1')∨(hqv=.slice (some ⟨b1,o1,none⟩) 0 c1'∧b1∈foq∧(0<n→∃b0 o0,b=some ⟨b0,o0,none⟩∧b0∈gq∧∀i,i<n * kk.size→cellAt (hp w') b1 (o1+i)=cellAt (hp w') b0 (o0+i)))):=by
                  have acM:∀b'∈fe,b'<w.heap.size:=fun b' hb'=>(H1.fl b' (api _ (abH b' hb'))).1
                  have ahI:∀b'∈fe,b'∉gq:=fun b' hb' h=>acO b' h (api _ (abH b' hb'))
                  have hy0:(show List (El kk) from ys).getD 0 kk.zero=@getElem (List (El kk)) Nat (El kk) _ _ ys 0 aew:=bY aew
                  have hOe:Ow (hp w') (e :: kk.tys) (fun _=>False) kk ((show List (El kk) from ys).getD 0 kk.zero) news fe:=by
                    rw [hy0]
                    have h1:=gP (ok':=fun _=>False) (dm (fun t ht=>YX t (by simp [K.tys,ht]))) hE0
                    have h2:=bC (h':=hp w') (ok':=fun _=>False) (fun _ h=>h.elim) (fun _ h=>h) (fun b' hb'=>Zr b' (acM b' hb') (ahI b' hb')) h1
                    exact uE (fun t ht=>by rw [aL.2 (apC _ ht),YX t (by simp [K.tys,ht])]) h2
                  rcases hcase with ⟨hb,hcc,h1,h2,h3⟩ | ⟨hb,hlt,hcp⟩
                  · refine ⟨.slice none 0 0,fe,fun b' hb'=>hF3 b' (api _ (abH b' hb')),acN, ?_, .inl ⟨hb,h1,rfl,hcc⟩⟩
                    exact ⟨news,[.slice none 0 0],fe,[],rfl,by simp,hOe,[.slice none 0 0],[],[],[],rfl,by simp,zC,rfl,rfl⟩
                  · refine ⟨.slice (some ⟨b1,o1,none⟩) 0 c1',fe++[b1],fun b' hb'=>?_,apk.2 ⟨acN,by simp,fun b' h1 b2 h2 e=>by
                        simp only [apx] at h2
                        subst h2
                        have:=acM b' h1
                        omega⟩, ?_, .inr ⟨rfl,by simp,fun hn0=>?_⟩⟩
                    · rcases apm.1 hb' with h | h
                      · exact hF3 b' (api _ (abH b' h))
                      · simp only [apx] at h
                        rw [h]
                        exact hF4 hb hlt
                    · refine ⟨news,[.slice (some ⟨b1,o1,none⟩) 0 c1'],fe,[b1],rfl, .refl _,hOe,[.slice (some ⟨b1,o1,none⟩) 0 c1'],[],[b1],[],rfl,by simp, ?_,rfl,rfl⟩
                      have hOs:Ow (hp w') (e :: kk.tys) (fun _=>False) (.sl e (.gap kk.size)) (show List (El (.gap kk.size)) from []) [.slice (some ⟨b1,o1,none⟩) 0 c1'] [b1]:=by
                        unfold Ow
                        rw [if_pos (aL.2 apK)]
                        exact ⟨_,0,c1',rfl,rfl,apM _, .inr ⟨b1,o1,arr,lo,hi,rfl,hblk1,ahK,hsize,[],rfl,by simp,fun i hi'=>absurd hi' (Nat.not_lt_zero _)⟩⟩
                      exact hOs
                    · obtain ⟨b0,o0,z1,z2,z3⟩:=hcp hn0
                      have hs0:hp w' b0=hp w b0:=hoth b0 (H8 b0 z2) (fun e=>by have:=H8 b0 z2; omega)
                      exact ⟨b0,o0,z1,z2,fun i hi'=>by rw [z3 i hi',vO hs0]⟩
                have hkq:(aP (QO e kk) ((show List (El kk) from ys).getD 0 kk.zero,(([]:List Unit),())) (e :: kk.tys) [] .anon).kind=.anon:=rfl
                obtain ⟨A1,A2⟩:=QL (R':=aP (QO e kk) ((show List (El kk) from ys).getD 0 kk.zero,(([]:List Unit),())) (e :: kk.tys) [] .anon) hR2 hq0 (gF d 0) rfl (by simp [aP]) (fun t ht=>by simp [aP] at ht) (0,0) (news++[hqv]) foq []
                  (fun b' hb'=>by rw [gY hkq] at hb'; exact ⟨al0 b' hb',by simp⟩) (by rw [gY hkq]; exact al1) (fun b' hb'=>by simp at hb') List.nodup_nil
                  (fun _=>bC (fun _ h=>h.elim) (fun _ h=>h.elim) (fun _ _=>rfl) al2) (by simp [aP,K.size,hnl]) (fun b' o' hb'=>by rw [zV hkq] at hb'; simp at hb')
                have Vt:(Builtin.append_ #[t,t2] o.type #[a.eval x,a.eval y]).run P w=.ok (.slice (some ⟨b1,o1,none⟩) (n+1) c1') w':=by rw [evx]; exact hrun
                refine iW (x:=.one (.app r p (gG (e :: R.w)+gG ((K.sl e kk).tys++R.h)) (bE d 0))) A1 hd hdn (nH ho hcb hxy hat abE Vt) ?_ ?_
                · intro R2 aeg aia _ Q2 hQ2 _
                  rw [bZ _ _ hqr.symm,aK] at aeg
                  simp only [apd] at aeg
                  subst aeg
                  obtain ⟨rfl,_⟩:=eX hQ2
                  have hv2:bq (az (az σ rb cu) r (bH R z R.own R.tags [e] (K.sl e kk).tys R.keep)) (bH R z R.own R.tags [e] (K.sl e kk).tys R.keep):=by
                    refine ⟨aia.1, ?_⟩
                    have h0:=aia.2
                    rw [nG] at h0
                    · exact h0
                    · intro m hm
                      have hm':(bE d 0,m)∈R.tags:=hm
                      rcases (H.dD r R hr.1).1 _ hm' with h | ⟨Q,h1,_⟩
                      · simp only [gF] at h; simp at h
                      · simp only at h1; rw [hfr] at h1; simp at h1
                  have Dr:=aeE c5 hv2
                  have hd2:(aJ II (bE d 0) (0,0) (news++[hqv]) foq).hdr r=II.hdr r:=upd_ne _ _ hqr.symm
                  have hw2:eB (aJ II (bE d 0) (0,0) (news++[hqv]) foq) (bH R z R.own R.tags [e] (K.sl e kk).tys R.keep) r=eB II (bH R z R.own R.tags [e] (K.sl e kk).tys R.keep) r:=by
                    unfold eB; simp [aJ,upd_ne _ _ hqr.symm]
                  have hf2:(aJ II (bE d 0) (0,0) (news++[hqv]) foq).fo r=II.fo r:=upd_ne _ _ hqr.symm
                  obtain ⟨g1,g2,g3,g4⟩:=NW (h:=hp w') p c4 hg hz rfl
                  refine ⟨e,kk,xs,wh,b,n,cp,news,hqv,b1,o1,c1',arr,lo,hi,g1,g2,fun t ht=>?_,by rw [hd2,hw2]; exact Dr,⟨rfl,rfl⟩,by simp [aJ,upd_same],hnl,rfl,hnc,hblk1,ahK,hsize,hcells, ?_⟩
                  · have ht':t∈ah p z.1:=ht
                    rw [g3] at ht'
                    simp at ht'
                  · rcases al3 with ⟨z1,z2,z3⟩ | ⟨z1,z2,z3⟩
                    · exact .inl ⟨z1,by rw [hf2]; exact Zd b1 z2,z3⟩
                    · refine .inr ⟨z1,by simp only [aJ,upd_same]; exact z2,fun hn0=>?_⟩
                      obtain ⟨b0,o0,y1,y2,y3⟩:=z3 hn0
                      exact ⟨b0,o0,y1,by rw [hf2]; exact Zd b0 y2,y3⟩
                · refine ⟨⟨bH R z R.own R.tags [e] (K.sl e kk).tys R.keep, ?_, .inr (apu _)⟩,_,aK ..⟩
                  rw [bZ _ _ hqr.symm,aK]
        · exact h7.elim
    · exact h5.elim
  · exact h.elim
end
section
variable {P:Program} {T:ji} {cx:Cx} {σ:St} {α:dK} {F:List Nat} {a:Act} {w:World} {o:Oper} {d:Nat} {ws:List Wr} {r:Nat} {R:Root}
theorem Pt (hT:fu P T) (H:Rel cx σ α F a w) (hd:o.dst=none) {t:TypeId} {x y:Operand} (ho:o.op=.store t x y) {u:AV} {r n q:Nat} {p:List Stp} {k0:K} (hk0:T.ty t=some k0) (h1:bI cx σ α F w u (a.eval x)) (h2:tF σ u) (h3:bI cx σ α F w (.app r p n q) (a.eval y))
    (h:(Hu k0 u r p n q fun ws=>(.ret ws:Prog (List Wr))).ends σ ws):sM P cx o a w (aC ws σ):=by
  have ht:=hT.ty t k0 hk0
  cases k0 with
  | sl e kk=>
    cases u with
    | ptr r' p' h0=>
      simp only [Hu] at h
      rcases aB h with ⟨hc,h5⟩ | ⟨_,h5⟩
      · clear h
        simp only [apj,Bool.not_eq_true'] at hc
        obtain ⟨⟨⟨c1,c2⟩,c3⟩,c4⟩:=hc
        have hne:r≠q:=fun e=>by rw [e] at c4; simp at c4
        have er:=aph c1
        have ahP:p'.all Stp.qW=true:=Xp c2 c3
        have ep:=RQ c2 (by rw [N9 c3,N9 ahP])
        subst er ep
        obtain ⟨Q,hrQ,hvQ,h6⟩:=cO h5
        rcases aB h6 with ⟨hcQ,h7⟩ | ⟨_,h7⟩
        · clear h5 h6
          simp only [apj] at hcQ
          have YZ:=kI hcQ.2
          cases ael:bP Q.k (QO e kk) Q.x with
          | none=>rw [ael] at h7; exact h7.elim
          | some yq=>
            rw [ael] at h7
            simp only at h7
            obtain ⟨R,hr,hv,h8⟩:=cO h7
            rcases aB h8 with ⟨hcR,h9⟩ | ⟨_,h9⟩
            · clear h7 h8
              simp only [apj] at hcR
              obtain ⟨⟨⟨⟨d1,d2⟩,d3⟩,d4⟩,d5⟩:=hcR
              have hall:=kI d4
              cases hg:aT p R.k R.x with
              | none=>rw [hg] at h9; exact h9.elim
              | some dd=>
                rw [hg] at h9
                simp only at h9
                cases hck:bP dd.1 (.sl e kk) dd.2 with
                | none=>rw [hck] at h9; exact h9.elim
                | some xs=>
                  rw [hck] at h9
                  simp only at h9
                  obtain ⟨ek,ey⟩:=bL hck
                  obtain ⟨dk,dx⟩:=dd
                  simp only at ek ey
                  subst ek
                  simp only at ey
                  subst ey
                  cases hz:eF p R.k R.x ⟨.sl e kk,(show List (El kk) from xs)++[(show El kk from yq.1)]⟩ with
                  | none=>rw [hz] at h9; exact h9.elim
                  | some z=>
                    rw [hz] at h9
                    rw [aD h9]
                    obtain ⟨e',kk',xs',wh,b,n',c,ce,hq,b1,o1,cc,arr,lo,hi,a1,a2,a3,a4,⟨a5,akd⟩,a6,a7,a8,a9,a10,Yq,a12,a13,a14⟩:=h3 R hr.1 hv (aph d1) Q hrQ (aph hcQ.1)
                    rw [hg] at a1
                    simp only [apd,Sigma.mk.injEq,K.sl.injEq] at a1
                    obtain ⟨⟨rfl,rfl⟩,a1⟩:=a1
                    have a1:=eq_of_heq a1
                    subst a1
                    obtain ⟨H1,T1,hH,hcl⟩:=kill H hrQ akd hvQ
                    have hSr:Same σ α (az σ q cu) (jK α q) r:=iy hne
                    have hr1:=(hSr.live R).2 hr
                    have Zw:∀m,(q,m)∉R.tags:=fun m hm=>by
                      have:=apt.1 d5 _ hm
                      simp at this
                    have hv1:bq (az σ q cu) R:=⟨hv.1,by rw [nG Zw]; exact hv.2⟩
                    obtain ⟨_,cs,bA,oA,hn2,eA⟩:=h1.2 R hr.1 hv d3 a3 (by rw [hg]; rfl)
                    rw [a4] at hn2
                    simp only [apd,apo] at hn2
                    obtain ⟨rfl,rfl⟩:=hn2
                    have hn1:bF (hp w) p R.k ((jK α q).hdr r) (eB (jK α q) R r)=some ([.slice b n' c],some (bA,oA)):=by rw [hSr.hdr,hSr.wh]; exact a4
                    obtain ⟨ekQ,eyQ⟩:=bL ael
                    have hOQ:Ow (hp w) Q.own (iT cx (az σ q cu) (jK α q) (α.fo q++F) w Q.tags) (QO e kk) yq (ce++[hq]) (α.fo q):=by
                      have h0:=Aa ekQ eyQ (hH.ow hcl)
                      rw [a6] at h0
                      exact h0
                    obtain ⟨c1',c2',f1,f2,ec,hpq,WW,hO2⟩:=hOQ
                    have hlc:=dn WW
                    have hcc:=List.append_inj ec (by rw [a7,hlc])
                    obtain ⟨rfl,rfl⟩:=hcc
                    obtain ⟨c3',c4',f3,f4,ec2,amr,hO3,hO4⟩:=hO2
                    have hpn:=hpq.nodup hH.nd
                    have ahZ:=apk.1 hpn
                    have aeo:∀b'∈f1,b'∈α.fo q:=fun b' hb'=>hpq.mem_iff.2 (api _ hb')
                    have alF:Ow (hp w) R.own (fun _=>False) kk yq.1 ce f1:=uE (fun t ht=>by rw [hall t (by simp [K.tys,ht]),YZ t (apC _ ht)]) (gP (dm (fun t ht=>YZ t (apC _ ht))) WW)
                    have ahA:b1∉f1∨b1∈α.fo r:=by
                      rcases a14 with ⟨_,z2,_⟩ | ⟨z1,z2,_⟩
                      · exact .inr z2
                      · refine .inl fun hm=>?_
                        have hlen3:=dn hO3
                        have hc3:c3'=[hq]∧c4'=[]:=by
                          cases c3' with
                          | nil=>simp [K.size] at hlen3
                          | cons a l=>
                            simp only [List.cons_append,List.cons.injEq] at ec2
                            obtain ⟨rfl,h⟩:=ec2
                            have:=List.append_eq_nil_iff.1 h.symm
                            rw [this.1,this.2]
                            exact ⟨rfl,rfl⟩
                        rw [hc3.1,z1] at hO3
                        unfold Ow at hO3
                        rw [if_pos (YZ e apK)] at hO3
                        obtain ⟨a',m',cm,g1,_,_,g4⟩:=hO3
                        simp only [List.cons.injEq,Value.slice.injEq,and_true] at g1
                        obtain ⟨rfl,rfl,rfl⟩:=g1
                        rcases g4 with ⟨g4,_⟩ | ⟨bb,q',_,_,_,g5,_,_,_,bz,_,g6,_⟩
                        · omega
                        · simp only [apd,Addr.mk.injEq,and_true] at g5
                          obtain ⟨rfl,rfl⟩:=g5
                          exact ahZ.2.2 b1 hm b1 (amr.mem_iff.2 (api _ (g6.mem_iff.2 apK))) rfl
                    have Y8:∀b'∈(jK α q).fo r,b'∉α.fo q++F:=fun b' hb'=>H1.jB r R hr1 b' (by rw [bT,eZ]; exact .inr hb')
                    obtain ⟨w',r1,α',F',r2⟩:=Sn (P:=P) ht H1 hr1 hv1 hg hz a2 a3 hall hn1 (v:=.slice (some ⟨b1,o1,none⟩) (n'+1) cc) ⟨_,_,_,rfl⟩ (lw:=[eU R p,e]) (by simp) (fun gq ok hO hnd hsub=>by
                      have he:ay e R.own=true:=hall e (by simp [K.tys])
                      unfold Ow at hO
                      rw [if_pos he] at hO
                      obtain ⟨a0,n2,c2,e1,e2,e3,hO⟩:=hO
                      simp only [List.cons.injEq,Value.slice.injEq,and_true] at e1
                      obtain ⟨rfl,rfl,rfl⟩:=e1
                      have e2:n'=@List.length (El kk) xs:=e2
                      obtain ⟨bz,hfl,hfs,hfn,hfe⟩:∃bz:List (List Nat),bz.length=@List.length (El kk) xs∧(∀b'∈bz.flatten,b'∈gq∧b'≠b1)∧bz.flatten.Nodup∧∀(i:Nat) (hi:i < @List.length (El kk) xs),∃ds,Cells (hp w) b1 (o1+i * kk.size) ds∧Ow (hp w) R.own ok kk (@getElem (List (El kk)) Nat (El kk) _ _ xs i hi) ds (bz.getD i []):=by
                        rcases hO with ⟨hc0,hf0⟩ | ⟨bb,q',kP,lo',hi',ea,hbk,hfz,hs,bz,hl,hp0,hO⟩
                        · have hx0 : @List.length (El kk) xs=0:=by omega
                          exact ⟨[],by simp [hx0],by simp,by simp,fun i hi=>by omega⟩
                        · have tN:=hp0.nodup hnd
                          have aox:bb∈(jK α q).fo r:=hsub bb (hp0.mem_iff.2 apK)
                          refine ⟨bz,hl,fun b' hb'=>⟨hp0.mem_iff.2 (apC _ hb'),fun eb=>?_⟩,(apL.1 tN).2,fun i hi=>?_⟩
                          · subst eb
                            rcases a14 with ⟨z1,_,_⟩ | ⟨_,z2,_⟩
                            · rw [z1] at ea
                              simp only [apd,Addr.mk.injEq,and_true] at ea
                              rw [ea.1] at hb'
                              exact (apL.1 tN).1 hb'
                            · exact Y8 b' (hsub b' (hp0.mem_iff.2 (apC _ hb'))) (api _ z2)
                          · obtain ⟨ds,g1,g2⟩:=hO i hi
                            refine ⟨ds, ?_,g2⟩
                            rcases a14 with ⟨z1,_,_⟩ | ⟨_,_,z3⟩
                            · rw [z1] at ea
                              simp only [apd,Addr.mk.injEq,and_true] at ea
                              rw [ea.1,ea.2]
                              exact g1
                            · obtain ⟨b0,o0,y1,_,y3⟩:=z3 (by omega)
                              rw [y1] at ea
                              simp only [apd,Addr.mk.injEq,and_true] at ea
                              obtain ⟨rfl,rfl⟩:=ea
                              have hdl:=dn g2
                              intro j hj
                              rw [←g1 j hj,Nat.add_assoc,y3 (i * kk.size+j) (by
                                have hb2:(i+1) * kk.size≤n' * kk.size:=apJ _ (by omega)
                                rw [Nat.add_mul,Nat.one_mul] at hb2
                                omega), ←Nat.add_assoc]
                      have ahB:b1∉f1:=by
                        rcases ahA with h | h
                        · exact h
                        · intro hm
                          exact Y8 b1 (by rw [hSr.fo]; exact h) (api _ (aeo b1 hm))
                      refine ⟨b1 :: (bz.flatten++f1),apL.2 ⟨fun hm=>?_,apk.2 ⟨hfn,ahZ.1,fun b' h1' b2 h2' eb=>?_⟩⟩,fun b' hb'=>?_, ?_⟩
                      · rcases apm.1 hm with h | h
                        · exact (hfs b1 h).2 rfl
                        · exact ahB h
                      · subst eb
                        exact Y8 b' (hsub b' (hfs b' h1').1) (api _ (aeo b' h2'))
                      · rcases apq.1 hb' with h | h
                        · subst h
                          rcases a14 with ⟨z1,_,_,z4⟩ | ⟨_,z2,_⟩
                          · refine .inl ?_
                            rcases hO with ⟨hc0,_⟩ | ⟨bb,q',_,_,_,ea,_,_,_,_,_,hp0,_⟩
                            · omega
                            · rw [z1] at ea
                              simp only [apd,Addr.mk.injEq,and_true] at ea
                              rw [ea.1]
                              exact hp0.mem_iff.2 apK
                          · exact .inr (api _ z2)
                        · rcases apm.1 h with h | h
                          · exact .inl (hfs b' h).1
                          · exact .inr (api _ (aeo b' h))
                      · have hOO:Ow (hp w) R.own (fun _=>False) (.sl e kk) (show List (El kk) from (show List (El kk) from xs)++[(show El kk from yq.1)]) [.slice (some ⟨b1,o1,none⟩) (n'+1) cc] (b1 :: (bz.flatten++f1)):=by
                          unfold Ow
                          rw [if_pos he]
                          have hlen:(@HAppend.hAppend (List (El kk)) (List (El kk)) (List (El kk)) _ xs [yq.1]).length=n'+1:=by rw [apl,e2]; rfl
                          refine ⟨_,n'+1,cc,rfl,hlen.symm,a9, .inr ⟨b1,o1,arr,lo,hi,rfl,a10,Yq,a12,bz++[f1],by show (bz++[f1]).length=_; rw [apl,hfl,hlen,e2]; rfl,by simp,fun i hi'=>?_⟩⟩
                          have hi2:i<(@HAppend.hAppend (List (El kk)) (List (El kk)) (List (El kk)) _ xs [yq.1]).length:=hi'
                          rw [hlen] at hi2
                          rw [FC]
                          by_cases hi0:i < @List.length (El kk) xs
                          · obtain ⟨ds,g1,g2⟩:=hfe i hi0
                            rw [if_pos (by rw [hfl]; exact hi0)]
                            have hx:(show List (El kk) from (show List (El kk) from xs)++[(show El kk from yq.1)])[i]'hi'=@getElem (List (El kk)) Nat (El kk) _ _ xs i hi0:=List.getElem_append_left hi0
                            rw [hx]
                            exact ⟨ds,g1,gP (dm (fun t ht=>hall t (by simp [K.tys,ht]))) g2⟩
                          · have hin:i=n':=by omega
                            rw [if_neg (by rw [hfl]; exact hi0)]
                            have hx:(show List (El kk) from (show List (El kk) from xs)++[(show El kk from yq.1)])[i]'hi'=yq.1:=by
                              have:=@List.getElem_append_right (El kk) xs [yq.1] i (by omega) hi'
                              refine this.trans ?_
                              simp
                            rw [hx]
                            have ah5:i - bz.length=0:=by omega
                            rw [ah5]
                            exact ⟨ce,by rw [hin]; exact a13,alF⟩
                        exact hOO)
                    refine ⟨undef,w',α',F', .inr ⟨?_,rfl⟩, ?_⟩
                    · simp only [execOp,ho,eA,a8,apD,r1,apw,apI]
                    · rw [hd]
                      exact r2
            · exact h9.elim
        · exact h7.elim
      · exact h5.elim
    | _=>exact h.elim
  | _=>exact h.elim
theorem Rc (hT:fu P T) (H:Rel cx σ α F a w) (hd:o.dst=some d) (hdn:d<cx.nt) (h:(Qj T o d fun ws=>(.ret ws:Prog (List Wr))).ends σ ws):sM P cx o a w (aC ws σ):=by
  unfold Qj at h
  split at h
  · rename_i c ho
    split at h
    · rename_i hcb
      obtain ⟨vs,h1,h2,h⟩:=jm H h
      split at h
      · split at h
        · rename_i hat ht1
          exact abq hT H hd hdn ho hcb h1 hat ht1 h
        · exact h.elim
      · exact h.elim
    · exact h.elim
  · rename_i t x ho
    exact Ra hT H hd hdn ho h
  · exact h.elim
theorem TV (hT:fu P T) (H:Rel cx σ α F a w) (hd:o.dst=none) {t:TypeId} {x y:Operand} (ho:o.op=.store t x y)
    (h:(dN x fun u=>dN y fun v=>UO T t u v fun ws=>(.ret ws:Prog (List Wr))).ends σ ws):sM P cx o a w (aC ws σ):=by
  obtain ⟨u,h1,h2,h⟩:=bR H h
  obtain ⟨v,h3,h4,h⟩:=bR H h
  unfold UO at h
  split at h
  · split at h
    · rename_i hk0
      exact Pv hT H hd ho hk0 h1 h2 h3 h
    · exact h.elim
  · split at h
    · rename_i hk0
      exact Pt hT H hd ho hk0 h1 h2 h3 h
    · exact h.elim
  · exact TW hT H hd ho h1 h2 h3 h4 h
end
end
section
open Go
variable [Fr]
section
variable {P:Program} {T:ji} {cx:Cx} {σ:St} {α:dK} {F:List Nat} {a:Act} {w:World}
structure Tk (cx:Cx) (σ:St) (α:dK) (F:List Nat) (a:Act) (w:World) (σ1:St) (dL:dK) (F1:List Nat) (ids:List Tag):Prop where
 rel:Rel cx σ1 dL F1 a w
 vws:Views cx σ α F w σ1 dL F1 w
 same:∀t∈ids,Same σ α σ1 dL t.1
theorem Tk.sub {σ1:St} {dL:dK} {F1:List Nat} {ids ids':List Tag} (h:Tk cx σ α F a w σ1 dL F1 ids') (hs:∀t∈ids,t∈ids'):Tk cx σ α F a w σ1 dL F1 ids:=⟨h.rel,h.vws,fun t ht=>h.same t (hs t ht)⟩
def VaG (cx:Cx) (σ:St) (α:dK) (F:List Nat) (a:Act) (w:World) (k:K) (x:El k) (ids:List Tag) (v:Value):Prop:=
 ∃cs,VC k v cs∧∀σ1 dL F1,Tk cx σ α F a w σ1 dL F1 ids→Vw (hp w) (iT cx σ1 dL F1 w ids) k x cs
def Vb (cx:Cx) (σ:St) (α:dK) (F:List Nat) (a:Act) (w:World) (k:K) (x:El k) (ids:List Tag) (v:Value):Prop:=
 ∃b o cs,v=.pointer (some ⟨b,o,none⟩)∧Cells (hp w) b o cs∧∀σ1 dL F1,Tk cx σ α F a w σ1 dL F1 ids→Vw (hp w) (iT cx σ1 dL F1 w ids) k x cs∧Ml σ1 dL F1 w ids b
def Dx (cx:Cx) (σ:St) (α:dK) (F:List Nat) (a:Act) (w:World) (ids:List Tag):(ks:List K)→Cont ks→List Value→Prop
 | [],_,[]=>True
 | k :: ks,c,v :: vs=>Vb cx σ α F a w k c.1 ids v∧Dx cx σ α F a w ids ks c.2 vs
 | _,_,_=>False
structure PlG (cx:Cx) (σ:St) (α:dK) (w:World) (k:K) (x:El k) (ow:List TypeId) (i:cB) (wt ht:List TypeId) (r:Nat) (R:Root) (p:List Stp):Prop where
 wb:i.wb=some (r,p,wt,ht)
 ws:i.ws=[]
 ids:i.ids=R.tags
 lv:aR σ r R
 vl:bq σ R
 get:aT p R.k R.x=some ⟨k,x⟩
 pin:nX p R.k R.x
 own:∀t∈ah p R.k,ay t R.own=true
 just:pF k R.own ow=true
def U5 (cx:Cx) (σ:St) (α:dK) (F:List Nat) (a:Act) (w:World):(ps:List cZ)→Cont (kin ps)→List Value→List cB→List (Value×iL)→Prop
 | [],_,[],[],[]=>True
 | .val k _ :: ps,c,v :: vs,i :: is,ts=>(i.wb=none∧i.ws=[]∧i.bt=[]∧VaG cx σ α F a w k c.1 i.ids v)∧U5 cx σ α F a w ps c.2 vs is ts
 | .ro k :: ps,c,v :: vs,i :: is,ts=>(i.wb=none∧i.ws=[]∧i.bt=[]∧Vb cx σ α F a w k c.1 i.ids v)∧U5 cx σ α F a w ps c.2 vs is ts
 | .rw k ow wt ht :: ps,c,v :: vs,i :: is,ts=>(∃r R p,PlG cx σ α w k c.1 ow i wt ht r R p∧i.bt=[eU R p]∧∃cs b o,bF (hp w) p R.k (α.hdr r) (eB α R r)=some (cs,some (b,o))∧v=.pointer (some ⟨b,o,none⟩))∧U5 cx σ α F a w ps c.2 vs is ts
 | .jl k ow wt :: ps,c,v :: vs,i :: is,ts=>(∃r R p,PlG cx σ α w k c.1 ow i wt k.tys r R p∧i.bt=[]∧∃cs wh,bF (hp w) p R.k (α.hdr r) (eB α R r)=some (cs,wh)∧VC k v cs)∧U5 cx σ α F a w ps c.2 vs is ts
 | .own k ow :: ps,c,v :: vs,i :: is,q :: ts=>(q.1=v∧xQ cx σ α F w v q.2∧i=⟨q.2.tags,none,q.2.ws,[]⟩∧(∃e:q.2.k=k,c.1=e▸q.2.x)∧pF k q.2.own ow=true)∧U5 cx σ α F a w ps c.2 vs is ts
 | .fn f ks :: ps,c,v :: vs,i :: is,ts=>(i.wb=none∧i.ws=[]∧i.bt=[]∧∃us:List Value,v=.func (.func f) #[] us.toArray∧Dx cx σ α F a w i.ids ks (Cont.fst ks (kin ps) c) us)∧U5 cx σ α F a w ps (Cont.snd ks (kin ps) c) vs is ts
 | .into _ p :: ps,c,v :: vs,i :: is,ts=>(i.wb=none∧i.ws=[]∧i.bt=[]∧∃b,v=.slice b 0 0)∧U5 cx σ α F a w ps (Cont.snd (cZ.into 0 p).kin (kin ps) c) vs is ts
 | _,_,_,_,_=>False
theorem FD:∀(ks ls:List K) (c:Cont ks) (d:Cont ls),Cont.fst ks ls (Cont.app ks ls c d)=c
 | [],_,_,_=>rfl
 | _ :: ks,ls,c,d=>by show (c.1,Cont.fst ks ls (Cont.app ks ls c.2 d))=c; rw [FD ks ls c.2 d]; rfl
theorem Gj:∀(ks ls:List K) (c:Cont ks) (d:Cont ls),Cont.snd ks ls (Cont.app ks ls c d)=d
 | [],_,_,_=>rfl
 | _ :: ks,ls,c,d=>Gj ks ls c.2 d
theorem Vb.mono {ids ids':List Tag} (h:∀t∈ids,t∈ids') {k:K} {x:El k} {v:Value} (H:Vb cx σ α F a w k x ids v):Vb cx σ α F a w k x ids' v:=by
 obtain ⟨b,o,cs,h1,h2,h3⟩:=H
 refine ⟨b,o,cs,h1,h2,fun σ1 dL F1 hT=>?_⟩
 obtain ⟨g1,g2⟩:=h3 σ1 dL F1 (hT.sub h)
 exact ⟨fT (fun _ _=>rfl) (fun b hb=>wT hb h) g1,aac g2 h⟩
theorem Dx.mono {ids ids':List Tag} (h:∀t∈ids,t∈ids'):∀{ks:List K} {c:Cont ks} {vs:List Value},Dx cx σ α F a w ids ks c vs→Dx cx σ α F a w ids' ks c vs
 | [],_,[],_=>trivial
 | _ :: _,_,_ :: _,⟨h1,hh⟩=>⟨h1.mono h,Dx.mono h hh⟩
 | [],_,_ :: _,hh=>hh.elim
 | _ :: _,_,[],hh=>hh.elim
theorem Tk.clean {σ1:St} {dL:dK} {F1:List Nat} {ids:List Tag} (h:Tk cx σ α F a w σ1 dL F1 ids) (tys:List TypeId):bg σ1 tys ids=bg σ tys ids:=fA (fun t ht=>(h.same t ht).root)
theorem Vb.ac4 {bt:TypeId} {k:K} {x:El k} {T:List Tag} {v:Value} (h:MB cx σ α F w bt k x T v) (hw:fD σ T) (hc:bg σ (bt :: k.tys) T=true):Vb cx σ α F a w k x T v:=by
 obtain ⟨b,o,cs,e,h1,h2,h3,h4⟩:=h.2 hc
 refine ⟨b,o,cs,e,h1,fun σ1 dL F1 hT=>?_⟩
 obtain ⟨b',o',cs',e',h1',h2',h3',_⟩:=(hT.vws.ro hw h).2 (by rw [hT.clean]; exact hc)
 have:b'=b∧o'=o:=by rw [e] at e'; simpa using e'.symm
 obtain ⟨rfl,rfl⟩:=this
 have hcs:cs'=cs:=cells_eq h1 h1' ((mD h2').trans (mD h2).symm)
 subst hcs
 exact ⟨h2',h3'⟩
theorem Vb.Sa (H:Rel cx σ α F a w) {r:Nat} {R:Root} {p:List Stp} {d:Dat} {cs:List Value} {b o:Nat} (hr:aR σ r R) (hv:bq σ R) (hg:aT p R.k R.x=some d) (fU:nX p R.k R.x) (hown:∀t∈ah p R.k,ay t R.own=true)
  (hn:bF (hp w) p R.k (α.hdr r) (eB α R r)=some (cs,some (b,o))) (n:Nat):Vb cx σ α F a w d.1 d.2 ((r,n) :: R.tags) (.pointer (some ⟨b,o,none⟩)):=by
 obtain ⟨hC,_⟩:=qB H hr hv hg fU hown hn
 refine ⟨b,o,cs,rfl,hC,fun σ1 dL F1 hT=>?_⟩
 have hS:=hT.same (r,n) (by simp)
 have hr1:=(hS.live R).2 hr
 have hv1:bq σ1 R:=⟨hv.1,by rw [fA (fun t ht=>(hT.same t (by simp [ht])).root)]; exact hv.2⟩
 obtain ⟨_,⟨gq,hO,hf⟩,hbb,_,_⟩:=qB hT.rel hr1 hv1 hg fU hown (by rw [hS.hdr,hS.wh]; exact hn)
 have hq:∀b∈blk dL R r,Ml σ1 dL F1 w ((r,n) :: R.tags) b:=fun b hb=>by
  refine ⟨((hT.rel.roots r R hr1).mine b hb).1,hT.rel.jB r R hr1 b hb,fun q Q hq hbq=>?_⟩
  by_cases e:q=r
  ·subst e; exact ⟨n,by simp⟩
  ·exact absurd hb (hT.rel.MX q Q r R hq hr1 e b hbq)
 refine ⟨lu _ (fun b hb=>wT hb (fun t ht=>by simp [ht])) (fun b hb=>?_) hO,hq b hbb⟩
 have hbr:b∈blk dL R r:=apf _ (hf b hb)
 obtain ⟨q1,q2,q3⟩:=hq b hbr
 refine ⟨q1,q2,o9 hT.rel hr1 (hf b hb),q3,fun h0=>?_⟩
 rcases ((hT.rel.roots r R hr1).mine b hbr).2 with h | ⟨j,pi,h1,h2⟩
 ·omega
 ·exact .inr ⟨j,pi,h1,h2⟩
theorem KN {A:Type} {z:A} (H:Rel cx σ α F a w) {x:AV} {v:Value} {k:(kk:K)→El kk→List Tag→Prog A} (hx:bI cx σ α F w x v) (hw:tF σ x) (h:(vB x k).ends σ z) :
  ∃kk y T,VaG cx σ α F a w kk y T v∧(k kk y T).ends σ z:=by
 have key:∀{r:Nat} {R:Root} {p:List Stp} {d:Dat} {cs:List Value} {wh:Option (Nat×Nat)},aR σ r R→bq σ R→aT p R.k R.x=some d→nX p R.k R.x→(∀t∈ah p R.k,ay t R.own=true)→bF (hp w) p R.k (α.hdr r) (eB α R r)=some (cs,wh)→VC d.1 v cs→
   VaG cx σ α F a w d.1 d.2 (R.out r d.1) v:=by
  intro r R p d cs wh hr hv hg h1 h2 h3 h4
  refine ⟨cs,h4,fun σ1 dL F1 hT=>?_⟩
  cases hf:d.1.flat with
  | true=>
   obtain ⟨gq,h5,_⟩:=vR H hr hv hg h1 h2 h3
   exact iA hf (lu (fun _=>True) (fun _ _=>trivial) (fun _ _=>trivial) h5)
  | false=>
   rcases Dc R r hf with ho | ⟨ho,hn⟩
   ·rw [ho] at hT
    have hS:=hT.same (r,gG R.w) (by simp)
    have hr1:=(hS.live R).2 hr
    have hv1:bq σ1 R:=⟨hv.1,by rw [fA (fun t ht=>(hT.same t (by simp [ht])).root)]; exact hv.2⟩
    obtain ⟨gq,h5,h6⟩:=vR hT.rel hr1 hv1 hg h1 h2 (by rw [hS.hdr,hS.wh]; exact h3)
    exact pE hT.rel hr1 h5 h6
   ·obtain ⟨gq,h5,h6⟩:=vR H hr hv hg h1 h2 h3
    have hV:=pE H hr h5 h6
    rw [ho] at hT hV ⊢
    exact hT.vws.vw (H.dD r R hr.1).1 (by rw [hT.clean]; exact tJ hv.2 (fun _ h=>h) (fun t ht=>CW p hg h2 t ((CV ht).resolve_right (by rw [hn t ht]; exact Bool.false_ne_true)))) (fun _ h=>h) hV
 cases x with
 | val kk y T=>
  obtain ⟨h1,h2⟩:=gM h
  obtain ⟨cs,h3,h4⟩:=hx (.inr h1)
  exact ⟨kk,y,T,⟨cs,h3,fun σ1 dL F1 hT=>hT.vws.vw hw (by rw [hT.clean]; exact h1) (fun _ h=>h) h4⟩,h2⟩
 | ref r g=>
  obtain ⟨R,hr,hv,h⟩:=cO h
  rcases aB h with ⟨hg,h⟩ | ⟨_,h⟩
  ·obtain ⟨_,h2⟩:=hx R hr (aph hg)
   exact ⟨R.k,R.x,R.out r R.k,key (p:=[]) (d:=⟨R.k,R.x⟩) hr hv rfl trivial (fun t ht=>by simp [ah] at ht) rfl h2,h⟩
  ·exact h.elim
 | xy r p n=>
  obtain ⟨R,hr,hv,h⟩:=cO h
  rcases aB h with ⟨hg,h⟩ | ⟨_,h⟩
  ·cases Ay:aT p R.k R.x with
   | none=>rw [Ay] at h; exact h.elim
   | some d=>
    rw [Ay] at h
    obtain ⟨h1,h2,cs,wh,h3,h4⟩:=hx R hr.1 hv (aph hg) d Ay
    exact ⟨d.1,d.2,R.out r d.1,key hr hv Ay h1 h2 h3 h4,h⟩
  ·exact h.elim
 | undef=>exact h.elim
 | iQ=>exact h.elim
 | ptr r p n=>exact h.elim
 | je bt k x T=>exact h.elim
 | K5 _ _ _ _=>exact h.elim
 | Bz _=>exact h.elim
 | part _ _ _ _ _=>exact h.elim
 | yL _ _ _ _=>exact h.elim
 | app _ _ _ _=>exact h.elim
 | sG=>exact h.elim
 | fn f cs=>exact h.elim
theorem VaG.flat {k:K} {x:El k} {ids:List Tag} {v:Value} (hf:k.flat=true) (h:VaG cx σ α F a w k x ids v) (H:Rel cx σ α F a w):VaG cx σ α F a w k x [] v:=by
 obtain ⟨cs,h1,h2⟩:=h
 have h3:=h2 σ α F ⟨H,fun T tys _ h=>⟨h,fun b hb _=>⟨hb,rfl⟩,fun b hb _=>⟨hb,rfl⟩⟩,fun _ _=>mo ..⟩
 exact ⟨cs,h1,fun _ _ _ _=>iA hf h3⟩
theorem Ws {A:Type} {z:A}:∀{ks:List K} {l:List (TypeId×Dat×List Tag)} {vs:List Value} {k:Cont ks→List Tag→Prog A},kK cx σ α F w l vs→(∀c∈l,fD σ c.2.2)→(Vi ks l k).ends σ z→
  ∃c T,Dx cx σ α F a w T ks c vs∧(k c T).ends σ z:=by
 intro ks
 induction ks with
 | nil=>
  intro l vs k h1 h2 h
  cases l with
  | nil=>
   cases vs with
   | nil=>exact ⟨(),[],trivial,h⟩
   | cons v vs=>exact h1.elim
  | cons q l=>exact h.elim
 | cons kk ks ih=>
  intro l vs k h1 h2 h
  cases l with
  | nil=>exact h.elim
  | cons q l=>
   obtain ⟨t,d,tags⟩:=q
   cases vs with
   | nil=>exact h1.elim
   | cons v vs=>
    simp only [Vi] at h
    obtain ⟨hc,h⟩:=gM h
    cases hk:bP d.1 kk d.2 with
    | none=>rw [hk] at h; exact h.elim
    | some x=>
     rw [hk] at h
     simp only at h
     obtain ⟨ek,ey⟩:=bL hk
     obtain ⟨c,T,g1,g2⟩:=ih h1.2 (fun c hc=>h2 c (by simp [hc])) h
     refine ⟨(x,c),iP tags T,⟨?_,g1.mono (fun t ht=>cK.2 (.inr ht))⟩,g2⟩
     obtain ⟨dk,dx⟩:=d
     simp only at ek ey h1
     subst ek
     subst ey
     exact (Vb.ac4 h1.1 (h2 _ apK) hc).mono (fun t ht=>cK.2 (.inl ht))
theorem Uh {A:Type} {z:A} (H:Rel cx σ α F a w):∀{ps:List cZ} {NJ:List AV} {vs:List Value} {k:Cont (kin ps)→List cB→Prog A},fG cx σ α F w NJ vs→(∀v∈NJ,tF σ v)→(jS ps NJ k).ends σ z→
  ∃c is ts,U5 cx σ α F a w ps c vs is ts∧(k c is).ends σ z:=by
 intro ps
 induction ps with
 | nil=>
  intro NJ vs k h1 _ h
  cases NJ with
  | nil=>
   cases vs with
   | nil=>exact ⟨(),[],[],trivial,h⟩
   | cons v vs=>exact h1.elim
  | cons x NJ=>exact h.elim
 | cons p ps ih=>
  intro NJ vs k h1 h2 h
  cases NJ with
  | nil=>
   cases p with
   | into j q=>cases q <;> exact h.elim
   | _=>exact h.elim
  | cons x NJ=>
   cases vs with
   | nil=>exact h1.elim
   | cons v vs=>
    have h2':∀v∈NJ,tF σ v:=fun v hv=>h2 v (by simp [hv])
    cases p with
    | val kk iB=>
     have hgo:∀(y:El kk) (tags:List Tag),VaG cx σ α F a w kk y tags v→
       (jS ps NJ fun c is=>k (y,c) (⟨tags,none,[],[]⟩ :: is)).ends σ z→∃c is ts,U5 cx σ α F a w (.val kk iB :: ps) c (v :: vs) is ts∧(k c is).ends σ z:=by
      intro y tags hy h
      obtain ⟨c,is,ts,g1,g2⟩:=ih h1.2 h2' h
      exact ⟨(y,c),⟨tags,none,[],[]⟩ :: is,ts,⟨⟨rfl,rfl,rfl,hy⟩,g1⟩,g2⟩
     have hval:(vB x fun k' x tags=>match bP k' kk x with
       | some y=>jS ps NJ fun c is=>k (y,c) (⟨bif kk.flat then [] else tags,none,[],[]⟩ :: is)
       | none=>.fail).ends σ z→∃c is ts,U5 cx σ α F a w (.val kk iB :: ps) c (v :: vs) is ts∧(k c is).ends σ z:=by
      intro h
      obtain ⟨k',y,Tg,f1,f5⟩:=KN H h1.1 (h2 x (by simp)) h
      cases hc:bP k' kk y with
      | none=>rw [hc] at f5; exact f5.elim
      | some y'=>
       rw [hc] at f5
       obtain ⟨ek,ey⟩:=bL hc
       subst ek
       simp only at ey
       subst ey
       cases hf:k'.flat with
       | true=>
        rw [hf] at f5
        exact hgo _ _ (f1.flat hf H) f5
       | false=>
        rw [hf] at f5
        exact hgo _ _ f1 f5
     cases x with
     | iQ=>
      cases kk with
      | sl e kk=>
       obtain ⟨b,rfl⟩:=h1.1
       exact hgo [] [] ⟨[.slice b 0 0],CL,fun _ _ _ _=>⟨b,0,0,rfl,rfl,apu _,fun h=>by omega⟩⟩ h
      | _=>exact h.elim
     | undef=>exact hval h
     | val _ _ _=>exact hval h
     | ref _ _=>exact hval h
     | xy _ _ _=>exact hval h
     | ptr _ _ _=>exact hval h
     | je _ _ _ _=>exact hval h
     | K5 _ _ _ _=>exact hval h
     | Bz _=>exact hval h
     | part _ _ _ _ _=>exact hval h
     | yL _ _ _ _=>exact hval h
     | app _ _ _ _=>exact hval h
     | sG=>exact hval h
     | fn _ _=>exact hval h
    | ro kk=>
     simp only [jS] at h
     have hgo:∀(d:Dat) (tags:List Tag),Vb cx σ α F a w d.1 d.2 tags v→(match bP d.1 kk d.2 with
       | some y=>jS ps NJ fun c is=>k (y,c) (⟨tags,none,[],[]⟩ :: is)
       | none=>.fail).ends σ z→∃c is ts,U5 cx σ α F a w (.ro kk :: ps) c (v :: vs) is ts∧(k c is).ends σ z:=by
      intro d tags hd h
      cases hc:bP d.1 kk d.2 with
      | none=>rw [hc] at h; exact h.elim
      | some y=>
       rw [hc] at h
       obtain ⟨ek,ey⟩:=bL hc
       obtain ⟨dk,dx⟩:=d
       simp only at ek ey hd
       subst ek
       subst ey
       obtain ⟨c,is,ts,g1,g2⟩:=ih h1.2 h2' h
       exact ⟨(y,c),⟨tags,none,[],[]⟩ :: is,ts,⟨⟨rfl,rfl,rfl,hd⟩,g1⟩,g2⟩
     cases x with
     | ptr r p n=>
      rcases Af H h1.1 (h2 (.ptr r p n) (by simp)) h with ⟨r',R,p',d,cs,b,o,hr,hv,hg,fU,hown,hn,e,h5⟩ | ⟨bt,d,Tg,b,o,cs,hw,e,hcs,hV,hok,hb,h5⟩
      ·subst e
       exact hgo d _ (Vb.Sa H hr hv hg fU hown hn _) h5
      ·simp only [addrOf] at h
       obtain ⟨R,hr,hv,h⟩:=cO h
       rcases aB h with ⟨hc,h⟩ | ⟨_,h⟩
       ·simp only [apj] at hc
        cases Ay:aT p R.k R.x with
        | none=>rw [Ay] at h; exact h.elim
        | some d=>
         rw [Ay] at h
         have hown:=kI hc.2
         obtain ⟨g1,cs,b,o,g2,g3⟩:=h1.1.2 R hr.1 hv hc.1 hown (by rw [Ay]; rfl)
         subst g3
         exact hgo d _ (Vb.Sa H hr hv Ay g1 hown g2 _) h
       ·exact h.elim
     | je bt kx y Tg=>
      simp only [addrOf] at h
      obtain ⟨hc,h⟩:=gM h
      exact hgo ⟨kx,y⟩ Tg (Vb.ac4 h1.1 (h2 (.je bt kx y Tg) (by simp)) hc) h
     | _=>exact h.elim
    | rw kk ow wt ht=>
     simp only [jS] at h
     cases x with
     | ptr r p n=>
      simp only at h
      obtain ⟨R,hr,hv,h⟩:=cO h
      rcases aB h with ⟨hc,h⟩ | ⟨_,h⟩
      ·simp only [apj] at hc
       cases Ay:aT p R.k R.x with
       | none=>rw [Ay] at h; exact h.elim
       | some d=>
        rw [Ay] at h
        simp only at h
        cases hck:bP d.1 kk d.2 with
        | none=>rw [hck] at h; exact h.elim
        | some y=>
         rw [hck] at h
         obtain ⟨ek,ey⟩:=bL hck
         obtain ⟨dk,dx⟩:=d
         simp only at ek ey h
         subst ek
         subst ey
         rcases aB h with ⟨hj,h⟩ | ⟨_,h⟩
         ·have hown:=kI hc.2
          obtain ⟨g1,cs,b,o,g2,g3⟩:=h1.1.2 R hr.1 hv hc.1 hown (by rw [Ay]; rfl)
          obtain ⟨c,is,ts,f1,f2⟩:=ih h1.2 h2' h
          exact ⟨(y,c),⟨R.tags,some (r,p,wt,ht),[],[eU R p]⟩ :: is,ts,⟨⟨r,R,p,⟨rfl,rfl,rfl,hr,hv,Ay,g1,hown,hj⟩,rfl,cs,b,o,g2,g3⟩,f1⟩,f2⟩
         ·exact h.elim
      ·exact h.elim
     | _=>exact h.elim
    | jl kk ow wt=>
     simp only [jS] at h
     have hgo:∀(r:Nat) (R:Root) (p:List Stp) (d:Dat),aR σ r R→bq σ R→aT p R.k R.x=some d→nX p R.k R.x→(∀t∈ah p R.k,ay t R.own=true)→(∃cs wh,bF (hp w) p R.k (α.hdr r) (eB α R r)=some (cs,wh)∧VC d.1 v cs)→
       (match bP d.1 kk d.2 with
       | some y=>bif pF kk R.own ow then jS ps NJ fun c is=>k (y,c) (⟨R.tags,some (r,p,wt,kk.tys),[],[]⟩ :: is) else .fail
       | none=>.fail).ends σ z→∃c is ts,U5 cx σ α F a w (.jl kk ow wt :: ps) c (v :: vs) is ts∧(k c is).ends σ z:=by
      intro r R p d hr hv hg fU hown hn h
      cases hck:bP d.1 kk d.2 with
      | none=>rw [hck] at h; exact h.elim
      | some y=>
       rw [hck] at h
       obtain ⟨ek,ey⟩:=bL hck
       obtain ⟨dk,dx⟩:=d
       simp only at ek ey h hn
       subst ek
       subst ey
       rcases aB h with ⟨hj,h⟩ | ⟨_,h⟩
       ·obtain ⟨c,is,ts,f1,f2⟩:=ih h1.2 h2' h
        exact ⟨(y,c),⟨R.tags,some (r,p,wt,dk.tys),[],[]⟩ :: is,ts,⟨⟨r,R,p,⟨rfl,rfl,rfl,hr,hv,hg,fU,hown,hj⟩,rfl,hn⟩,f1⟩,f2⟩
       ·exact h.elim
     cases x with
     | xy r p n=>
      simp only at h
      obtain ⟨R,hr,hv,h⟩:=cO h
      rcases aB h with ⟨hc,h⟩ | ⟨_,h⟩
      ·cases Ay:aT p R.k R.x with
       | none=>rw [Ay] at h; exact h.elim
       | some d=>
        rw [Ay] at h
        obtain ⟨g1,g2,cs,wh,g3,g4⟩:=h1.1 R hr.1 hv (aph hc) d Ay
        exact hgo r R p d hr hv Ay g1 g2 ⟨cs,wh,g3,g4⟩ h
      ·exact h.elim
     | ref r g=>
      simp only at h
      obtain ⟨R,hr,hv,h⟩:=cO h
      rcases aB h with ⟨hc,h⟩ | ⟨_,h⟩
      ·obtain ⟨_,g4⟩:=h1.1 R hr (aph hc)
       exact hgo r R [] ⟨R.k,R.x⟩ hr hv rfl trivial (fun t ht=>by simp [ah] at ht) ⟨_,_,rfl,g4⟩ h
      ·exact h.elim
     | _=>exact h.elim
    | own kk ow=>
     simp only [jS] at h
     obtain ⟨tk,htk,h⟩:=tX H h1.1 (h2 x (by simp)) h
     cases hck:bP tk.k kk tk.x with
     | none=>rw [hck] at h; exact h.elim
     | some y=>
      rw [hck] at h
      obtain ⟨ek,ey⟩:=bL hck
      simp only at h
      rcases aB h with ⟨hj,h⟩ | ⟨_,h⟩
      ·obtain ⟨c,is,ts,f1,f2⟩:=ih h1.2 h2' h
       exact ⟨(y,c),⟨tk.tags,none,tk.ws,[]⟩ :: is,(v,tk) :: ts,⟨⟨rfl,htk,rfl,⟨ek,ey⟩,hj⟩,f1⟩,f2⟩
      ·exact h.elim
    | fn f ks=>
     simp only [jS] at h
     cases x with
     | fn f' caps=>
      simp only at h
      rcases aB h with ⟨hf,h⟩ | ⟨_,h⟩
      ·obtain ⟨us,e1,e2⟩:=h1.1
       obtain ⟨c0,T0,g1,h⟩:=Ws (a:=a) e2 (fun c hc=>h2 (.fn f' caps) (by simp) c hc) h
       obtain ⟨c,is,ts,f1,f2⟩:=ih h1.2 h2' h
       refine ⟨Cont.app ks (kin ps) c0 c,⟨T0,none,[],[]⟩ :: is,ts,⟨⟨rfl,rfl,rfl,us, ?_, ?_⟩, ?_⟩,f2⟩
       ·rw [e1,aph hf]
       ·rw [FD]; exact g1
       ·rw [Gj]; exact f1
      ·exact h.elim
     | _=>exact h.elim
    | into j q=>
     cases q with
     | cons _ _=>exact h.elim
     | nil=>
      cases x with
      | iQ=>
       obtain ⟨b,hb⟩:=h1.1
       obtain ⟨c,is,ts,f1,f2⟩:=ih h1.2 h2' h
       exact ⟨c,⟨[],none,[],[]⟩ :: is,ts,⟨⟨rfl,rfl,rfl,b,hb⟩,f1⟩,f2⟩
      | _=>exact h.elim
end
end
section
open Go
variable [Fr]
structure GA where
 v:Value
 cs:List Value
 fo:List Nat
 base:Option (Nat×Nat)
 ow:Bool
 wb:Bool
def Ch (p:cZ) (i:Nat) (c:Cont p.kin):AV:=match p,c with
 | .val k iB,c=>.val k c.1 (bif k.flat then [] else (qp i,0) :: iB.map fun j=>(au j,0))
 | .ro k,c=>.je SENT k c.1 [(qp i,0)]
 | .rw _ _ _ _,_=>.ptr (au i) [] 0
 | .jl _ _ _,_=>.ref (au i) 0
 | .own _ _,_=>.ref (au i) 0
 | .fn f ks,c=>.fn f (eT.Aj i ks c)
 | .into _ _,_=>.iQ
def dU (p:cZ) (i:Nat) (c:Cont p.kin):Option Root:=match p,c with
 | .rw k ow _ _,c=>some (aP k c.1 ow (bif k.tys.all (fun t=>ay t ow) then [] else [(qp i,0)]) .par true)
 | .jl k ow _,c=>some { aP k c.1 ow (bif k.tys.all (fun t=>ay t ow) then [] else [(qp i,0)]) .anon true with fixed:=true }
 | .own k ow,c=>some (aP k c.1 ow (bif k.tys.all (fun t=>ay t ow) then [] else [(qp i,0)]) .anon)
 | _,_=>none
def Y7:(p:cZ)→(ps:List cZ)→Cont (kin (p :: ps))→Cont p.kin
 | .val _ _,_,c=>(c.1,())
 | .ro _,_,c=>(c.1,())
 | .rw _ _ _ _,_,c=>(c.1,())
 | .jl _ _ _,_,c=>(c.1,())
 | .own _ _,_,c=>(c.1,())
 | .fn _ ks,ps,c=>Cont.fst ks (kin ps) c
 | .into _ p,ps,c=>Cont.fst (cZ.into 0 p).kin (kin ps) c
def tlC:(p:cZ)→(ps:List cZ)→Cont (kin (p :: ps))→Cont (kin ps)
 | .val _ _,_,c=>c.2
 | .ro _,_,c=>c.2
 | .rw _ _ _ _,_,c=>c.2
 | .jl _ _ _,_,c=>c.2
 | .own _ _,_,c=>c.2
 | .fn _ ks,ps,c=>Cont.snd ks (kin ps) c
 | .into _ p,ps,c=>Cont.snd (cZ.into 0 p).kin (kin ps) c
theorem Ee (p:cZ) (ps:List cZ) (i:Nat) (c:Cont (kin (p :: ps))):eT (p :: ps) i c=(i,Ch p i (Y7 p ps c)) :: eT ps (i+1) (tlC p ps c):=by cases p <;> rfl
theorem wN (p:cZ) (ps:List cZ) (i:Nat) (c:Cont (kin (p :: ps))):gD (p :: ps) i c=(match dU p i (Y7 p ps c) with
 | some R=>[(au i,R)]
 | none=>[])++gD ps (i+1) (tlC p ps c):=by cases p <;> rfl
theorem Sc {i j:Nat} (h:au i=au j):i=j:=by unfold au at h; omega
theorem I1:∀(ps:List cZ) (i:Nat) (c:Cont (kin ps)) (s:Nat),iG (eT ps i c) s=.one .undef∨∃j p cj,s=i+j∧ps[j]?=some p∧iG (eT ps i c) s=.one (Ch p s cj)
 | [],i,c,s=>.inl rfl
 | p :: ps,i,c,s=>by
  rw [Ee]
  simp only [iG]
  by_cases h:s=i
  ·subst h
   refine .inr ⟨0,p,Y7 p ps c,rfl,rfl, ?_⟩
   simp
  ·have:Nat.beq s i=false:=by
    cases hb:Nat.beq s i with
    | true=>exact absurd (aph hb) h
    | false=>rfl
   rw [this]
   simp only [cond_false]
   rcases I1 ps (i+1) (tlC p ps c) s with h1 | ⟨j,q,cj,h1,h2,h3⟩
   ·exact .inl h1
   ·exact .inr ⟨j+1,q,cj,by omega,by simpa using h2,h3⟩
theorem zA (l m:List (Nat×Root)) (n:Nat):gH (l++m) n=match gH l n with
 | some R=>some R
 | none=>gH m n:=by
 induction l with
 | nil=>rfl
 | cons q l ih=>
  obtain ⟨s,a⟩:=q
  simp only [List.cons_append,gH]
  cases Nat.beq n s with
  | true=>rfl
  | false=>exact ih
theorem Og:∀(ps:List cZ) (i:Nat) (c:Cont (kin ps)) (r:Nat),r<au i→gH (gD ps i c) r=none
 | [],_,_,_,_=>rfl
 | p :: ps,i,c,r,h=>by
  rw [wN,zA]
  have h2:=Og ps (i+1) (tlC p ps c) r (by unfold au at h ⊢; omega)
  cases dU p i (Y7 p ps c) with
  | none=>exact h2
  | some R=>
   have:Nat.beq r (au i)=false:=by
    cases hb:Nat.beq r (au i) with
    | true=>have:=aph hb; omega
    | false=>rfl
   simp only [gH,this,cond_false]
   exact h2
def O4 (cx:Cx) (σ:St) (α:dK) (F:List Nat) (a:Act) (w:World) (r:Nat) (R:Root) (p:List Stp) (d:Dat) (cs1:List Value) (nY:Option (Nat×Nat)) (gq:List Nat):Prop:=
 ∃rest,(α.fo r).Perm (gq++rest)∧(∀b o,nY=some (b,o)→b∈rest∨∃o0,eB α R r=some (b,o0)∧o0≤o∧o+d.1.size≤o0+R.k.size)∧(∀b o,nY=some (b,o)→b∉gq)∧
  ∀{t z:Dat} {tags':List Tag} {lw lh:List TypeId} {kp:Bool} {ft F':List Nat} {cs':List Value} {w':World},tu cx σ α F w r R p d R.own cs1 nY gq rest t z tags' lw lh kp ft F' cs' w'→
    ∃α',Rel cx (az σ r (bH R z R.own tags' lw lh kp)) α' F' a w'∧nE cx σ α F w (az σ r (bH R z R.own tags' lw lh kp)) α' F' w' (tQ r lw) (tQ r lh)∧(∀b∈blk α' (bH R z R.own tags' lw lh kp) r,(∃o,eB α R r=some (b,o))∨b∈ft∨b∈rest)∧
     (qK∉lh→bq (az σ r (bH R z R.own tags' lw lh kp)) (bH R z R.own tags' lw lh kp)→bF (hp w') p z.1 (α'.hdr r) (eB α' (bH R z R.own tags' lw lh kp) r)=some (cs',nY))∧∀b∈ft,b∈α'.fo r
def XX (cx:Cx) (σ:St) (α:dK) (F:List Nat) (a:Act) (w:World) (p:cZ) (c:Cont p.kin) (v:Value) (i:cB) (g:GA):Prop:=g.v=v∧match p,c with
 | .val k _,c=>g.ow=false∧g.wb=false∧i.wb=none∧g.fo=[]∧g.base=none∧VC k v g.cs∧Vw (hp w) (iT cx σ α F w i.ids) k c.1 g.cs
 | .ro k,c=>g.ow=false∧g.wb=false∧i.wb=none∧g.fo=[]∧g.base=none∧∃b o,v=.pointer (some ⟨b,o,none⟩)∧Cells (hp w) b o g.cs∧Vw (hp w) (iT cx σ α F w i.ids) k c.1 g.cs∧Ml σ α F w i.ids b
 | .rw k ow wt ht,c=>g.ow=false∧g.wb=true∧∃r R p b o,PlG cx σ α w k c.1 ow i wt ht r R p∧i.bt=[eU R p]∧bF (hp w) p R.k (α.hdr r) (eB α R r)=some (g.cs,some (b,o))∧v=.pointer (some ⟨b,o,none⟩)∧g.base=some (b,o)∧
   Ow (hp w) R.own (iT cx σ α F w R.tags) k c.1 g.cs g.fo∧(∀b∈g.fo,b∈α.fo r)∧g.fo.Nodup∧b∉g.fo∧O4 cx σ α F a w r R p ⟨k,c.1⟩ g.cs (some (b,o)) g.fo
 | .jl k ow wt,c=>g.ow=false∧g.wb=true∧∃r R p wh,PlG cx σ α w k c.1 ow i wt k.tys r R p∧i.bt=[]∧bF (hp w) p R.k (α.hdr r) (eB α R r)=some (g.cs,wh)∧VC k v g.cs∧g.base=none∧
   Ow (hp w) R.own (iT cx σ α F w R.tags) k c.1 g.cs g.fo∧(∀b∈g.fo,b∈α.fo r)∧g.fo.Nodup∧O4 cx σ α F a w r R p ⟨k,c.1⟩ g.cs wh g.fo
 | .own k ow,c=>g.ow=true∧g.wb=false∧i.wb=none∧g.base=none∧VC k v g.cs∧Ow (hp w) ow (iT cx σ α F w i.ids) k c.1 g.cs g.fo∧(∀b∈g.fo,b∈F)∧g.fo.Nodup
 | .fn f ks,c=>g.ow=false∧g.wb=false∧i.wb=none∧g.fo=[]∧g.base=none∧∃us:List Value,v=.func (.func f) #[] us.toArray∧U4 ks c us i.ids
 | .into _ _,_=>g.ow=false∧g.wb=false∧i.wb=none∧g.fo=[]∧g.base=none∧∃b,v=.slice b 0 0
where U4:(ks:List K)→Cont ks→List Value→List Tag→Prop
 | [],_,[],_=>True
 | k :: ks,c,v :: vs,ids=>(∃b o cs,v=.pointer (some ⟨b,o,none⟩)∧Cells (hp w) b o cs∧Vw (hp w) (iT cx σ α F w ids) k c.1 cs∧Ml σ α F w ids b)∧U4 ks c.2 vs ids
 | _,_,_,_=>False
def GJs (cx:Cx) (σ:St) (α:dK) (F:List Nat) (a:Act) (w:World):(ps:List cZ)→Cont (kin ps)→List Value→List cB→List GA→Prop
 | [],_,[],[],[]=>True
 | p :: ps,c,v :: vs,i :: is,g :: gs=>XX cx σ α F a w p (Y7 p ps c) v i g∧GJs cx σ α F a w ps (tlC p ps c) vs is gs
 | _,_,_,_,_=>False
section
variable {P:Program} {T:ji} {cx:Cx} {σ:St} {α:dK} {F:List Nat} {a:Act} {w:World}
theorem Dx.caps {σ1:St} {dL:dK} {F1:List Nat} {ids:List Tag} (hT:Tk cx σ α F a w σ1 dL F1 ids):∀{ks:List K} {c:Cont ks} {us:List Value},Dx cx σ α F a w ids ks c us→XX.U4 cx σ1 dL F1 w ks c us ids
 | [],_,[],_=>trivial
 | _ :: _,_,_ :: _,⟨⟨b,o,cs,h1,h2,h3⟩,hh⟩=>⟨⟨b,o,cs,h1,h2,h3 σ1 dL F1 hT⟩,Dx.caps hT hh⟩
 | [],_,_ :: _,hh=>hh.elim
 | _ :: _,_,[],hh=>hh.elim
theorem Tw {σ1:St} {dL:dK} {F1:List Nat} (H1:Rel cx σ1 dL F1 a w) (hV:Views cx σ α F w σ1 dL F1 w):∀{ps:List cZ} {c:Cont (kin ps)} {vs:List Value} {is:List cB} {ts:List (Value×iL)} {hs:List (List Value×List Nat)},
  U5 cx σ α F a w ps c vs is ts→rW cx σ1 dL F1 w ts hs→(∀i∈is,∀t∈i.ids,Same σ α σ1 dL t.1)→(∀i∈is,∀r q,i.wb=some (r,q)→Same σ α σ1 dL r)→
  ∃gs,GJs cx σ1 dL F1 a w ps c vs is gs∧(gs.flatMap fun g=>bif g.ow then g.fo else [])=hs.flatMap (·.2):=by
 intro ps
 induction ps with
 | nil=>
  intro c vs is ts hs h hh _ _
  cases vs with
  | cons _ _=>exact h.elim
  | nil=>cases is with
   | cons _ _=>exact h.elim
   | nil=>cases ts with
    | cons _ _=>exact h.elim
    | nil=>cases hs with
     | cons _ _=>exact hh.elim
     | nil=>exact ⟨[],trivial,rfl⟩
 | cons p ps ih=>
  intro c vs is ts hs h hh hS hR
  have hpl:∀{k:K} {x:El k} {ow:List TypeId} {i:cB} {wt ht:List TypeId} {r:Nat} {R:Root} {p:List Stp} {cs:List Value} {wh:Option (Nat×Nat)},PlG cx σ α w k x ow i wt ht r R p→(∀t∈i.ids,Same σ α σ1 dL t.1)→Same σ α σ1 dL r→
    bF (hp w) p R.k (α.hdr r) (eB α R r)=some (cs,wh)→PlG cx σ1 dL w k x ow i wt ht r R p∧bF (hp w) p R.k (dL.hdr r) (eB dL R r)=some (cs,wh)∧
     ∃fo,Ow (hp w) R.own (iT cx σ1 dL F1 w R.tags) k x cs fo∧(∀b∈fo,b∈dL.fo r)∧fo.Nodup∧(∀b o,wh=some (b,o)→b∉fo)∧O4 cx σ1 dL F1 a w r R p ⟨k,x⟩ cs wh fo:=by
   intro k x ow i wt ht r R p cs wh hP hid hr hn
   have hr1:=(hr.live R).2 hP.lv
   have hv1:bq σ1 R:=⟨hP.vl.1,by rw [fA (fun t ht=>(hid t (by rw [hP.ids]; exact ht)).root)]; exact hP.vl.2⟩
   have hn1:bF (hp w) p R.k (dL.hdr r) (eB dL R r)=some (cs,wh):=by rw [hr.hdr,hr.wh]; exact hn
   have K:=H1.roots r R hr1
   have hnd:=K.nd
   rw [bT,nQ] at hnd
   obtain ⟨fd,ok',gq,rest,qo,wh2,hn',hpf,hd1,hty,hall,Az,hwf,hgo⟩:=H1.place hr1 hv1 (own':=R.own) hP.get hP.pin (fun _ h=>h) hP.own
   rw [hn1] at hn'
   simp only [apd,apo] at hn'
   obtain ⟨rfl,rfl⟩:=hn'
   obtain ⟨hfd,hO⟩:=hall (fun _ _=>rfl)
   subst hfd
   rw [apH] at hpf
   have tN:=hpf.nodup hnd.2
   exact ⟨⟨hP.wb,hP.ws,hP.ids,hr1,hv1,hP.get,hP.pin,hP.own,hP.just⟩,hn1,gq,hO,fun b hb=>hpf.mem_iff.2 (api _ hb),(apk.1 tN).1,hwf,rest,hpf,Az,hwf,hgo⟩
  cases vs with
  | nil=>cases p <;> exact h.elim
  | cons v vs=>
   cases is with
   | nil=>cases p <;> exact h.elim
   | cons i is=>
    have hS1:=hS i (by simp)
    have hR1:=hR i (by simp)
    have Y2:Tk cx σ α F a w σ1 dL F1 i.ids:=⟨H1,hV,hS1⟩
    have hS2:∀i∈is,∀t∈i.ids,Same σ α σ1 dL t.1:=fun i hi=>hS i (by simp [hi])
    have hR2:∀i∈is,∀r q,i.wb=some (r,q)→Same σ α σ1 dL r:=fun i hi=>hR i (by simp [hi])
    cases p with
    | val k iB=>
     obtain ⟨⟨h1,h2,h3,cs,h4,h5⟩,h6⟩:=h
     obtain ⟨gs,g1,g2⟩:=ih h6 hh hS2 hR2
     exact ⟨⟨v,cs,[],none,false,false⟩ :: gs,⟨⟨rfl,rfl,rfl,h1,rfl,rfl,h4,h5 σ1 dL F1 Y2⟩,g1⟩,by simpa using g2⟩
    | ro k=>
     obtain ⟨⟨h1,h2,h3,b,o,cs,h4,h5,h7⟩,h6⟩:=h
     obtain ⟨gs,g1,g2⟩:=ih h6 hh hS2 hR2
     exact ⟨⟨v,cs,[],none,false,false⟩ :: gs,⟨⟨rfl,rfl,rfl,h1,rfl,rfl,b,o,h4,h5,h7 σ1 dL F1 Y2⟩,g1⟩,by simpa using g2⟩
    | rw k ow wt ht=>
     obtain ⟨⟨r,R,p,hP,hbt,cs,b,o,hn,hv⟩,h6⟩:=h
     obtain ⟨gs,g1,g2⟩:=ih h6 hh hS2 hR2
     obtain ⟨q1,q2,fo,q3,q4,q5,q6,q7⟩:=hpl hP hS1 (hR1 r _ hP.wb) hn
     exact ⟨⟨v,cs,fo,some (b,o),false,true⟩ :: gs,⟨⟨rfl,rfl,rfl,r,R,p,b,o,q1,hbt,q2,hv,rfl,q3,q4,q5,q6 b o rfl,q7⟩,g1⟩,by simpa using g2⟩
    | jl k ow wt=>
     obtain ⟨⟨r,R,p,hP,hbt,cs,wh,hn,hv⟩,h6⟩:=h
     obtain ⟨gs,g1,g2⟩:=ih h6 hh hS2 hR2
     obtain ⟨q1,q2,fo,q3,q4,q5,q6,q7⟩:=hpl hP hS1 (hR1 r _ hP.wb) hn
     exact ⟨⟨v,cs,fo,none,false,true⟩ :: gs,⟨⟨rfl,rfl,rfl,r,R,p,wh,q1,hbt,q2,hv,rfl,q3,q4,q5,q7⟩,g1⟩,by simpa using g2⟩
    | own k ow=>
     cases ts with
     | nil=>exact h.elim
     | cons q ts=>
      cases hs with
      | nil=>exact hh.elim
      | cons hd hs=>
       obtain ⟨⟨h1,h2,h3,⟨ek,ey⟩,h5⟩,h6⟩:=h
       obtain ⟨⟨k1,k2,k3⟩,k4⟩:=hh
       obtain ⟨gs,g1,g2⟩:=ih h6 k4 hS2 hR2
       obtain ⟨v',tk⟩:=q
       simp only at h1 h2 h3 ek ey h5 k1 k2 k3
       subst h1
       have hO:Ow (hp w) ow (iT cx σ1 dL F1 w tk.tags) k c.1 hd.1 hd.2:=by
        refine uE (fun t ht=>?_) (Aa ek ey (k2.ow k3))
        have:=apt.1 h5 t ht
        exact (by simpa using this:ay t tk.own=ay t ow).symm
       refine ⟨⟨v',hd.1,hd.2,none,true,false⟩ :: gs,⟨⟨rfl,rfl,rfl,by rw [h3],rfl,ek▸k1,by rw [h3]; exact hO,k2.sub,k2.nd⟩,g1⟩,by simp [g2]⟩
    | fn f ks=>
     obtain ⟨⟨h1,h2,h3,us,h4,h5⟩,h6⟩:=h
     obtain ⟨gs,g1,g2⟩:=ih h6 hh hS2 hR2
     exact ⟨⟨v,[],[],none,false,false⟩ :: gs,⟨⟨rfl,rfl,rfl,h1,rfl,rfl,us,h4,h5.caps Y2⟩,g1⟩,by simpa using g2⟩
    | into j q=>
     obtain ⟨⟨h1,h2,h3,b,h4⟩,h6⟩:=h
     obtain ⟨gs,g1,g2⟩:=ih h6 hh hS2 hR2
     exact ⟨⟨v,[],[],none,false,false⟩ :: gs,⟨⟨rfl,rfl,rfl,h1,rfl,rfl,b,h4⟩,g1⟩,by simpa using g2⟩
theorem GJs.at:∀{ps:List cZ} {c:Cont (kin ps)} {vs:List Value} {is:List cB} {gs:List GA} {i0:Nat},GJs cx σ α F a w ps c vs is gs→
  vs.length=ps.length∧is.length=ps.length∧gs.length=ps.length∧∀j p,ps[j]?=some p→∃cj v i g,vs[j]?=some v∧is[j]?=some i∧gs[j]?=some g∧XX cx σ α F a w p cj v i g∧
   iG (eT ps i0 c) (i0+j)=.one (Ch p (i0+j) cj)∧gH (gD ps i0 c) (au (i0+j))=dU p (i0+j) cj:=by
 intro ps
 induction ps with
 | nil=>
  intro c vs is gs i0 h
  cases vs with
  | cons _ _=>exact h.elim
  | nil=>cases is with
   | cons _ _=>exact h.elim
   | nil=>cases gs with
    | cons _ _=>exact h.elim
    | nil=>exact ⟨rfl,rfl,rfl,fun j p hp=>by simp at hp⟩
 | cons p ps ih=>
  intro c vs is gs i0 h
  cases vs with
  | nil=>exact h.elim
  | cons v vs=>cases is with
   | nil=>exact h.elim
   | cons i is=>cases gs with
    | nil=>exact h.elim
    | cons g gs=>
     obtain ⟨h1,h2⟩:=h
     obtain ⟨l1,l2,l3,h3⟩:=ih (i0:=i0+1) h2
     refine ⟨by simp [l1],by simp [l2],by simp [l3],fun j q hq=>?_⟩
     cases j with
     | zero=>
      simp only [List.getElem?_cons_zero,apd] at hq
      subst hq
      refine ⟨Y7 p ps c,v,i,g,rfl,rfl,rfl,h1, ?_, ?_⟩
      ·rw [Ee]; simp [iG]
      ·rw [wN,zA]
       cases hr:dU p i0 (Y7 p ps c) with
       | none=>
        simp only [gH,Nat.add_zero]
        rw [Og ps (i0+1) (tlC p ps c) (au i0) (by unfold au; omega)]
       | some R=>simp [gH]
     | succ j=>
      obtain ⟨cj,v',i',g',e1,e2,e3,e4,e5,e6⟩:=h3 j q (by simpa using hq)
      have ej:i0+(j+1)=i0+1+j:=by omega
      refine ⟨cj,v',i',g',e1,e2,e3,e4, ?_, ?_⟩
      ·rw [Ee,ej]
       simp only [iG]
       have:Nat.beq (i0+1+j) i0=false:=by
        cases hb:Nat.beq (i0+1+j) i0 with
        | true=>have:=aph hb; omega
        | false=>rfl
       rw [this]
       exact e5
      ·rw [wN,zA,ej]
       cases hr:dU p i0 (Y7 p ps c) with
       | none=>exact e6
       | some R=>
        have:Nat.beq (au (i0+1+j)) (au i0)=false:=by
         cases hb:Nat.beq (au (i0+1+j)) (au i0) with
         | true=>have:=Sc (aph hb); omega
         | false=>rfl
        simp only [gH,this,cond_false]
        exact e6
theorem Xu:∀{ps:List cZ} {c:Cont (kin ps)} {i0 r:Nat} {R:Root},gH (gD ps i0 c) r=some R→∃j p,r=au (i0+j)∧ps[j]?=some p:=by
 intro ps
 induction ps with
 | nil=>intro c i0 r R h; simp [gD,gH] at h
 | cons p ps ih=>
  intro c i0 r R h
  rw [wN,zA] at h
  have hrec:gH (gD ps (i0+1) (tlC p ps c)) r=some R→∃j q,r=au (i0+j)∧(p :: ps)[j]?=some q:=by
   intro h
   obtain ⟨j,q,h1,h2⟩:=ih h
   exact ⟨j+1,q,by rw [h1]; congr 1; omega,by simpa using h2⟩
  cases hr:dU p i0 (Y7 p ps c) with
  | none=>rw [hr] at h; exact hrec h
  | some Q=>
   rw [hr] at h
   simp only [gH] at h
   cases hb:Nat.beq r (au i0) with
   | true=>exact ⟨0,p,aph hb,rfl⟩
   | false=>rw [hb] at h; exact hrec h
end
end
section
open Go
variable [Fr]
def gU (g:GA):List Nat:=(match g.base with
 | some q=>[q.1]
 | none=>[])++g.fo
def Mr:cZ→List Nat
 | .val _ iB=>iB
 | _=>[]
def xu:cZ→Nat
 | .rw k _ _ _=>k.size
 | _=>0
def dI (cx:Cx) (σ:St) (α:dK) (F:List Nat) (w:World) (ps:List cZ) (c:Cont (kin ps)) (is:List cB) (gs:List GA):Cx where
 nt:=0
 w0:=w
 ext:=fun j b=>(∃i,is[j]?=some i∧iT cx σ α F w i.ids b)∧∀(m:Nat) (g:GA) (q:Nat×Nat),gs[m]?=some g→g.base=some q→b≠q.1
 par:=fun j=>match gs[j]?,ps[j]? with
  | some g,some p=>bif g.ow || g.wb then some ⟨g.base.map fun q=>(q.1,q.2,xu p),gU g,g.wb⟩ else none
  | _,_=>none
 ptrs:=fun j q ts v=>∃g R0 c0 b o,gs[j]?=some g∧g.wb=true∧gH (gD ps 0 c) (au j)=some R0∧ts=eD q R0.k∧(∀t∈ah q R0.k,ay t R0.own=true)∧nX q R0.k R0.x∧bF (hp w) q R0.k g.cs g.base=some (c0,some (b,o))∧v=.pointer (some ⟨b,o,none⟩)
 refs:=fun j v=>∃g,gs[j]?=some g∧g.v=v∧g.base=none∧g.wb=true
def jA (gs:List GA):dK where
 loc:=fun r=>((gs[r / 4]?).bind (·.base)).getD (0,0)
 hdr:=fun r=>((gs[r / 4]?).map (·.cs)).getD []
 fo:=fun r=>((gs[r / 4]?).map (·.fo)).getD []
theorem Sb (j:Nat):au j / 4=j:=by unfold au; omega
theorem pg (j:Nat):fP (au j)=false:=by
 unfold fP au
 have:4 * j % 4=0:=by omega
 rw [this]; rfl
section
variable {P:Program} {T:ji} {cx:Cx} {σ:St} {α:dK} {F:List Nat} {a:Act} {w:World} {ps:List cZ} {c:Cont (kin ps)} {vs:List Value} {is:List cB} {gs:List GA}
structure Apart (cx:Cx) (σ:St) (α:dK) (F:List Nat) (w:World) (ps:List cZ) (is:List cB) (gs:List GA):Prop where
 one:∀(j j':Nat) (g g':GA),gs[j]?=some g→gs[j']?=some g'→g.wb=true→g'.wb=true→j=j'
 own:(gs.flatMap fun g=>bif g.ow then g.fo else []).Nodup
 iB:∀(j:Nat) (p:cZ) (i:cB) (r n:Nat),ps[j]?=some p→is[j]?=some i→(r,n)∈i.ids→∀(m:Nat) (i':cB) q,is[m]?=some i'→i'.wb=some (r,q)→m∈Mr p∧∃k iB,p=.val k iB∧∀b∈i'.bt,b∉k.tys
 prw:∀(j:Nat) (p:cZ),ps[j]?=some p→∀m∈Mr p,∃(i':cB) (q:Nat×List Stp×List TypeId×List TypeId),is[m]?=some i'∧i'.wb=some q
theorem flatMap_apart {A:Type} {f:A→List Nat}:∀{l:List A} {i j:Nat} {x y:A},(l.flatMap f).Nodup→l[i]?=some x→l[j]?=some y→i≠j→∀b∈f x,b∉f y:=by
 intro l
 induction l with
 | nil=>intro i j x y _ h; simp at h
 | cons z l ih=>
  intro i j x y hnd hi hj hne b hb hb'
  simp only [List.flatMap_cons] at hnd
  have n:=apk.1 hnd
  cases i with
  | zero=>
   simp only [List.getElem?_cons_zero,apd] at hi
   subst hi
   cases j with
   | zero=>exact hne rfl
   | succ j=>exact n.2.2 b hb b (apP.2 ⟨y,List.mem_of_getElem? (by simpa using hj),hb'⟩) rfl
  | succ i=>
   cases j with
   | zero=>
    simp only [List.getElem?_cons_zero,apd] at hj
    subst hj
    exact n.2.2 b hb' b (apP.2 ⟨x,List.mem_of_getElem? (by simpa using hi),hb⟩) rfl
   | succ j=>exact ih n.2.1 (by simpa using hi) (by simpa using hj) (by omega) b hb hb'
theorem aaI {p:cZ} {cj:Cont p.kin} {v:Value} {i:cB} {g:GA} (h:XX cx σ α F a w p cj v i g) (hw:g.wb=true) :
  ∃(k:K) (x:El k) (ow wt ht:List TypeId) (r:Nat) (R:Root) (q:List Stp) (wh:Option (Nat×Nat)),((p=.rw k ow wt ht∧i.bt=[eU R q]∧∃b o,wh=some (b,o)∧v=.pointer (some ⟨b,o,none⟩)∧g.base=some (b,o)∧b∉g.fo)∨(p=.jl k ow wt∧ht=k.tys∧i.bt=[]∧VC k v g.cs∧g.base=none))∧
   PlG cx σ α w k x ow i wt ht r R q∧bF (hp w) q R.k (α.hdr r) (eB α R r)=some (g.cs,wh)∧Ow (hp w) R.own (iT cx σ α F w R.tags) k x g.cs g.fo∧(∀b∈g.fo,b∈α.fo r)∧g.fo.Nodup∧g.ow=false∧g.v=v:=by
 obtain ⟨hv,h⟩:=h
 cases p with
 | val k iB=>rw [h.2.1] at hw; simp at hw
 | ro k=>rw [h.2.1] at hw; simp at hw
 | rw k ow wt ht=>
  obtain ⟨h1,h2,r,R,q,b,o,h3,h4,h5,h6,h7,h8,h9,h10,h11,_⟩:=h
  exact ⟨k,cj.1,ow,wt,ht,r,R,q,some (b,o), .inl ⟨rfl,h4,b,o,rfl,h6,h7,h11⟩,h3,h5,h8,h9,h10,h1,hv⟩
 | jl k ow wt=>
  obtain ⟨h1,h2,r,R,q,wh,h3,h4,h5,h6,h7,h8,h9,h10,_⟩:=h
  exact ⟨k,cj.1,ow,wt,k.tys,r,R,q,wh, .inr ⟨rfl,rfl,h4,h6,h7⟩,h3,h5,h8,h9,h10,h1,hv⟩
 | own k ow=>rw [h.2.1] at hw; simp at hw
 | fn f ks=>rw [h.2.1] at hw; simp at hw
 | into j q=>rw [h.2.1] at hw; simp at hw
structure RD (cx:Cx) (σ:St) (α:dK) (F:List Nat) (w:World) (ps:List cZ) (vs:List Value) (is:List cB) (gs:List GA) (j:Nat) (R:Root) (g:GA) (i:cB) (p:cZ):Prop where
 hg:gs[j]?=some g
 hi:is[j]?=some i
 hq:ps[j]?=some p
 hv:vs[j]?=some g.v
 held:g.ow=true∨g.wb=true
 iB:Mr p=[]
 amI:∀k iB,p≠.val k iB
 lw:R.w=[]
 lh:R.h=[]
 g0:R.g=0
 ew:R.ew=[]
 eh:R.eh=[]
 tags:R.tags=bif R.k.tys.all (fun t=>ay t R.own) then [] else [(qp j,0)]
 ow:Ow (hp w) R.own (iT cx σ α F w i.ids) R.k R.x g.cs g.fo
 nd:g.fo.Nodup
 kind:(R.kind=.par∧xu p=R.k.size∧g.wb=true∧∃b o,g.base=some (b,o)∧b∉g.fo)∨(R.kind=.anon∧g.base=none∧VC R.k g.v g.cs)
theorem C8 {p:cZ} {cj:Cont p.kin} {v:Value} {i:cB} {g:GA} {j:Nat} {R:Root} (h:XX cx σ α F a w p cj v i g) (hg:gs[j]?=some g) (hi:is[j]?=some i) (hp:ps[j]?=some p) (hv:vs[j]?=some v) (hR:dU p j cj=some R):RD cx σ α F w ps vs is gs j R g i p:=by
 obtain ⟨h0,h⟩:=h
 subst h0
 have hall:∀{k:K} {ow own:List TypeId},pF k own ow=true→∀t∈k.tys,ay t ow=ay t own:=fun hj t ht=>by
  have:=apt.1 hj t ht
  exact (by simpa using this:ay t _=ay t _).symm
 cases p with
 | rw k ow wt ht=>
  obtain ⟨h1,h2,r,R0,q,b,o,h3,h4,h5,h6,h7,h8,h9,h10,h11,_⟩:=h
  simp only [dU,apd] at hR
  subst hR
  refine ⟨hg,hi,hp,hv, .inr h2,rfl,by simp,rfl,rfl,rfl,rfl,rfl,rfl, ?_,h10, .inl ⟨rfl,rfl,h2,b,o,h7,h11⟩⟩
  rw [h3.ids]
  exact uE (hall h3.just) h8
 | jl k ow wt=>
  obtain ⟨h1,h2,r,R0,q,wh,h3,h4,h5,h6,h7,h8,h9,h10,_⟩:=h
  simp only [dU,apd] at hR
  subst hR
  refine ⟨hg,hi,hp,hv, .inr h2,rfl,by simp,rfl,rfl,rfl,rfl,rfl,rfl, ?_,h10, .inr ⟨rfl,h7,h6⟩⟩
  rw [h3.ids]
  exact uE (hall h3.just) h8
 | own k ow=>
  obtain ⟨h1,h2,h3,h4,h5,h6,h7,h8⟩:=h
  simp only [dU,apd] at hR
  subst hR
  exact ⟨hg,hi,hp,hv, .inl h1,rfl,by simp,rfl,rfl,rfl,rfl,rfl,rfl,h6,h8, .inr ⟨rfl,h4,h5⟩⟩
 | val k iB=>simp [dU] at hR
 | ro k=>simp [dU] at hR
 | fn f ks=>simp [dU] at hR
 | into j q=>simp [dU] at hR
theorem CZ {p:cZ} {cj:Cont p.kin} {v:Value} {i:cB} {g:GA} (j:Nat) (h:XX cx σ α F a w p cj v i g) (hh:g.ow=true∨g.wb=true):∃R,dU p j cj=some R:=by
 obtain ⟨h0,h⟩:=h
 cases p with
 | rw k ow wt ht=>exact ⟨_,rfl⟩
 | jl k ow wt=>exact ⟨_,rfl⟩
 | own k ow=>exact ⟨_,rfl⟩
 | val k iB=>rcases hh with hh | hh <;> simp [h.1,h.2.1] at hh
 | ro k=>rcases hh with hh | hh <;> simp [h.1,h.2.1] at hh
 | fn f ks=>rcases hh with hh | hh <;> simp [h.1,h.2.1] at hh
 | into j q=>rcases hh with hh | hh <;> simp [h.1,h.2.1] at hh
theorem oK (H:Rel cx σ α F a w) {p:cZ} {cj:Cont p.kin} {v:Value} {i:cB} {g:GA} (h:XX cx σ α F a w p cj v i g):(∀b∈gU g,(g.ow=true∧b∈F)∨(g.wb=true∧∃r R q,i.wb=some (r,q)∧aR σ r R∧b∈blk α R r))∧
  (∀b o,g.base=some (b,o)→∃r R q arr e lo hi,i.wb=some (r,q)∧aR σ r R∧b∈blk α R r∧hp w b=some (.cells arr e (lo,hi))∧(∀i,i<arr.size→¬(lo≤i∧i<hi))∧o+xu p≤arr.size∧Cells (hp w) b o g.cs∧((∀t∈i.bt,t=e)∧i.bt≠[]∧¬mG cx b∨mG cx b))∧
  (∀b∈g.fo,g.wb=true→∃r R q,i.wb=some (r,q)∧aR σ r R∧b∈α.fo r)∧(g.wb=true↔i.wb≠none):=by
 obtain ⟨hv,h⟩:=h
 cases p with
 | val k iB=>
  obtain ⟨h1,h2,h3,h4,h5,_⟩:=h
  exact ⟨fun b hb=>by simp [gU,h4,h5] at hb,fun b o hb=>by rw [h5] at hb; simp at hb,fun b hb=>by rw [h4] at hb; simp at hb,by simp [h2,h3]⟩
 | ro k=>
  obtain ⟨h1,h2,h3,h4,h5,_⟩:=h
  exact ⟨fun b hb=>by simp [gU,h4,h5] at hb,fun b o hb=>by rw [h5] at hb; simp at hb,fun b hb=>by rw [h4] at hb; simp at hb,by simp [h2,h3]⟩
 | fn f ks=>
  obtain ⟨h1,h2,h3,h4,h5,_⟩:=h
  exact ⟨fun b hb=>by simp [gU,h4,h5] at hb,fun b o hb=>by rw [h5] at hb; simp at hb,fun b hb=>by rw [h4] at hb; simp at hb,by simp [h2,h3]⟩
 | own k ow=>
  obtain ⟨h1,h2,h3,h4,h5,h6,h7,h8⟩:=h
  exact ⟨fun b hb=>.inl ⟨h1,h7 b (by simpa [gU,h4] using hb)⟩,fun b o hb=>by rw [h4] at hb; simp at hb,fun b hb hw=>by rw [h2] at hw; simp at hw,by simp [h2,h3]⟩
 | jl k ow wt=>
  obtain ⟨h1,h2,r,R,q,wh,h3,h4,h5,h6,h7,h8,h9,h10,_⟩:=h
  have hf:∀b∈g.fo,b∈blk α R r:=fun b hb=>apf _ (h9 b hb)
  exact ⟨fun b hb=>.inr ⟨h2,r,R,_,h3.wb,h3.lv,hf b (by simpa [gU,h7] using hb)⟩,fun b o hb=>by rw [h7] at hb; simp at hb,fun b hb _=>⟨r,R,_,h3.wb,h3.lv,h9 b hb⟩,by simp [h2,h3.wb]⟩
 | rw k ow wt ht=>
  obtain ⟨h1,h2,r,R,q,b,o,h3,h4,h5,h6,h7,h8,h9,h10,h11,_⟩:=h
  have hf:∀b∈g.fo,b∈blk α R r:=fun b hb=>apf _ (h9 b hb)
  obtain ⟨m1,_,m2,⟨arr,e,lo,hi,m3,m4,m5,m6⟩,_⟩:=qB H h3.lv h3.vl h3.get h3.pin h3.own h5
  refine ⟨fun b' hb=>?_,fun b' o' hb=>?_,fun b hb _=>⟨r,R,_,h3.wb,h3.lv,h9 b hb⟩,by simp [h2,h3.wb]⟩
  ·refine .inr ⟨h2,r,R,_,h3.wb,h3.lv, ?_⟩
   simp only [gU,h7,List.cons_append,List.nil_append,apq] at hb
   rcases hb with hb | hb
   ·subst hb; exact m2
   ·exact hf b' hb
  ·rw [h7] at hb
   simp only [apd,apo] at hb
   obtain ⟨rfl,rfl⟩:=hb
   refine ⟨r,R,_,arr,e,lo,hi,h3.wb,h3.lv,m2,m3,m4,m5,m1, ?_⟩
   rcases m6 with ⟨m6,m7⟩ | ⟨m6,_⟩
   ·exact .inl ⟨fun t ht=>by rw [h4] at ht; simp only [apx] at ht; rw [ht,m6],by rw [h4]; simp,m7⟩
   ·exact .inr m6
 | into j q=>
  obtain ⟨h1,h2,h3,h4,h5,_⟩:=h
  exact ⟨fun b hb=>by simp [gU,h4,h5] at hb,fun b o hb=>by rw [h5] at hb; simp at hb,fun b hb=>by rw [h4] at hb; simp at hb,by simp [h2,h3]⟩
end
end
section
open Go
variable [Fr]
section
variable {P:Program} {T:ji} {cx:Cx} {σ:St} {α:dK} {F:List Nat} {a:Act} {w:World} {ps:List cZ} {c:Cont (kin ps)} {vs:List Value} {is:List cB} {gs:List GA}
theorem iY {j:Nat} {g:GA} (h:gs[j]?=some g):(jA gs).loc (au j)=g.base.getD (0,0)∧(jA gs).hdr (au j)=g.cs∧(jA gs).fo (au j)=g.fo:=by
 simp [jA,Sb,h]
theorem RD.blk {j:Nat} {R:Root} {g:GA} {i:cB} {p:cZ} (D:RD cx σ α F w ps vs is gs j R g i p):blk (jA gs) R (au j)=gU g:=by
 obtain ⟨h1,h2,h3⟩:=iY D.hg
 unfold Ow.blk gU eB
 rw [h1,h3]
 rcases D.kind with ⟨hk,_,_,b,o,hb,_⟩ | ⟨hk,hb,_⟩
 ·rw [hk,hb]; rfl
 ·rw [hk,hb]
theorem RD.wh {j:Nat} {R:Root} {g:GA} {i:cB} {p:cZ} (D:RD cx σ α F w ps vs is gs j R g i p):eB (jA gs) R (au j)=g.base:=by
 obtain ⟨h1,h2,h3⟩:=iY D.hg
 unfold eB
 rw [h1]
 rcases D.kind with ⟨hk,_,_,b,o,hb,_⟩ | ⟨hk,hb,_⟩
 ·rw [hk,hb]; rfl
 ·rw [hk,hb]
theorem RD.live {j:Nat} {R:Root} {g:GA} {i:cB} {p:cZ} (D:RD cx σ α F w ps vs is gs j R g i p):R.aX=false:=by
 unfold Root.aX
 rcases D.kind with ⟨hk,_⟩ | ⟨hk,_⟩ <;> rw [hk]
theorem abP (H:Rel cx σ α F a w) (hJ:GJs cx σ α F a w ps c vs is gs) (hA:Apart cx σ α F w ps is gs):Rel (dI cx σ α F w ps c is gs) (bS ps c) (jA gs) [] ⟨vs.toArray,[]⟩ w:=by
 obtain ⟨lv,li,lg,hat⟩:=hJ.at (i0:=0)
 simp only [Nat.zero_add] at hat
 have hroot:∀{r:Nat} {R:Root},(bS ps c).roots r=some R→∃j g i p,r=au j∧RD cx σ α F w ps vs is gs j R g i p:=by
  intro r R h
  obtain ⟨j,p,h1,h2⟩:=Xu (show gH (gD ps 0 c) r=some R from h)
  simp only [Nat.zero_add] at h1
  subst h1
  obtain ⟨cj,v,i,g,e1,e2,e3,e4,e5,e6⟩:=hat j p h2
  have hR:dU p j cj=some R:=by rw [←e6]; exact h
  exact ⟨j,g,i,p,rfl,C8 e4 e3 e2 h2 e1 hR⟩
 have aeH:∀{j:Nat} {R:Root},(bS ps c).roots (au j)=some R→∃g i p,RD cx σ α F w ps vs is gs j R g i p:=by
  intro j R h
  obtain ⟨j',g,i,p,h1,h2⟩:=hroot h
  have:=Sc h1
  subst this
  exact ⟨g,i,p,h2⟩
 have hmk:∀{j:Nat} {g:GA},gs[j]?=some g→(g.ow=true∨g.wb=true)→∃R i p,(bS ps c).roots (au j)=some R∧RD cx σ α F w ps vs is gs j R g i p:=by
  intro j g hg hh
  have hj:j<ps.length:=by have:=(List.getElem?_eq_some_iff.1 hg).1; omega
  obtain ⟨cj,v,i,g',e1,e2,e3,e4,e5,e6⟩:=hat j ps[j] (aps hj)
  rw [hg] at e3
  simp only [apd] at e3
  subst e3
  obtain ⟨R,hR⟩:=CZ j e4 hh
  have hr:(bS ps c).roots (au j)=some R:=by show gH (gD ps 0 c) (au j)=some R; rw [e6,hR]
  exact ⟨R,i,ps[j],hr,C8 e4 hg e2 (aps hj) e1 hR⟩
 have hgj:∀{j:Nat} {g:GA},gs[j]?=some g→∃p cj v i,ps[j]?=some p∧vs[j]?=some v∧is[j]?=some i∧XX cx σ α F a w p cj v i g:=by
  intro j g hg
  have hj:j<ps.length:=by have:=(List.getElem?_eq_some_iff.1 hg).1; omega
  obtain ⟨cj,v,i,g',e1,e2,e3,e4,_⟩:=hat j ps[j] (aps hj)
  rw [hg] at e3
  simp only [apd] at e3
  subst e3
  exact ⟨ps[j],cj,v,i,aps hj,e1,e2,e4⟩
 have LH:∀{j:Nat} {g:GA} {b:Nat},gs[j]?=some g→b∈gU g→(g.ow=true∧b∈F)∨(g.wb=true∧∃i r R q,is[j]?=some i∧i.wb=some (r,q)∧aR σ r R∧b∈blk α R r):=by
  intro j g b hg hb
  obtain ⟨p,cj,v,i,e1,e2,e3,e4⟩:=hgj hg
  rcases (oK H e4).1 b hb with h | ⟨h,r,R,q,h1⟩
  ·exact .inl h
  ·exact .inr ⟨h,i,r,R,q,e3,h1⟩
 have hmn:∀{j:Nat} {g:GA} {b:Nat},gs[j]?=some g→b∈gU g→mine cx w b:=by
  intro j g b hg hb
  rcases LH hg hb with ⟨_,h⟩ | ⟨_,i,r,R,q,_,_,h1,h2⟩
  ·exact H.fl b h
  ·exact (H.roots r R h1).mine b h2
 have hlt:∀{j:Nat} {g:GA} {b:Nat},gs[j]?=some g→b∈gU g→b<w.heap.size:=fun hg hb=>(hmn hg hb).1
 have Zn:∀{j:Nat} {g:GA} {b:Nat},gs[j]?=some g→g.ow=true→b∈gU g→b∈g.fo:=by
  intro j g b hg ho hb
  obtain ⟨p,cj,v,i,e1,e2,e3,e4⟩:=hgj hg
  unfold gU at hb
  cases hbase:g.base with
  | none=>rw [hbase] at hb; simpa using hb
  | some q=>
   exfalso
   obtain ⟨q1,q2⟩:=q
   obtain ⟨r,R,q,_,_,_,_,h1,_⟩:=(oK H e4).2.1 q1 q2 hbase
   have hw:g.wb=true:=(oK H e4).2.2.2.2 (by rw [h1]; simp)
   obtain ⟨_,h⟩:=e4
   cases p <;> first | (obtain ⟨g1,g2,_⟩:=h; rw [ho] at g1; simp at g1; done) | (obtain ⟨g1,g2,_⟩:=h; rw [hw] at g2; simp at g2; done) | exact h.elim
 have ahH:∀{j j':Nat} {g g':GA} {b:Nat},gs[j]?=some g→gs[j']?=some g'→j≠j'→b∈gU g→b∉gU g':=by
  intro j j' g g' b hg hg' hne hb hb'
  rcases LH hg hb with ⟨ho,h⟩ | ⟨hw,i,r,R,q,_,_,h1,h2⟩
  ·rcases LH hg' hb' with ⟨ho',h'⟩ | ⟨_,i',r',R',q',_,_,h1',h2'⟩
   ·refine flatMap_apart hA.own hg hg' hne b ?_ ?_
    ·rw [ho]; exact Zn hg ho hb
    ·rw [ho']; exact Zn hg' ho' hb'
   ·exact H.jB r' R' h1' b h2' h
  ·rcases LH hg' hb' with ⟨_,h'⟩ | ⟨hw',_⟩
   ·exact H.jB r R h1 b h2 h'
   ·exact hne (hA.one j j' g g' hg hg' hw hw')
 have hnd:∀{j:Nat} {R:Root} {g:GA} {i:cB} {p:cZ},RD cx σ α F w ps vs is gs j R g i p→(gU g).Nodup:=by
  intro j R g i p D
  unfold gU
  rcases D.kind with ⟨_,_,_,b,o,hb,hno⟩ | ⟨_,hb,_⟩
  ·rw [hb]; exact apL.2 ⟨hno,D.nd⟩
  ·rw [hb]; exact D.nd
 have PO:∀{j m:Nat} {i:cB} {p:cZ} {g:GA} {b:Nat},is[j]?=some i→ps[j]?=some p→Ml σ α F w i.ids b→gs[m]?=some g→b∈gU g→m∈Mr p∧(∃k iB,p=.val k iB∧∀i',is[m]?=some i'→∀t∈i'.bt,t∉k.tys):=by
  intro j m i p g b hi hp hb hg hbf
  rcases LH hg hbf with ⟨_,h⟩ | ⟨_,i',r,R,q,h0,h1,h2,h3⟩
  ·exact absurd h hb.2.1
  ·obtain ⟨n,hn⟩:=hb.2.2 r R h2 h3
   obtain ⟨g1,k,iB,g2,g3⟩:=hA.iB j p i r n hp hi hn m i' q h0 h1
   refine ⟨g1,k,iB,g2,fun i'' h=>?_⟩
   rw [h0] at h
   simp only [apd] at h
   subst h
   exact g3
 have aen:∀{j:Nat} {i:cB} {p:cZ} {b:Nat},is[j]?=some i→ps[j]?=some p→iT cx σ α F w i.ids b→(∀k iB,p=.val k iB→∃t∈k.tys,wH (hp w) b t)→(dI cx σ α F w ps c is gs).ext j b:=by
  intro j i p b hi hp hb ht
  refine ⟨⟨i,hi,hb⟩,fun m g q hg hbase e=>?_⟩
  have hbf:b∈gU g:=by unfold gU; rw [hbase,e]; simp
  obtain ⟨_,k,iB,h1,h2⟩:=PO hi hp hb.q hg hbf
  obtain ⟨p',cj,v,i',e1,e2,e3,e4⟩:=hgj hg
  obtain ⟨r,R,q',arr,e',lo,hi',f1,f2,f3,f4,f5,f6,f7,f8⟩:=(oK H e4).2.1 q.1 q.2 (by rw [hbase])
  rcases f8 with ⟨f8,f9,f10⟩ | f8
  ·obtain ⟨t,ht1,ht2⟩:=ht k iB h1
   have ht2:=H.UX (hmn hg hbf) ht2
   rw [e] at ht2
   unfold q8 at ht2
   rw [f4] at ht2
   simp only [apd] at ht2
   cases hbt:i'.bt with
   | nil=>exact f9 hbt
   | cons t0 l=>
    have hm:t0∈i'.bt:=by rw [hbt]; simp
    exact h2 i' e3 t0 hm (by rw [f8 t0 hm,ht2]; exact ht1)
  ·exact hb.2.2.1 (e▸f8)
 have aeF:∀{j:Nat} {i:cB} {p:cZ} {b:Nat} {T:List Tag},is[j]?=some i→ps[j]?=some p→(dI cx σ α F w ps c is gs).ext j b→(qp j,0)∈T→(∀n∈Mr p,(au n,0)∈T)→iT (dI cx σ α F w ps c is gs) (bS ps c) (jA gs) [] w T b:=by
  intro j i p b T hi hp hb ht hpr
  obtain ⟨⟨i',hi',hok⟩,hno⟩:=hb
  rw [hi] at hi'
  simp only [apd] at hi'
  subst hi'
  refine ⟨hok.1,by simp, ?_,fun r R hr hbr=>?_,fun _=>.inl ⟨j,0,ht,⟨i,hi,hok⟩,hno⟩⟩
  ·rintro ⟨m,pi,o,n,h1,h2⟩
   simp only [dI] at h1
   cases hgm:gs[m]? with
   | none=>rw [hgm] at h1; simp at h1
   | some g=>
    cases hpm:ps[m]? with
    | none=>rw [hgm,hpm] at h1; simp at h1
    | some pm=>
     rw [hgm,hpm] at h1
     simp only at h1
     cases hh:(g.ow || g.wb) with
     | false=>rw [hh] at h1; simp at h1
     | true=>
      rw [hh] at h1
      simp only [cond_true,apd] at h1
      subst h1
      simp only at h2
      cases hbase:g.base with
      | none=>rw [hbase] at h2; simp at h2
      | some q=>
       rw [hbase] at h2
       simp only [Option.map_some,apd,apo] at h2
       exact hno m g q hgm hbase h2.1.symm
  ·obtain ⟨m,g,im,pm,h1,D⟩:=hroot hr.1
   subst h1
   rw [D.blk] at hbr
   exact ⟨0,hpr m (PO hi hp hok.q D.hg hbr).1⟩
 have amo:∀{j:Nat} {i:cB} {p:cZ} {b:Nat},is[j]?=some i→ps[j]?=some p→(∀k iB,p≠.val k iB)→Ml σ α F w i.ids b→Ml (bS ps c) (jA gs) [] w [(qp j,0)] b:=by
  intro j i p b hi hp hnv hb
  refine ⟨hb.1,by simp,fun r R hr hbr=>?_⟩
  obtain ⟨m,g,im,pm,h1,D⟩:=hroot hr.1
  subst h1
  rw [D.blk] at hbr
  obtain ⟨_,k,iB,h2,_⟩:=PO hi hp hb D.hg hbr
  exact absurd h2 (hnv k iB)
 have hpar:∀{j:Nat} {pi:V7},(dI cx σ α F w ps c is gs).par j=some pi→∃g p,gs[j]?=some g∧ps[j]?=some p∧(g.ow=true∨g.wb=true)∧pi=⟨g.base.map fun q=>(q.1,q.2,xu p),gU g,g.wb⟩:=by
  intro j pi h1
  simp only [dI] at h1
  cases hgm:gs[j]? with
  | none=>rw [hgm] at h1; simp at h1
  | some g=>
   cases hpm:ps[j]? with
   | none=>rw [hgm,hpm] at h1; simp at h1
   | some pm=>
    rw [hgm,hpm] at h1
    simp only at h1
    cases hh:(g.ow || g.wb) with
    | false=>rw [hh] at h1; simp at h1
    | true=>
     rw [hh] at h1
     simp only [cond_true,apd] at h1
     exact ⟨g,pm,rfl,rfl,by simpa using hh,h1.symm⟩
 have acT:∀{j:Nat} {R:Root} {g:GA} {i:cB} {p:cZ},RD cx σ α F w ps vs is gs j R g i p→(dI cx σ α F w ps c is gs).par j=some ⟨g.base.map fun q=>(q.1,q.2,xu p),gU g,g.wb⟩:=by
  intro j R g i p D
  simp only [dI]
  rw [D.hg,D.hq]
  have:(g.ow || g.wb)=true:=by simpa using D.held
  simp only [this,cond_true]
 have hsame:∀{j:Nat} {R R':Root},(bS ps c).roots (au j)=some R→(bS ps c).roots (au j)=some R'→R'=R:=fun h1 h2=>by rw [h1] at h2; simpa using h2.symm
 have Y6:∀{j:Nat} {g:GA} {p:cZ} {b o:Nat},gs[j]?=some g→ps[j]?=some p→g.base=some (b,o)→∃arr e lo hi,hp w b=some (.cells arr e (lo,hi))∧(∀i,i<arr.size→¬(lo≤i∧i<hi))∧o+xu p≤arr.size∧Cells (hp w) b o g.cs:=by
  intro j g p b o hg hp hb
  obtain ⟨p',cj,v,i,e1,e2,e3,e4⟩:=hgj hg
  rw [hp] at e1
  simp only [apd] at e1
  subst e1
  obtain ⟨r,R,q',arr,e',lo,hi',f1,f2,f3,f4,f5,f6,f7,f8⟩:=(oK H e4).2.1 b o hb
  exact ⟨arr,e',lo,hi',f4,f5,f6,f7⟩
 have acW:∀s,jT (dI cx σ α F w ps c is gs) (bS ps c) (jA gs) [] w ((bS ps c).slots s) (vs.toArray.getD s undef)∧Ah (bS ps c) ((bS ps c).slots s):=by
  intro s
  rcases I1 ps 0 c s with h | ⟨j,p,cj0,hj,hps,hs0⟩
  ·have:(bS ps c).slots s=.one .undef:=h
   rw [this]
   exact ⟨trivial,trivial⟩
  ·simp only [Nat.zero_add] at hj
   subst hj
   obtain ⟨cj,v,i,g,e1,e2,e3,e4,e5,e6⟩:=hat s p hps
   have hsl:(bS ps c).slots s=.one (Ch p s cj):=e5
   have hvs:vs.toArray.getD s undef=v:=by
    rw [Array.getD_eq_getD_getElem?]
    simp [e1]
   rw [hsl,hvs]
   have hro:∀{k:K} {x:El k} {v:Value} {b o:Nat} {cs:List Value},(∀k iB,p≠.val k iB)→v=.pointer (some ⟨b,o,none⟩)→Cells (hp w) b o cs→Vw (hp w) (iT cx σ α F w i.ids) k x cs→Ml σ α F w i.ids b→Mr p=[]→
     MB (dI cx σ α F w ps c is gs) (bS ps c) (jA gs) [] w SENT k x [(qp s,0)] v:=by
    intro k x v b o cs hnv hv hC hV hq hpr
    refine ⟨⟨b,o,hv⟩,fun _=>⟨b,o,cs,hv,hC,fT (fun _ _=>rfl) (fun b hb=>?_) hV,amo e2 hps hnv hq, .inl ⟨rfl,fun t ht=>by simp only [apx] at ht; subst ht; exact iO s⟩⟩⟩
    exact aeF e2 hps (aen e2 hps hb (fun k iB h=>absurd h (hnv k iB))) (by simp) (by rw [hpr]; simp)
   have Zq:∀{R:Root},dU p s cj=some R→tF (bS ps c) (.ref (au s) 0)∧tF (bS ps c) (.ptr (au s) [] 0):=by
    intro R hR
    have hr:(bS ps c).roots (au s)=some R:=by show gH (gD ps 0 c) (au s)=some R; rw [e6,hR]
    exact ⟨⟨R,hr, .inr (apM _)⟩,⟨R,hr, .inr (apM _)⟩⟩
   have acL:fD (bS ps c) [(qp s,0)]:=fun t ht=>by simp only [apx] at ht; subst ht; exact .inl (iO s)
   have Dt:∀{R:Root},dU p s cj=some R→R.kind=.anon→bI (dI cx σ α F w ps c is gs) (bS ps c) (jA gs) [] w (.ref (au s) 0) v:=by
    intro R hR hk Q hQ _
    have hr:(bS ps c).roots (au s)=some R:=by show gH (gD ps 0 c) (au s)=some R; rw [e6,hR]
    have D:=C8 e4 e3 e2 hps e1 hR
    have hQR:=hsame hr hQ.1
    subst hQR
    rcases D.kind with ⟨hk',_⟩ | ⟨_,_,hV⟩
    ·rw [hk] at hk'; simp at hk'
    ·refine ⟨hk, ?_⟩
     rw [(iY D.hg).2.1, ←e4.1]
     exact hV
   cases p with
   | val k iB=>
    obtain ⟨h0,h1,h2,h3,h4,h5,h6,h7⟩:=e4
    refine ⟨fun hc=>⟨g.cs,h6, ?_⟩, ?_⟩
    ·cases hf:k.flat with
     | true=>exact iA hf h7
     | false=>
      rw [show (Ch (.val k iB) s cj)=.val k cj.1 ((qp s,0) :: iB.map fun j=>(au j,0)) by simp [Ch,hf]] at *
      refine fT (fun _ _=>rfl) (fun b hb=>?_) (KG k.tys (fun _ h=>h) h7)
      refine aeF e2 hps (aen e2 hps hb.1 (fun k' aoO h=>by simp only [cZ.val.injEq] at h; obtain ⟨rfl,_⟩:=h; exact hb.2)) (by simp) (fun n hn=>by exact apC _ (apO.2 ⟨n,hn,rfl⟩))
    ·intro t ht
     cases hf:k.flat with
     | true=>simp [Ch,hf] at ht
     | false=>
      simp only [Ch,hf,cond_false,apq,apO] at ht
      rcases ht with ht | ⟨m,hm,ht⟩
      ·subst ht; exact .inl (iO s)
      ·subst ht
       obtain ⟨i',q,f1,f2⟩:=hA.prw s _ hps m hm
       have hm':m<gs.length:=by have:=(List.getElem?_eq_some_iff.1 f1).1; omega
       obtain ⟨p',cj',v',i'',k1,k2,k3,k4⟩:=hgj (aps hm')
       rw [f1] at k3
       simp only [apd] at k3
       subst k3
       obtain ⟨R,_,_,hR,_⟩:=hmk (aps hm') (.inr ((oK H k4).2.2.2.2 (by rw [f2]; simp)))
       exact .inr ⟨R,hR, .inr (apM _)⟩
   | ro k=>
    obtain ⟨h0,h1,h2,h3,h4,h5,b,o,h6,h7,h8,h9⟩:=e4
    exact ⟨hro (by simp) h6 h7 h8 h9 rfl,acL⟩
   | rw k ow wt ht=>
    obtain ⟨R,hR⟩:=CZ s e4 (.inr e4.2.2.1)
    have hr:(bS ps c).roots (au s)=some R:=by show gH (gD ps 0 c) (au s)=some R; rw [e6,hR]
    have D:=C8 e4 e3 e2 hps e1 hR
    obtain ⟨h0,h1,h2,r,R0,q,b,o,h3,h4,h5,h6,h7,_⟩:=e4
    refine ⟨⟨⟨b,o,h6⟩,fun Q hQ _ _ _ _=>⟨trivial,g.cs,b,o, ?_,h6⟩⟩,(Zq hR).2⟩
    have hQR:=hsame hr hQ
    subst hQR
    simp only [bF]
    rw [D.wh,h7,(iY D.hg).2.1]
   | jl k ow wt=>
    obtain ⟨R,hR⟩:=CZ s e4 (.inr e4.2.2.1)
    exact ⟨Dt hR (by simp only [dU,apd] at hR; subst hR; rfl),(Zq hR).1⟩
   | own k ow=>
    obtain ⟨R,hR⟩:=CZ s e4 (.inl e4.2.1)
    exact ⟨Dt hR (by simp only [dU,apd] at hR; subst hR; rfl),(Zq hR).1⟩
   | fn f ks=>
    obtain ⟨h0,h1,h2,h3,h4,h5,us,h6,h7⟩:=e4
    have ahD:∀(ks:List K) (c0:Cont ks) (us:List Value),XX.U4 cx σ α F w ks c0 us i.ids→kK (dI cx σ α F w ps c is gs) (bS ps c) (jA gs) [] w (eT.Aj s ks c0) us:=by
     intro ks
     induction ks with
     | nil=>intro c0 us h; cases us with
      | nil=>exact trivial
      | cons _ _=>exact h.elim
     | cons k ks ih=>intro c0 us h; cases us with
      | nil=>exact h.elim
      | cons u us=>
       obtain ⟨⟨b,o,cs,g1,g2,g3,g4⟩,g5⟩:=h
       exact ⟨hro (by simp) g1 g2 g3 g4 rfl,ih c0.2 us g5⟩
    have aek:∀(ks:List K) (c0:Cont ks),∀q∈eT.Aj s ks c0,fD (bS ps c) q.2.2:=by
     intro ks
     induction ks with
     | nil=>intro c0 q hq; simp [eT.Aj] at hq
     | cons k ks ih=>
      intro c0 q hq
      rcases apq.1 hq with h | h
      ·subst h; exact acL
      ·exact ih c0.2 q h
    exact ⟨⟨us,h6,ahD ks cj us h7⟩,aek ks cj⟩
   | into j q=>
    obtain ⟨h0,h1,h2,h3,h4,h5,b,h6⟩:=e4
    exact ⟨⟨b,h6⟩,trivial⟩
 constructor
 ·rfl
 ·exact apM _
 ·intro j pi b o n hj hb
  obtain ⟨g,p,hg,hp,hh,rfl⟩:=hpar hj
  obtain ⟨R,i,p',hr,D⟩:=hmk hg hh
  have:p'=p:=by have:=D.hq; rw [hp] at this; simpa using this.symm
  subst this
  simp only at hb
  cases hbase:g.base with
  | none=>rw [hbase] at hb; simp at hb
  | some q=>
   rw [hbase] at hb
   simp only [Option.map_some,apd,apo] at hb
   obtain ⟨rfl,rfl,rfl⟩:=hb
   rcases D.kind with ⟨hk,hs,_⟩ | ⟨_,hn,_⟩
   ·refine ⟨R,⟨hr,D.live⟩,hk, ?_,hs.symm⟩
    rw [(iY hg).1,hbase]
    rfl
   ·rw [hbase] at hn; simp at hn
 ·intro r R hr hk
  obtain ⟨j,g,i,p,rfl,D⟩:=hroot hr.1
  rcases D.kind with ⟨_,hs,_,b,o,hb,_⟩ | ⟨hk',_⟩
  ·refine ⟨j,_,xu p,rfl,acT D, ?_⟩
   rw [(iY D.hg).1,hb]
   rfl
  ·rw [hk] at hk'; simp at hk'
 ·exact fun s=>(acW s).1
 ·exact fun s=>(acW s).2
 ·intro r R hr
  obtain ⟨j,g,i,p,rfl,D⟩:=hroot hr.1
  obtain ⟨a1,a2,a3⟩:=iY D.hg
  refine ⟨fun _=>?_,by rw [a2]; exact dn D.ow,fun b o hb=>?_,by rw [D.blk]; exact hnd D,fun b hb=>?_⟩
  ·rw [a2,a3]
   have xC:=D.tags
   cases hall:(R.k.tys.all fun t=>ay t R.own) with
   | true=>exact gP (dm (kI hall)) D.ow
   | false=>
    rw [hall] at xC
    refine bC (fun _ _=>rfl) (fun b hb=>?_) (fun _ _=>rfl) D.ow
    exact aeF D.hi D.hq (aen D.hi D.hq hb (fun k iB h=>absurd h (D.amI k iB))) (by rw [xC]; simp) (by rw [D.iB]; simp)
  ·rw [D.wh] at hb
   obtain ⟨arr,e,lo,hi,m1,m2,m3,m4⟩:=Y6 D.hg D.hq hb
   rw [a2]
   rcases D.kind with ⟨hk,hs,_⟩ | ⟨_,hn,_⟩
   ·exact ⟨m4,arr,e,lo,hi,m1,m2,by rw [←hs]; exact m3,fun t ht=>by rw [hk] at ht; simp at ht⟩
   ·rw [hb] at hn; simp at hn
  ·rw [D.blk] at hb
   exact ⟨hlt D.hg hb, .inr ⟨j,_,acT D,hb⟩⟩
 ·intro r R hr
  obtain ⟨j,g,i,p,rfl,D⟩:=hroot hr
  have xC:=D.tags
  refine ⟨fun t ht=>?_,pg j,fun n hn=>?_⟩
  ·rw [xC] at ht
   cases hall:(R.k.tys.all fun t=>ay t R.own) with
   | true=>rw [hall] at ht; simp at ht
   | false=>rw [hall] at ht; simp only [cond_false,apx] at ht; subst ht; exact .inl (iO j)
  ·rw [xC] at hn
   cases hall:(R.k.tys.all fun t=>ay t R.own) with
   | true=>rw [hall] at hn; simp at hn
   | false=>rw [hall] at hn; simp only [cond_false,apx,apo] at hn; unfold au qp at hn; omega
 ·intro r R r' R' hr hr' hne b hb
  obtain ⟨j,g,i,p,rfl,D⟩:=hroot hr.1
  obtain ⟨j',g',i',p',rfl,D'⟩:=hroot hr'.1
  rw [D.blk] at hb
  rw [D'.blk]
  exact ahH D.hg D'.hg (fun e=>hne (by rw [e])) hb
 ·intro b hb; simp at hb
 ·exact List.nodup_nil
 ·intro r R _ b _ h; simp at h
 ·refine ⟨rfl,rfl,rfl,apu _,fun _ _ _=>rfl,fun j pi b o n hj hb=>?_⟩
  obtain ⟨g,p,hg,hp,hh,rfl⟩:=hpar hj
  simp only at hb
  cases hbase:g.base with
  | none=>rw [hbase] at hb; simp at hb
  | some q=>
   rw [hbase] at hb
   simp only [Option.map_some,apd,apo] at hb
   obtain ⟨rfl,rfl,rfl⟩:=hb
   obtain ⟨arr,e,lo,hi,m1,_⟩:=Y6 hg hp (b:=q.1) (o:=q.2) (by rw [hbase])
   exact gT.of_same _ _ m1 rfl
 ·intro j pi hj hk
  obtain ⟨g,p,hg,hp,hh,rfl⟩:=hpar hj
  obtain ⟨R,i,p',hr,D⟩:=hmk hg hh
  refine ⟨R,hr,fun _ b hb _=>.inr ⟨rfl,by simp,fun q Q hq hbq=>?_⟩⟩
  obtain ⟨j',g',i',p'',rfl,D'⟩:=hroot hq.1
  rw [D'.blk] at hbq
  by_cases e:j'=j
  ·rw [e]
  ·exact absurd hb (ahH D'.hg hg e hbq)
 ·refine ⟨fun j pi hj b hb=>?_,fun b hb=>⟨?_,fun j pi hj hbl=>?_⟩,fun b hb=>H.fixed hb⟩
  ·obtain ⟨g,p,hg,hp,hh,rfl⟩:=hpar hj
   exact hlt hg hb
  ·exact Nat.lt_of_lt_of_le (H.qA.2.1 b hb).1 H.frame.2.2.2.1
  ·obtain ⟨g,p,hg,hp,hh,rfl⟩:=hpar hj
   exact H.VG (hmn hg hbl) hb
 ·intro j q ts v hv
  obtain ⟨g,R0,c0,b,o,h1,h2,h3,h4,h5,h6,h7,h8⟩:=hv
  refine ⟨⟨b,o,h8⟩,R0,h3,fun _=>⟨⟨b,o,h8⟩,fun Q hQ _ _ _ _=>?_⟩⟩
  have hQR:=hsame (show (bS ps c).roots (au j)=some R0 from h3) hQ
  subst hQR
  obtain ⟨g',i',p',D⟩:=aeH hQ
  have:g'=g:=by have:=D.hg; rw [h1] at this; simpa using this.symm
  subst this
  refine ⟨h6,c0,b,o, ?_,h8⟩
  rw [D.wh,(iY D.hg).2.1]
  exact h7
 ·intro j v hv
  obtain ⟨g,h1,h2,h3,h4⟩:=hv
  obtain ⟨R,i,p,hr,D⟩:=hmk h1 (.inr h4)
  refine ⟨⟨R,hr⟩,fun Q hQ _=>?_⟩
  have hQR:=hsame hr hQ.1
  subst hQR
  rcases D.kind with ⟨_,_,_,b,o,hb,_⟩ | ⟨hk,_,hV⟩
  ·rw [h3] at hb; simp at hb
  ·refine ⟨hk, ?_⟩
   rw [(iY D.hg).2.1, ←h2]
   exact hV
end
end
section
open Go
variable [Fr]
def KD (cx:Cx) (σ:St) (α:dK) (F:List Nat) (w:World):(rs:List jy)→Cont (ig rs)→List Value→List (List Nat)→Prop
 | [],_,[],[]=>True
 | .val k exts iB :: rs,c,v :: vs,fo :: bz=>(fo=[]∧∃T cs,(k.flat=true∨qN exts iB T=true)∧VC k v cs∧Vw (hp w) (iT cx σ α F w T) k c.1 cs)∧KD cx σ α F w rs c.2 vs bz
 | .own k ow exts iB :: rs,c,v :: vs,fo :: bz=>(∃T cs own,((k.tys.all fun t=>ay t ow)=true∨qN exts iB T=true)∧(∀t∈k.tys,ay t ow=true→ay t own=true)∧VC k v cs∧Ow (hp w) own (iT cx σ α F w T) k c.1 cs fo)∧KD cx σ α F w rs c.2 vs bz
 | .ptr t k ow exts :: rs,c,v :: vs,fo :: bz=>(∃b o T cs own dJ,v=.pointer (some ⟨b,o,none⟩)∧fo=b :: dJ∧((k.tys.all fun t=>ay t ow)=true∨qN exts [] T=true)∧(∀t∈k.tys,ay t ow=true→ay t own=true)∧
   (Cells (hp w) b o cs∧∃arr e lo hi,hp w b=some (.cells arr e (lo,hi))∧(∀i,i<arr.size→¬(lo≤i∧i<hi))∧o+k.size≤arr.size∧e=t)∧Ow (hp w) own (iT cx σ α F w T) k c.1 cs dJ)∧KD cx σ α F w rs c.2 vs bz
 | .into j p :: rs,c,v :: vs,fo :: bz=>(fo=[]∧p=[]∧∃b n cp,v=.slice b (show Int from c.1).toNat cp∧(show Int from c.1).toNat≤n∧bI cx σ α F w (.ref (au j) 0) (.slice b n cp))∧KD cx σ α F w rs c.2 vs bz
 | _,_,_,_=>False
def U8 (σ:St) (k:K) (x:El k) (ow wt ht:List TypeId) (j:Nat):Prop:=
 ∃R,σ.roots (au j)=some R∧bq σ R∧(∃e:R.k=k,x=e▸R.x)∧pF k R.own ow=true∧DJ R (some (wt,ht))=true∧((k.tys.all fun t=>ay t ow)=true∨qN [j] [] R.tags=true)
def Fh (σ:St):(ps:List cZ)→Nat→Cont (jL ps)→Prop
 | [],_,_=>True
 | .rw k ow wt ht :: ps,j,c=>U8 σ k c.1 ow wt ht j∧Fh σ ps (j+1) c.2
 | .jl k ow wt :: ps,j,c=>U8 σ k c.1 ow wt k.tys j∧Fh σ ps (j+1) c.2
 | .val _ _ :: ps,j,c=>Fh σ ps (j+1) c
 | .ro _ :: ps,j,c=>Fh σ ps (j+1) c
 | .own _ _ :: ps,j,c=>Fh σ ps (j+1) c
 | .fn _ _ :: ps,j,c=>Fh σ ps (j+1) c
 | .into _ _ :: ps,j,c=>Fh σ ps (j+1) c
def aaF:List Value→Value
 | [v]=>v
 | vs=>.tuple vs.toArray
def Post (cx:Cx) (ps:List cZ) (rs:List jy) (out:Cont (ig rs++jL ps)) (v:Value) (w':World):Prop:=
 ∃σ α F a vs bz,Rel cx σ α F a w'∧v=aaF vs∧KD cx σ α F w' rs (Cont.fst _ _ out) vs bz∧bz.flatten.Nodup∧(∀b∈bz.flatten,b∈F)∧Fh σ ps 0 (Cont.snd _ _ out)
def Gq (P:Program) (f:FuncId) (args:Array Value) (w:World) (R:Value→World→Prop):Prop:=
 ((callFunc f args).run P w=.ok (.enter f args) w∧Calls P f args w fun e w'=>∃v,e=.returned v∧R v w')∨∃v w',(callFunc f args).run P w=.ok (.value v) w'∧R v w'
def yG (ps:List cZ) (j:Nat) (k:K):Prop:=∃ow wt ht,ps[j]?=some (.rw k ow wt ht)∨ps[j]?=some (.jl k ow wt)
structure He (cx:Cx) (ps:List cZ):Prop where
 par:∀j pi,cx.par j=some pi→pi.kp=true→∃k,yG ps j k
 ptr:∀j p ts v,cx.ptrs j p ts v→∃k,yG ps j k∧ts=eD p k
 ref:∀j v,cx.refs j v→∃k,yG ps j k
def ak (P:Program) (n:Nat) (E:Entry):Prop:=
 ∀(c:Cont (kin E.ps)) (out:Cont (ig E.rs++jL E.ps)),E.F n c=some out→∀(cx:Cx) (α:dK) (args:Array Value) (w:World),cx.nt=0→cx.w0=w→args.size=E.ps.length→He cx E.ps→
  Rel cx (bS E.ps c) α [] ⟨args,[]⟩ w→Gq P E.f args w (Post cx E.ps E.rs out)
section
variable {P:Program} {T:ji} {cx:Cx} {σ:St} {α:dK} {F:List Nat} {a:Act} {w w':World} {ps:List cZ} {c:Cont (kin ps)} {vs:List Value} {is:List cB} {gs:List GA}
structure DV (σ:St) (α:dK) (is:List cB) (gs:List GA) (EJ:St) (AX:dK) (Ff:List Nat) (σ':St) (α':dK) (F':List Nat):Prop where
 blk:∀q Q b,aR σ' q Q→b∈blk α' Q q→b∈Ff∨(∃Q0,aR σ q Q0∧b∈Ow.blk α Q0 q∧∀(m:Nat) (g:GA),gs[m]?=some g→b∉g.fo)∨
  ∃(m:Nat) (i:cB) (R:Root) (u:List Stp×List TypeId×List TypeId),is[m]?=some i∧i.wb=some (q,u)∧aR EJ (au m) R∧b∈Ow.blk AX R (au m)
 F:∀b∈F',b∈Ff
theorem tH (H:Rel cx σ α F a w) (hJ:GJs cx σ α F a w ps c vs is gs) {j:Nat} {pi:V7} (h:(dI cx σ α F w ps c is gs).par j=some pi):∃g p cj v i,gs[j]?=some g∧ps[j]?=some p∧is[j]?=some i∧XX cx σ α F a w p cj v i g∧(g.ow=true∨g.wb=true)∧pi=⟨g.base.map fun q=>(q.1,q.2,xu p),gU g,g.wb⟩:=by
 obtain ⟨lv,li,lg,hat⟩:=hJ.at (i0:=0)
 simp only [dI] at h
 cases hgm:gs[j]? with
 | none=>rw [hgm] at h; simp at h
 | some g=>
  cases hpm:ps[j]? with
  | none=>rw [hgm,hpm] at h; simp at h
  | some pm=>
   rw [hgm,hpm] at h
   simp only at h
   cases hh:(g.ow || g.wb) with
   | false=>rw [hh] at h; simp at h
   | true=>
    rw [hh] at h
    simp only [cond_true,apd] at h
    obtain ⟨cj,v,i,g',e1,e2,e3,e4,_⟩:=hat j pm hpm
    rw [hgm] at e3
    simp only [apd] at e3
    subst e3
    exact ⟨g,pm,cj,v,i,rfl,rfl,e2,e4,by simpa using hh,h.symm⟩
theorem Nt (H:Rel cx σ α F a w) (hJ:GJs cx σ α F a w ps c vs is gs):He (dI cx σ α F w ps c is gs) ps:=by
 obtain ⟨lv,li,lg,hat⟩:=hJ.at (i0:=0)
 simp only [Nat.zero_add] at hat
 have Vo:∀{j:Nat} {g:GA},gs[j]?=some g→g.wb=true→∃p cj,ps[j]?=some p∧gH (gD ps 0 c) (au j)=dU p j cj∧((∃k ow wt ht,p=.rw k ow wt ht)∨∃k ow wt,p=.jl k ow wt):=by
  intro j g hg hw
  have hj:j<ps.length:=by have:=(List.getElem?_eq_some_iff.1 hg).1; omega
  obtain ⟨cj,v,i,g',e1,e2,e3,e4,e5,e6⟩:=hat j ps[j] (aps hj)
  rw [hg] at e3
  simp only [apd] at e3
  subst e3
  refine ⟨ps[j],cj,aps hj,e6, ?_⟩
  obtain ⟨k,x,ow,wt,ht,r,R,q,wh,h,_⟩:=aaI e4 hw
  rcases h with ⟨h,_⟩ | ⟨h,_⟩
  ·exact .inl ⟨k,ow,wt,ht,h⟩
  ·exact .inr ⟨k,ow,wt,h⟩
 have hk:∀{j:Nat} {g:GA},gs[j]?=some g→g.wb=true→∃k,yG ps j k∧∃R0,gH (gD ps 0 c) (au j)=some R0∧R0.k=k:=by
  intro j g hg hw
  obtain ⟨p,cj,h1,h2,h3⟩:=Vo hg hw
  rcases h3 with ⟨k,ow,wt,ht,rfl⟩ | ⟨k,ow,wt,rfl⟩
  ·exact ⟨k,⟨ow,wt,ht, .inl h1⟩,_,h2,rfl⟩
  ·exact ⟨k,⟨ow,wt,[], .inr h1⟩,_,h2,rfl⟩
 refine ⟨fun j pi hj hkp=>?_,fun j q ts v hv=>?_,fun j v hv=>?_⟩
 ·obtain ⟨g,p,cj,v,i,e1,e2,e3,e4,e5,rfl⟩:=tH H hJ hj
  obtain ⟨k,h,_⟩:=hk e1 hkp
  exact ⟨k,h⟩
 ·obtain ⟨g,R0,c0,b,o,h1,h2,h3,h4,_⟩:=hv
  obtain ⟨k,h,R1,h5,h6⟩:=hk h1 h2
  rw [h3] at h5
  simp only [apd] at h5
  subst h5
  exact ⟨k,h,by rw [h4,h6]⟩
 ·obtain ⟨g,h1,_,_,h2⟩:=hv
  obtain ⟨k,h,_⟩:=hk h1 h2
  exact ⟨k,h⟩
theorem P8 (H:Rel cx σ α F a w) (hJ:GJs cx σ α F a w ps c vs is gs) {EJ:St} {AX:dK} {Ff:List Nat} {af:Act} (Hf:Rel (dI cx σ α F w ps c is gs) EJ AX Ff af w') {σ':St} {α':dK} {F':List Nat}
  (B:DV σ α is gs EJ AX Ff σ' α' F') {Tg U:List Tag} (hU1:∀j n,(qp j,n)∈Tg→∀i,is[j]?=some i→∀t∈i.ids,∃n',(t.1,n')∈U) (hU2:∀m n,(au m,n)∈Tg→∀i q,is[m]?=some i→i.wb=some q→∃n',(q.1,n')∈U)
  {b:Nat} (hb:iT (dI cx σ α F w ps c is gs) EJ AX Ff w' Tg b):iT cx σ' α' F' w' U b:=by
 obtain ⟨hb1,hb2,hb3,hb4,hb5⟩:=hb
 have hcl:w.heap.size≤b∨(b<w.heap.size∧∃j n i,(qp j,n)∈Tg∧is[j]?=some i∧iT cx σ α F w i.ids b)∨(b<w.heap.size∧∃(j:Nat) (g:GA),gs[j]?=some g∧b∈g.fo∧((g.ow=true∧b∈F)∨(g.wb=true∧∃r R,aR σ r R∧b∈α.fo r))):=by
  by_cases hlt:b<w.heap.size
  ·refine .inr ?_
   rcases hb5 hlt with ⟨j,n,h1,⟨i,h2,h3⟩,_⟩ | ⟨j,pi,h1,h2⟩
   ·exact .inl ⟨hlt,j,n,i,h1,h2,h3⟩
   ·refine .inr ⟨hlt, ?_⟩
    obtain ⟨g,p,cj,v,i,e1,e2,e3,e4,e5,rfl⟩:=tH H hJ h1
    simp only at h2
    have hfo:b∈g.fo:=by
     unfold gU at h2
     cases hbase:g.base with
     | none=>rw [hbase] at h2; simpa using h2
     | some q=>
      rw [hbase] at h2
      simp only [List.cons_append,List.nil_append,apq] at h2
      rcases h2 with h2 | h2
      ·exact absurd ⟨j,_,q.2,xu p,h1,by rw [hbase,h2]; rfl⟩ hb3
      ·exact h2
    refine ⟨j,g,e1,hfo, ?_⟩
    rcases (oK H e4).1 b (by unfold gU; exact apf _ hfo) with h | ⟨h,_⟩
    ·exact .inl h
    ·obtain ⟨r,R,q,_,f2,f3⟩:=(oK H e4).2.2.1 b hfo h
     exact .inr ⟨h,r,R,f2,f3⟩
  ·exact .inl (Nat.le_of_not_lt hlt)
 refine ⟨hb1,fun h=>hb2 (B.F b h), ?_, ?_, ?_⟩
 ·intro hbase
  have hlt:b<w.heap.size:=by
   obtain ⟨j,pi,o,n,h1,h2⟩:=hbase
   obtain ⟨Q,hQ,hk,hl,_⟩:=H.mQ j pi b o n h1 h2
   exact ((H.roots _ _ hQ).mine b (by simp [Ow.blk,eB,hk,hl])).1
  rcases hcl with h | ⟨_,j,n,i,_,_,h⟩ | ⟨_,j,g,h1,h2,h⟩
  ·omega
  ·exact h.2.2.1 hbase
  ·rcases h with ⟨_,h⟩ | ⟨_,r,R,h3,h4⟩
   ·exact sU H h hbase
   ·exact o9 H h3 h4 hbase
 ·intro q Q hq hbq
  rcases B.blk q Q b hq hbq with h | ⟨Q0,h1,h2,h3⟩ | ⟨m,i,R,u,h1,h2,h3,h4⟩
  ·exact absurd h hb2
  ·have hlt:=((H.roots q Q0 h1).mine b h2).1
   rcases hcl with h | ⟨_,j,n,i,g1,g2,g3⟩ | ⟨_,j,g,g1,g2,_⟩
   ·omega
   ·obtain ⟨n',hn'⟩:=g3.2.2.2.1 q Q0 h1 h2
    exact hU1 j n g1 i g2 _ hn'
   ·exact absurd g2 (h3 j g g1)
  ·obtain ⟨n,hn⟩:=hb4 (au m) R h3 h4
   exact hU2 m n hn i _ h1 h2
 ·intro h0
  have hlt:b<w.heap.size:=Nat.lt_of_lt_of_le h0 H.frame.2.2.2.1
  have jJ:Ow.mine cx w b→(∃j n,(qp j,n)∈U∧cx.ext j b)∨∃j pi,cx.par j=some pi∧b∈pi.bl:=fun hm=>by
   rcases hm.2 with h | ⟨j,pi,h1,h2⟩
   ·omega
   ·exact .inr ⟨j,pi,h1,h2⟩
  rcases hcl with h | ⟨_,j,n,i,g1,g2,g3⟩ | ⟨_,j,g,g1,g2,g3⟩
  ·omega
  ·rcases g3.2.2.2.2 h0 with ⟨j',n',f1,f2⟩ | h
   ·obtain ⟨n2,hn2⟩:=hU1 j n g1 i g2 _ f1
    exact .inl ⟨j',n2,hn2,f2⟩
   ·exact .inr h
  ·rcases g3 with ⟨_,h⟩ | ⟨_,r,R,h3,h4⟩
   ·exact jJ (H.fl b h)
   ·exact jJ ((H.roots r R h3).mine b (apf _ h4))
end
end
section
open Go
variable [Fr]
def wm (σ:St):(ps:List cZ)→List cB→Cont (jL ps)→List Wr→Prop
 | [],[],_,ws=>ws=[]
 | .rw k _ _ _ :: ps,i :: is,c,ws=>∃r p wt ht R z ws',i.wb=some (r,p,wt,ht)∧σ.roots r=some R∧eF p R.k R.x ⟨k,c.1⟩=some z∧ws=.r r (some { R with k:=z.1,x:=z.2,w:=(eU R p :: wt)++R.w,h:=ht++R.h }) :: ws'∧wm σ ps is c.2 ws'
 | .jl k _ _ :: ps,i :: is,c,ws=>∃r p wt ht R z ws',i.wb=some (r,p,wt,ht)∧σ.roots r=some R∧eF p R.k R.x ⟨k,c.1⟩=some z∧ws=.r r (some { R with k:=z.1,x:=z.2,w:=(SENT :: (k.tys++wt))++R.w,h:=ht++R.h }) :: ws'∧wm σ ps is c.2 ws'
 | .val _ _ :: ps,_ :: is,c,ws=>wm σ ps is c ws
 | .ro _ :: ps,_ :: is,c,ws=>wm σ ps is c ws
 | .own _ _ :: ps,_ :: is,c,ws=>wm σ ps is c ws
 | .fn _ _ :: ps,_ :: is,c,ws=>wm σ ps is c ws
 | .into _ _ :: ps,_ :: is,c,ws=>wm σ ps is c ws
 | _,_,_,_=>False
theorem Wn {A:Type} {z:A} {σ:St}:∀{ps:List cZ} {is:List cB} {c:Cont (jL ps)} {k:List Wr→Prog A},(KO ps is c k).ends σ z→∃ws,wm σ ps is c ws∧(k ws).ends σ z:=by
 intro ps
 induction ps with
 | nil=>
  intro is c k h
  cases is with
  | nil=>exact ⟨[],rfl,h⟩
  | cons _ _=>exact h.elim
 | cons p ps ih=>
  intro is c k h
  cases is with
  | nil=>cases p <;> exact h.elim
  | cons i is=>
   cases p with
   | rw kk ow wt0 ht0=>
    obtain ⟨ids,wb,ws0,bt⟩:=i
    cases wb with
    | none=>exact h.elim
    | some q=>
     obtain ⟨r,p,wt,ht⟩:=q
     simp only [KO,Prog.ends] at h
     cases hr:σ.roots r with
     | none=>rw [hr] at h; exact h.elim
     | some R=>
      rw [hr] at h
      simp only at h
      cases hz:eF p R.k R.x ⟨kk,c.1⟩ with
      | none=>rw [hz] at h; exact h.elim
      | some z=>
       rw [hz] at h
       obtain ⟨ws,g1,g2⟩:=ih h
       exact ⟨_,⟨r,p,wt,ht,R,z,ws,rfl,hr,hz,rfl,g1⟩,g2⟩
   | jl kk ow wt0=>
    obtain ⟨ids,wb,ws0,bt⟩:=i
    cases wb with
    | none=>exact h.elim
    | some q=>
     obtain ⟨r,p,wt,ht⟩:=q
     simp only [KO,Prog.ends] at h
     cases hr:σ.roots r with
     | none=>rw [hr] at h; exact h.elim
     | some R=>
      rw [hr] at h
      simp only at h
      cases hz:eF p R.k R.x ⟨kk,c.1⟩ with
      | none=>rw [hz] at h; exact h.elim
      | some z=>
       rw [hz] at h
       obtain ⟨ws,g1,g2⟩:=ih h
       exact ⟨_,⟨r,p,wt,ht,R,z,ws,rfl,hr,hz,rfl,g1⟩,g2⟩
   | val _ _=>exact ih h
   | ro _=>exact ih h
   | own _ _=>exact ih h
   | fn _ _=>exact ih h
   | into _ _=>exact ih h
theorem NK {σ:St}:∀{ps:List cZ} {is:List cB} {c:Cont (jL ps)} {ws:List Wr},(∀i∈is,i.wb=none)→wm σ ps is c ws→ws=[]:=by
 intro ps
 induction ps with
 | nil=>
  intro is c ws _ h
  cases is with
  | nil=>exact h
  | cons _ _=>exact h.elim
 | cons p ps ih=>
  intro is c ws hn h
  cases is with
  | nil=>cases p <;> exact h.elim
  | cons i is=>
   have hn':∀i∈is,i.wb=none:=fun i hi=>hn i (by simp [hi])
   have h0:=hn i (by simp)
   cases p with
   | rw kk ow wt0 ht0=>obtain ⟨r,p,wt,ht,R,z,ws',h1,_⟩:=h; rw [h0] at h1; simp at h1
   | jl kk ow wt0=>obtain ⟨r,p,wt,ht,R,z,ws',h1,_⟩:=h; rw [h0] at h1; simp at h1
   | val _ _=>exact ih hn' h
   | ro _=>exact ih hn' h
   | own _ _=>exact ih hn' h
   | fn _ _=>exact ih hn' h
   | into _ _=>exact ih hn' h
theorem wU {i:cB} {is:List cB} (h:FU (i :: is)=true):(i.wb=none∧FU is=true)∨(i.wb≠none∧∀i'∈is,i'.wb=none):=by
 unfold FU at h
 cases hw:i.wb with
 | none=>rw [hw] at h; exact .inl ⟨rfl,h⟩
 | some q=>
  rw [hw] at h
  refine .inr ⟨by simp,fun i' hi=>?_⟩
  have:=apt.1 h i' hi
  cases hw':i'.wb with
  | none=>rfl
  | some _=>rw [hw'] at this; simp at this
theorem Ty {σ EJ:St}:∀{ps:List cZ} {is:List cB} {c:Cont (jL ps)} {ws:List Wr} {j0:Nat},FU is=true→(∀(m:Nat) (p:cZ) (i:cB),ps[m]?=some p→is[m]?=some i→(∀k ow wt ht,p≠.rw k ow wt ht)→(∀k ow wt,p≠.jl k ow wt)→i.wb=none)→
  wm σ ps is c ws→Fh EJ ps j0 c→(ws=[]∧∀i∈is,i.wb=none)∨
  ∃(j:Nat) (i:cB) (k:K) (x:El k) (ow wt ht:List TypeId) (r:Nat) (p:List Stp) (R:Root) (z:Dat) (sK ht':List TypeId),is[j]?=some i∧i.wb=some (r,p,sK,ht')∧σ.roots r=some R∧eF p R.k R.x ⟨k,x⟩=some z∧U8 EJ k x ow wt ht (j0+j)∧(∀(m:Nat) (i':cB),m≠j→is[m]?=some i'→i'.wb=none)∧
   ((ps[j]?=some (.rw k ow wt ht)∧ws=[.r r (some { R with k:=z.1,x:=z.2,w:=(eU R p :: sK)++R.w,h:=ht'++R.h })])∨(ps[j]?=some (.jl k ow wt)∧ht=k.tys∧ws=[.r r (some { R with k:=z.1,x:=z.2,w:=(SENT :: (k.tys++sK))++R.w,h:=ht'++R.h })])):=by
 intro ps
 induction ps with
 | nil=>
  intro is c ws j0 _ _ hB _
  cases is with
  | nil=>exact .inl ⟨hB,by simp⟩
  | cons _ _=>exact hB.elim
 | cons p ps ih=>
  intro is c ws j0 h1 hal hB hO
  cases is with
  | nil=>cases p <;> exact hB.elim
  | cons i is=>
   have alP:∀(m:Nat) (p:cZ) (i:cB),ps[m]?=some p→is[m]?=some i→(∀k ow wt ht,p≠.rw k ow wt ht)→(∀k ow wt,p≠.jl k ow wt)→i.wb=none:=fun m p i hp hi=>hal (m+1) p i (by simpa using hp) (by simpa using hi)
   have hrest:∀{c':Cont (jL ps)} {ws':List Wr},i.wb=none→wm σ ps is c' ws'→Fh EJ ps (j0+1) c'→(ws'=[]∧∀i'∈i :: is,i'.wb=none)∨
     ∃(j:Nat) (i':cB) (k:K) (x:El k) (ow wt ht:List TypeId) (r:Nat) (q:List Stp) (R:Root) (z:Dat) (sK ht':List TypeId),(i :: is)[j]?=some i'∧i'.wb=some (r,q,sK,ht')∧σ.roots r=some R∧eF q R.k R.x ⟨k,x⟩=some z∧U8 EJ k x ow wt ht (j0+j)∧(∀(m:Nat) (i'':cB),m≠j→(i :: is)[m]?=some i''→i''.wb=none)∧
      (((p :: ps)[j]?=some (.rw k ow wt ht)∧ws'=[.r r (some { R with k:=z.1,x:=z.2,w:=(eU R q :: sK)++R.w,h:=ht'++R.h })])∨((p :: ps)[j]?=some (.jl k ow wt)∧ht=k.tys∧ws'=[.r r (some { R with k:=z.1,x:=z.2,w:=(SENT :: (k.tys++sK))++R.w,h:=ht'++R.h })])):=by
    intro c' ws' hw hB hO
    have ho:FU is=true:=by
     rcases wU h1 with ⟨_,h⟩ | ⟨h,_⟩
     ·exact h
     ·exact absurd hw h
    rcases ih ho alP hB hO with ⟨e,h⟩ | ⟨j,i',k,x,ow,wt,ht,r,q,R,z,sK,ht',e1,e2,e3,e4,e5,e6,e7⟩
    ·refine .inl ⟨e,fun i' hi=>?_⟩
     rcases apq.1 hi with h' | h'
     ·subst h'; exact hw
     ·exact h i' h'
    ·refine .inr ⟨j+1,i',k,x,ow,wt,ht,r,q,R,z,sK,ht',by simpa using e1,e2,e3,e4,by rw [show j0+(j+1)=j0+1+j by omega]; exact e5,fun m i'' hm hi=>?_,by simpa using e7⟩
     cases m with
     | zero=>simp only [List.getElem?_cons_zero,apd] at hi; subst hi; exact hw
     | succ m=>exact e6 m i'' (by omega) (by simpa using hi)
   have hnw:∀{sK:Option (Nat×List Stp×List TypeId×List TypeId)},i.wb=sK→sK≠none→∀i'∈is,i'.wb=none:=by
    intro sK he hne
    rcases wU h1 with ⟨h,_⟩ | ⟨_,h⟩
    ·rw [he] at h; exact absurd h hne
    ·exact h
   cases p with
   | rw kk ow wt0 ht0=>
    obtain ⟨r,q,wt,ht,R,z,ws',g1,g2,g3,g4,g5⟩:=hB
    have hn:=hnw g1 (by simp)
    have:=NK hn g5
    subst this
    refine .inr ⟨0,i,kk,c.1,ow,wt0,ht0,r,q,R,z,wt,ht,rfl,g1,g2,g3,hO.1,fun m i' hm hi=>?_, .inl ⟨rfl,g4⟩⟩
    cases m with
    | zero=>exact absurd rfl hm
    | succ m=>exact hn i' (List.mem_of_getElem? (by simpa using hi))
   | jl kk ow wt0=>
    obtain ⟨r,q,wt,ht,R,z,ws',g1,g2,g3,g4,g5⟩:=hB
    have hn:=hnw g1 (by simp)
    have:=NK hn g5
    subst this
    refine .inr ⟨0,i,kk,c.1,ow,wt0,kk.tys,r,q,R,z,wt,ht,rfl,g1,g2,g3,hO.1,fun m i' hm hi=>?_, .inr ⟨rfl,rfl,g4⟩⟩
    cases m with
    | zero=>exact absurd rfl hm
    | succ m=>exact hn i' (List.mem_of_getElem? (by simpa using hi))
   | val k iB=>exact hrest (hal 0 _ i rfl rfl (by simp) (by simp)) hB hO
   | ro k=>exact hrest (hal 0 _ i rfl rfl (by simp) (by simp)) hB hO
   | own k ow=>exact hrest (hal 0 _ i rfl rfl (by simp) (by simp)) hB hO
   | fn f ks=>exact hrest (hal 0 _ i rfl rfl (by simp) (by simp)) hB hO
   | into j q=>exact hrest (hal 0 _ i rfl rfl (by simp) (by simp)) hB hO
end
end Go.Proofs.YtdknpknohipffaaGreat.Ow

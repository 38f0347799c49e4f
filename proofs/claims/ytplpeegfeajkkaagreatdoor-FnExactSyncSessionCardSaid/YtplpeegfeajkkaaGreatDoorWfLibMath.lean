/- Worlds: both sides find the same fault; sizes, copies, equalities. -/
import Derived.Test.YtplpeegfeajkkaaGreatDoorVResAMath
namespace Go.Proofs.YtplpeegfeajkkaaGreatDoor.IC
open Go Ow nE nQ oI nS tK w9
abbrev nT:=List Int×Int×List Int×Int×Unit
abbrev gM:=l_×List nT×Unit
abbrev dS:nT:=([],0,[],0,())
def uG(s:nT):Prop:=s.1.length<=big/\s.2.2.1.length<=big
structure uP(w:gM):Prop where
 v:yc w.1
 l:w.2.1.length<=big
 s:∀s∈w.2.1,uG s
def yZ(s:nT):Int:=
 if(!decide (1<=s.2.2.2.1/\s.2.2.2.1<=3))=true then 3 else if(!decide (0<=s.2.1/\s.2.1<=999))=true then 3 else if decide ((s.2.2.1.length:Int)>6)=true then 3 else if(!tF s.2.2.1)=true then 3 else
 if decide (s.1=[])=true then(if(!decide (s.2.1=0))=true then 1 else if decide ((s.2.2.1.length:Int)>0)=true then 1 else 0)else
 if(!decide (ni s.1))=true then 1 else if decide (s.2.1=0)=true then 1 else 0
theorem asL{n:Nat}{s:nT}(h:uG s)(hn:big<n):Md n s=some (yZ s,()):=by
 unfold Md Qe yZ
 simp only[ql,aeL h.2 hn,F_,(name_eq h.1 hn).2,aG]
 split
 ·rfl
 split
 ·rfl
 split
 ·rfl
 split
 ·rfl
 split
 ·split
  ·rfl
  ·split<;>rfl
 ·split
  ·rfl
  ·split<;>rfl
def xJ(l:List nT)(j:Nat):Option (Option (Int×Unit)):=if(!decide (yZ (l.getD j dS)=0))=true then some (some (yZ (l.getD j dS),()))else none
theorem aeg{n:Nat}{w:gM}(h:uP w)(hn:big<n){c:Int}(h1:HV n w.1=some (c,()))(h0:c=0)(hl:1<=w.2.1.length/\w.2.1.length<=3):wR n w=fJ (xJ w.2.1) (some (0,())) w.2.1.length 0:=by
 have hn':1048576<n:=hn
 unfold wR
 rw[h1]
 simp only[aG,h0,bG,fK,bg,aZ]
 rw[aC (by rw[dW];omega),aC (by rw[dW];omega)]
 refine gp (λi=>(w,(i:Int),())) (xJ w.2.1) (some (0,())) (m:=w.2.1.length) rfl (by omega) ?_ ?_
 ·intro L i hi _
  have hs:uG (w.2.1.getD i dS):=by rw[getD_lt hi];exact h.s _ (iC hi)
  simp only[eB,hi,bG,aQ,bU hi,dA,dL hi (by omega),asL hs hn,aG]
  unfold xJ
  split<;>rfl
 ·intro L _
  simp
theorem asM{n:Nat}{w:gM}(h:uP w)(hn:big<n){c:Int}(h1:GL n w.1=some (c,()))(h0:c=0)(hl:1<=w.2.1.length/\w.2.1.length<=3):Bc n w=fJ (xJ w.2.1) (some (0,())) w.2.1.length 0:=by
 have hn':1048576<n:=hn
 unfold Bc Du
 rw[h1]
 simp only[aG,h0,bG,fK,bg,aZ,wM,ql]
 rw[gQ (show(1:Int)<=(w.2.1.length:Int)/\(w.2.1.length:Int)<=3 by omega)]
 simp only[fK,bg,aZ]
 refine gp (λi=>(w.2.1,(w.2.1.length:Int),(i:Int),())) (xJ w.2.1) (some (0,())) (m:=w.2.1.length) rfl (by omega) ?_ ?_
 ·intro L i hi _
  have hs:uG (w.2.1.getD i dS):=by rw[getD_lt hi];exact h.s _ (iC hi)
  simp only[eB,hi,bG,aQ,bU hi,dA,dL hi (by omega)]
  simp only[PV,wM,ql,aeK hs.2 hn,F_,(name_eq hs.1 hn).1,aG]
  unfold xJ yZ
  cases b1:decide (1<=(w.2.1.getD i dS).2.2.2.1/\(w.2.1.getD i dS).2.2.2.1<=3)
  ·simp only[jf,aQ];rfl
  cases b2:decide (0<=(w.2.1.getD i dS).2.1/\(w.2.1.getD i dS).2.1<=999)
  ·simp only[jf,fK,bg,aZ,aQ];rfl
  cases b3:decide (((w.2.1.getD i dS).2.2.1.length:Int)>6)
  ·cases b4:tF (w.2.1.getD i dS).2.2.1
   ·simp only[jf,fK,bg,aZ,aQ];rfl
   cases b5:decide ((w.2.1.getD i dS).1=[])
   ·cases b6:decide (ni (w.2.1.getD i dS).1)
    ·simp only[jf,fK,bg,aZ,aQ];rfl
    ·cases b7:decide ((w.2.1.getD i dS).2.1=0)<;>(simp only[jf,fK,bg,aZ,aQ];rfl)
   ·cases b7:decide ((w.2.1.getD i dS).2.1=0)
    ·simp only[jf,fK,bg,aZ,aQ];rfl
    ·cases b8:decide (((w.2.1.getD i dS).2.2.1.length:Int)>0)<;>(simp only[jf,fK,bg,aZ,aQ];rfl)
  ·simp only[jf,fK,bg,aZ,aQ];rfl
 ·intro L _
  simp
theorem I5{step:Nat->Option (Option (Int×Unit))}(hs:∀j r,step j=some r->∃c,r=some (c,())):∀{m i:Nat},∃c,fJ step (some (0,())) m i=some (c,())
 |0,i=>⟨0,rfl⟩
 |m+1,i=>by
  rw[fJ]
  cases h:step i with
  |some r=>exact hs i r h
  |none=>exact I5 hs
theorem atz{n:Nat}{w:gM}(h:uP w)(hn:big<n):∃c:Int,Bc n w=some (c,())/\wR n w=some (c,()):=by
 obtain⟨c,e1,e2,_⟩:=aeM h.v hn
 by_cases h0:c=0
 ·by_cases hl:1<=w.2.1.length/\w.2.1.length<=3
  ·rw[asM h hn e1 h0 hl,aeg h hn e2 h0 hl]
   obtain⟨d,hd⟩:=I5 (step:=xJ w.2.1) (λj r hj=>by
    unfold xJ at hj
    split at hj
    ·exact⟨_,(jc hj).symm⟩
    ·simp at hj) (m:=w.2.1.length) (i:=0)
   exact⟨d,hd,hd⟩
  ·refine⟨2,?_,?_⟩
   ·unfold Bc Du
    rw[e1]
    simp only[aG,h0,bG,fK,bg,aZ,wM,ql]
    rw[g_ (show ¬((1:Int)<=(w.2.1.length:Int)/\(w.2.1.length:Int)<=3) by omega)]
    rfl
   ·unfold wR
    rw[e2]
    simp only[aG,h0,bG,fK,bg,aZ]
    by_cases h1:(w.2.1.length:Int)<1
    ·rw[aj (by rw[dW];exact h1)]
    ·rw[aC (by rw[dW];exact h1),aj (by rw[dW];omega)]
 ·refine⟨c,?_,?_⟩
  ·unfold Bc
   rw[e1]
   simp only[aG,h0,cO,jf,aQ]
  ·unfold wR
   rw[e2]
   simp only[aG,h0,cO,jf,aQ]
theorem ath{n:Nat}{bs:List Int}(hb:bs.length<=big)(hn:big<n):LG n bs=some (bs,()):=by
 have hb':=hb
 unfold big at hb
 unfold LG
 rw[aj (by omega)]
 exact IQ (f:=λx=>some (x,())) (d:=(0:Int)) (λL v=>rfl) (λ_ _=>rfl) hb' hn
theorem R6{n:Nat}{bs:List Int}(hb:bs.length<=big)(hn:big<n):Dw n bs bs=some (true,()):=by
 unfold Dw
 rw[aC (by simp)]
 refine z8 (f:=λx y=>some (decide (x=y),())) (d:=(0:Int)) (λL v=>rfl) (λ_ _=>by simp) hb hn
theorem atm{n:Nat}{w:gM}(h:uP w)(hn:big<n):Bg n w=some (w,()):=by
 have hb:=h.l
 unfold big at hb
 unfold Bg P6
 rw[atl h.v hn]
 simp only[aG]
 rw[aj ⟨trivial,by omega,by omega⟩]
 refine(congrArg (λx=>Option.bind x λr2:List nT×Unit=>some ((w.1,r2.1,()),())) (IQ (f:=LJ n) (d:=dS) (xs:=w.2.1) (λL v=>rfl) (λx hx=>?_) h.l hn)).trans rfl
 unfold LJ
 rw[ath (h.s x hx).2 hn]
 rfl
theorem amB{n:Nat}{w:gM}(h:uP w)(hn:big<n):Dy n w w=some (true,()):=by
 unfold Dy GY
 rw[amA h.v hn]
 simp only[aG,fK,bg,aZ,bG]
 refine(congrArg (λx=>Option.bind x λr2:Bool×Unit=>if(!r2.1)=true then some (false,())else some (true,())) (z8 (f:=Dx n) (d:=dS) (xs:=w.2.1) (λL v=>rfl) (λx hx=>?_) h.l hn)).trans rfl
 unfold Dx
 simp[R6 (h.s x hx).2 hn]
def lSe(s:nT):Prop:=s.1.length<=9223372036854775807/\s.2.2.1.length<=9223372036854775807
theorem as7{n:Nat}{s:nT}(hl:lSe s){k:Int}(h1:0<=k)(h2:k<=1048576):∃r,Hq n s k=some (r,())/\(r<0\/(r<=k/\uG s)):=by
 have l1:=hl.1
 have l2:=hl.2
 unfold Hq
 rw[wrap_i64 (x:=k-(s.1.length:Int)) (by omega) (by omega)]
 by_cases c1:k-(s.1.length:Int)<0
 ·exact⟨-1,by simp[c1],.inl (by omega)⟩
 simp only[c1,cO,bg,aZ]
 have hi:∃r,PY n s.2.2.1 (k-(s.1.length:Int))=some (r,())/\(r<0\/(r<=k-(s.1.length:Int)/\s.2.2.1.length<=big)):=O0 (n:=n) l2 (by omega) (by omega)
 obtain⟨r,g1,g2⟩:=hi
 rw[g1]
 simp only[aG]
 by_cases c2:r<0
 ·exact⟨-1,by simp[c2],.inl (by omega)⟩
 have g2:=g2.resolve_left c2
 exact⟨r,by simp[c2],.inr ⟨by omega,by unfold big;omega,g2.2⟩⟩
def lW(w:gM):Prop:=lV w.1/\w.2.1.length<=9223372036854775807/\∀s∈w.2.1,lSe s
theorem as9{n:Nat}{w:gM}(hl:lW w)(hn:big<n):∃r,LD n w 1048576=some (r,())/\(r<0\/uP w):=by
 have hn':1048576<n:=hn
 have hll:=hl.2.1
 unfold LD PZ
 obtain⟨r1,g1,g2⟩:=as8 hl.1 hn
 simp only[g1,aG]
 by_cases c1:r1<0
 ·exact⟨-1,by simp[c1],.inl (by omega)⟩
 have g2:=g2.resolve_left c1
 simp only[c1,cO,bg,aZ]
 rw[wrap_i64 (x:=r1-(w.2.1.length:Int)) (by omega) (by omega)]
 by_cases c2:r1-(w.2.1.length:Int)<0
 ·exact⟨-1,by simp[c2],.inl (by omega)⟩
 have hb:w.2.1.length<=big:=by unfold big;omega
 simp only[c2,cO,bg,aZ]
 have hz:∃r,rounds _ n (w.2.1,r1-(w.2.1.length:Int),((0:Nat):Int),())=some (r,())/\_:=Vk (f:=Hq n) (ok:=uG) (d:=dS) (xs:=w.2.1) (λL v=>rfl) (λx hx k h1 h2=>as7 (hl.2.2 x hx) h1 h2) hb w.2.1.length 0 n (r1-(w.2.1.length:Int)) (by omega) (by omega) (by omega) (by omega)
 obtain⟨r,e1,e2⟩:=hz
 refine(?_:∃r',(Option.bind (rounds _ n (w.2.1,r1-(w.2.1.length:Int),(0:Int),())) _)=some (r',())/\_)
 rw[show(0:Int)=((0:Nat):Int)from rfl]
 erw[e1]
 simp only[aG]
 by_cases c3:r<0
 ·exact⟨-1,by simp[c3],.inl (by omega)⟩
 have e2:=e2.resolve_left c3
 refine⟨r,by simp[c3],.inr ⟨g2.2,hb,λs hs=>?_⟩⟩
 obtain⟨i,hi,rfl⟩:=qC.1 hs
 exact e2.2 i hi (fQ _)
theorem apP{w:gM}(h:wz (.st (.pair (.st (.pair .bool (.pair (.sl 5 (.int .u8)) (.pair (.sl 5 (.int .u8)) (.pair (.st (.pair (.int .i64) (.pair (.sl 0 (.st (.pair .str (.pair (.int .i64) (.pair (.int .i64) (.pair (.sl 0 (.st (.pair (.int .i64) (.pair (.int .i64) (.pair (.int .i64) (.pair (.sl 5 (.int .u8)) .unit)))))) .unit)))))) .unit))) .unit))))) (.pair (.sl 0 (.st (.pair .str (.pair (.int .i64) (.pair (.sl 0 (.int .i64)) (.pair (.int .i64) .unit)))))) .unit))) w):lW w:=by
 obtain⟨⟨_,⟨h1,b1⟩,⟨h2,b2⟩,⟨_,⟨h3,h4⟩,_⟩,_⟩,⟨h5,h6⟩,_⟩:=h
 refine⟨⟨⟨h1,λx hx=>?_⟩,⟨h2,λx hx=>?_⟩,h3,λb hb=>?_⟩,h5,λs hs=>?_⟩
 ·have:=b1 x hx
  simp only[wz,lH]at this
  omega
 ·have:=b2 x hx
  simp only[wz,lH]at this
  omega
 ·obtain⟨⟨g1,_⟩,_,_,⟨g2,g3⟩,_⟩:=h4 b hb
  refine⟨g1,g2,λm hm=>?_⟩
  obtain⟨_,_,_,⟨f1,_⟩,_⟩:=g3 m hm
  exact f1
 ·obtain⟨⟨g1,_⟩,_,⟨g2,_⟩,_⟩:=h6 s hs
  exact⟨g1,g2⟩
end Go.Proofs.YtplpeegfeajkkaaGreatDoor.IC

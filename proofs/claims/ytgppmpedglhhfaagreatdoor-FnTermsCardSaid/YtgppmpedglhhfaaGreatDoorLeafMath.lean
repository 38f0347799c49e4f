/- Words of terms: kinds, flags, numbers. -/
import Derived.Test.YtgppmpedglhhfaaGreatDoorDecMath
set_option linter.unusedVariables false
set_option linter.unusedSimpArgs false
namespace Go.Proofs.YtgppmpedglhhfaaGreatDoor.vB
open Go Ow nL nM aI uo jC sF
theorem AL{R:Type}{p:Nat->Prop}[DecidablePred p]{r:Nat->R}{fin:R}:∀{m i:Nat},(∃j,i<=j/\j<i+m/\p j/\nT (λj=>if p j then some (r j)else none) fin m i=r j)\/((∀j,i<=j->j<i+m->¬p j)/\nT (λj=>if p j then some (r j)else none) fin m i=fin):=by
 intro m
 induction m with
 |zero=>intro i;exact .inr ⟨λj h1 h2=>by omega,rfl⟩
 |succ m ih=>
  intro i
  by_cases h:p i
  ·exact .inl ⟨i,bZ _,by omega,h,by simp[nT,h]⟩
  ·rcases ih (i:=i+1)with⟨j,h1,h2,h3,h4⟩|⟨h1,h2⟩
   ·exact .inl ⟨j,by omega,by omega,h3,by simp[nT,h,h4]⟩
   ·refine .inr ⟨λj g1 g2=>?_,by simp[nT,h,h2]⟩
    by_cases e:j=i
    ·subst e;exact h
    ·exact h1 j (by omega) (by omega)
def WD:List (List Int):=[[97,108,108],[102,108,97,103],[115,105,110,99,101],[98,101,102,111,114,101],[108,97,114,103,101,114],[115,117,98,106,101,99,116],[98,111,100,121],[117,105,100],[110,111,116],[97,110,100],[111,114]]
def kd(w:List Int):Nat:=(WD.idxOf w+1)%12
theorem Wd(w:List Int):kd w<=11:=by unfold kd;omega
theorem OD:∀i,i<11->kd (WD.getD i [])=i+1:=by decide
theorem We{w:List Int}(h:∀i,i<11->WD.getD i []≠w):kd w=0:=by
 unfold kd
 have:WD.idxOf w=11:=by
  refine List.idxOf_eq_length (l:=WD) λhm=>?_
  obtain⟨i,hi,e⟩:=List.getElem_of_mem hm
  refine h i hi ?_
  rw[eP,fG hi,e]
  rfl
 rw[this]
theorem avY{w:List Int}(h:kd w≠0):w=WD.getD (kd w-1) []:=by
 by_cases hx:∃i,i<11/\WD.getD i []=w
 ·obtain⟨i,hi,rfl⟩:=hx
  rw[OD i hi]
  rfl
 ·exact absurd (We λi hi e=>hx ⟨i,hi,e⟩) h
theorem ai2{n i:Nat}(hi:i<11):F8 n ((i+1:Nat):Int)=some (WD.getD i [],()):=by
 match i,hi with
 |0,_=>rfl
 |1,_=>rfl
 |2,_=>rfl
 |3,_=>rfl
 |4,_=>rfl
 |5,_=>rfl
 |6,_=>rfl
 |7,_=>rfl
 |8,_=>rfl
 |9,_=>rfl
 |10,_=>rfl
 |k+11,h=>exact absurd h (by omega)
theorem agD{n:Nat}(hn:11<n)(w:List Int):KT n w=some ((kd w:Int),()):=by
 unfold KT
 refine(qp (λi=>(w,((i+1:Nat):Int),())) (λi=>if WD.getD i []=w then some (some (((i+1:Nat):Int),()))else none) (some (0,())) (m:=11) rfl (by omega) ?_ ?_).trans ?_
 ·intro L i hi _
  have h1:((i+1:Nat):Int)<=11:=by omega
  simp only[h1,bY,bL,ai2 hi,aQ,bF,mR (show i+1<12 by omega) (by omega)]
  split<;>rfl
 ·intro L _
  rfl
 ·rcases AL (p:=λi=>WD.getD i []=w) (r:=λi=>some (((i+1:Nat):Int),())) (fin:=some ((0:Int),())) (m:=11) (i:=0)with⟨j,_,h2,h3,h4⟩|⟨h1,h2⟩
  ·rw[h4,<-h3,OD j (by omega)]
  ·rw[h2,We λi hi=>h1 i (by omega) (by omega)]
   rfl
theorem index{n:Nat}(hn:11<n)(w:List Int):FZ n WD w=some ((kd w:Int)-1,()):=by
 unfold FZ
 refine(qp (λi=>(WD,w,(WD.length:Int),(i:Int),())) (λi=>if WD.getD i []=w then some (some ((i:Int),()))else none) (some (-1,())) (m:=11) rfl (by omega) ?_ ?_).trans ?_
 ·intro L i hi _
  have hl:i<WD.length:=hi
  have hg:WD[i]=WD.getD i []:=by simp[eP,hl]
  simp only[qC,hl,bY,bL,fu hl,uB hl,hg,bF,mR hi (by omega),eq_comm (a:=w)]
  split<;>rfl
 ·intro L _
  rfl
 ·rcases AL (p:=λi=>WD.getD i []=w) (r:=λi:Nat=>some ((i:Int),())) (fin:=some ((-1:Int),())) (m:=11) (i:=0)with⟨j,_,h2,h3,h4⟩|⟨h1,h2⟩
  ·rw[h4,<-h3,OD j (by omega)]
   simp
  ·rw[h2,We λi hi=>h1 i (by omega) (by omega)]
   rfl
def tF(f:Nat):List Int:=((zY 20 (f:Int)).getD ([],())).1
theorem sixteen{P:Nat->Prop}(h:P 0/\P 1/\P 2/\P 3/\P 4/\P 5/\P 6/\P 7/\P 8/\P 9/\P 10/\P 11/\P 12/\P 13/\P 14/\P 15){f:Nat}(hf:f<16):P f:=by
 obtain⟨h0,h1,h2,h3,h4,h5,h6,h7,h8,h9,h10,h11,h12,Dq,Dr,Dt⟩:=h
 match f,hf with
 |0,_=>exact h0
 |1,_=>exact h1
 |2,_=>exact h2
 |3,_=>exact h3
 |4,_=>exact h4
 |5,_=>exact h5
 |6,_=>exact h6
 |7,_=>exact h7
 |8,_=>exact h8
 |9,_=>exact h9
 |10,_=>exact h10
 |11,_=>exact h11
 |12,_=>exact h12
 |13,_=>exact Dq
 |14,_=>exact Dr
 |15,_=>exact Dt
 |k+16,h=>exact absurd h (by omega)
set_option maxRecDepth 100000 in
theorem aol(n:Nat){f:Nat}(hf:f<16):zY (n+20) (f:Int)=some (tF f,()):=by
 refine sixteen (P:=λf=>zY (n+20) (f:Int)=some (tF f,())) ⟨?_,?_,?_,?_,?_,?_,?_,?_,?_,?_,?_,?_,?_,?_,?_,?_⟩ hf<;>kernel_rfl
set_option maxRecDepth 100000 in
theorem aok(n:Nat){f:Nat}(hf:f<16):Ct (n+20) (f:Int)=some (tF f,()):=by
 refine sixteen (P:=λf=>Ct (n+20) (f:Int)=some (tF f,())) ⟨?_,?_,?_,?_,?_,?_,?_,?_,?_,?_,?_,?_,?_,?_,?_,?_⟩ hf<;>kernel_rfl
theorem aa2{n:Nat}(hn:20<=n){f:Nat}(hf:f<16):zY n (f:Int)=some (tF f,()):=by
 obtain⟨m,rfl⟩:∃m,n=m+20:=⟨n-20,by omega⟩
 exact aol m hf
theorem aa1{n:Nat}(hn:20<=n){f:Nat}(hf:f<16):Ct n (f:Int)=some (tF f,()):=by
 obtain⟨m,rfl⟩:∃m,n=m+20:=⟨n-20,by omega⟩
 exact aok m hf
theorem ZV{n:Nat}(f:Int):KH n f=some (decide (0<=f/\f<=15),()):=by
 unfold KH
 rw[within]
 rfl
def AO(t:List Int):Option Nat:=nT (λj=>if tF j=t then some (some j)else none) none 16 0
theorem aoj(t:List Int):(∃j,j<16/\tF j=t/\AO t=some j)\/((∀j,j<16->tF j≠t)/\AO t=none):=by
 rcases AL (p:=λj=>tF j=t) (r:=λj:Nat=>some j) (fin:=none) (m:=16) (i:=0)with⟨j,_,h2,h3,h4⟩|⟨h1,h2⟩
 ·exact .inl ⟨j,by omega,h3,h4⟩
 ·exact .inr ⟨λj hj=>h1 j (by omega) (by omega),h2⟩
def qO:Option Nat->aB
 |some f=>(0,(f:Int),())
 |none=>(5,0,())
theorem aa0{R S:Type}{f:R->S}{p:Nat->Prop}[DecidablePred p]{r:Nat->R}{fin:R}:∀{m i:Nat},nT (λj=>if p j then some (f (r j))else none) (f fin) m i=f (nT (λj=>if p j then some (r j)else none) fin m i):=by
 intro m
 induction m with
 |zero=>intro i;rfl
 |succ m ih=>
  intro i
  by_cases h:p i
  ·simp[nT,h]
  ·simp[nT,h,ih]
theorem axr{n:Nat}(hn:20<=n)(t:List Int):KR n t=some (qO (AO t),()):=by
 unfold KR
 refine(qp (λi=>(t,(i:Int),(0,0,()),())) (λj=>if tF j=t then some (some (qO (some j),()))else none) (some (qO none,())) (m:=16) rfl (by omega) ?_ ?_).trans ?_
 ·intro L i hi _
  simp only[aa2 hn hi,aQ,bF,mR hi (by omega)]
  rw[aj (by omega)]
  split<;>rfl
 ·intro L _
  simp[qO]
 ·exact aa0 (f:=λo=>some (qO o,())) (p:=λj=>tF j=t) (r:=λj:Nat=>some j) (fin:=none)
theorem axq{n:Nat}(hn:20<=n)(t:List Int):KE n t=some (qO (AO t),()):=by
 unfold KE
 refine(qp (λi=>(t,(i:Int),(0,0,()),())) (λj=>if tF j=t then some (some (qO (some j),()))else none) (some (qO none,())) (m:=16) rfl (by omega) ?_ ?_).trans ?_
 ·intro L i hi _
  have h:decide (0<=(i:Int)/\(i:Int)<=15)=true:=by simp;omega
  simp only[ZV,h,aa1 hn hi,aQ,bF,mR hi (by omega),bL]
  split<;>rfl
 ·intro L _
  simp[ZV,qO]
 ·exact aa0 (f:=λo=>some (qO o,())) (p:=λj=>tF j=t) (r:=λj:Nat=>some j) (fin:=none)
theorem ayP{x:Int}(h0:48<=x)(h1:x<=57):IntKind.u8.wrap (x-48)=x-48:=by
 unfold IntKind.wrap
 simp[IntKind.bits,IntKind.signed]
 omega
theorem aiY{s:List Int}{B:(List Int×Int×Int×Unit->Option (Int×Unit))->List Int×Int×Int×Unit->Option (Int×Unit)}
  (hB:∀L v,B L v=(if decide (v.2.2.1<(v.1.length:Int))=true then(if aZ v.2.2.1 v.1.length then(if decide ((v.1.getD v.2.2.1.toNat 0)<(48:Int))=true then some ((-1:Int),())else(if aZ v.2.2.1 v.1.length then(if decide ((v.1.getD v.2.2.1.toNat 0)>(57:Int))=true then some ((-1:Int),())else(if aZ v.2.2.1 v.1.length then L (v.1,IntKind.i64.wrap ((IntKind.i64.wrap (v.2.1*(10:Int)))+(IntKind.i64.wrap (IntKind.u8.wrap ((v.1.getD v.2.2.1.toNat 0)-(48:Int))))),IntKind.i64.wrap (v.2.2.1+(1:Int)),())else none))else none))else none)else some (v.2.1,())))
  (hs:s.length<=4):∀(e i n:Nat) (v:Int),i+e=s.length->e<n->0<=v->v<10 ^ i->rounds B n (s,v,(i:Int),())=some (uZ v (s.drop i),()):=by
 intro e
 induction e with
 |zero=>
  intro i n v hi hn h0 h1
  cases n with
  |zero=>omega
  |succ n=>
   show B (rounds B n) _=_
   rw[hB]
   simp only[show ¬((i:Int)<(s.length:Int)) by omega,dm,bP,bI]
   rw[List.drop_of_length_le (by omega)]
   rfl
 |succ e ih=>
  intro i n v hi hn h0 h1
  cases n with
  |zero=>omega
  |succ n=>
   have hlt:i<s.length:=by omega
   show B (rounds B n) _=_
   rw[hB]
   simp only[qC,hlt,bY,bL,fu hlt,uB hlt,mR hlt (by omega)]
   rw[x_ hlt]
   have hp:(10:Int) ^ i<=1000:=by
    have:i=0\/i=1\/i=2\/i=3:=by omega
    rcases this with rfl|rfl|rfl|rfl<;>decide
   unfold uZ
   by_cases ha:s[i]<48
   ·simp only[ha,bY,bL]
    rw[ah (by omega)]
   ·by_cases hb:s[i]>57
    ·simp only[ha,hb,bY,dm,bP,bI,bL]
     rw[ah (by omega)]
    ·simp only[ha,hb,dm,bP,bI]
     rw[aj (by omega),ayP (by omega) (by omega),wrap_i64 (x:=v*10) (by omega) (by omega),wrap_i64 (x:=s[i]-48) (by omega) (by omega),wrap_i64 (by omega) (by omega)]
     exact ih (i+1) n _ (by omega) (by omega) (by omega) (by rw[Int.pow_succ];omega)
theorem value{n:Nat}(hn:6<=n)(s:List Int):zV n s=some (fP s,()):=by
 unfold zV fP
 by_cases h1:(s.length:Int)<1
 ·rw[aj (by simpa using h1),aj (by omega)]
 ·rw[ah (by simpa using h1)]
  by_cases h2:(s.length:Int)>4
  ·rw[aj (by simpa using h2),aj (by omega)]
  ·rw[ah (by simpa using h2)]
   by_cases h3:(s.length:Int)>1
   ·rw[aj (by simpa using h3),aj (by unfold aZ;omega)]
    by_cases h4:s.getD 0 0=48
    ·rw[aj (by simpa using h4),aj (by omega)]
    ·rw[ah (by simpa using h4),ah (by omega)]
     exact aiY (λL v=>rfl) (by omega) s.length 0 n 0 (by omega) (by omega) (by omega) (by decide)
   ·rw[ah (by simpa using h3),ah (by omega)]
    exact aiY (λL v=>rfl) (by omega) s.length 0 n 0 (by omega) (by omega) (by omega) (by decide)
theorem ahX{n:Nat}{s:List Int}(hb:dD s)(hl:s.length<=1048576):∃x,KM n s=some (x,decide (0<=fP s),())/\(0<=fP s->x=fP s):=by
 obtain⟨h1,h2⟩:=axE hb
 refine⟨(pJ s).1,?_,h2⟩
 show Fh s=_
 unfold Fh
 rw[aj hl,h1]
theorem aat{n:Nat}{v:Int}(h0:0<=v)(h1:v<10000):KI n v=some (kD v,()):=by
 show Df v=_
 unfold Df
 rw[aj (by omega)]
theorem aau{s:List Int}(hb:dD s)(h:0<=fP s):kD (fP s)=s:=by
 obtain⟨_,h2⟩:=RX h
 unfold kD
 have e3:∀l:List UInt8,bytesOf ⟨l.toArray⟩=ints l:=λl=>by unfold bytesOf ints;simp
 have e4:Lib.itoa (fP s)=Lib.decDigits (fP s).toNat:=by rw[<-Io,Int.toNat_of_nonneg h]
 rw[e3,e4,<-h2,xx hb]
theorem ayH{s:List Int}(h:0<=fP s):∀b∈s,48<=b/\b<=57:=by
 unfold fP at h
 split at h
 ·omega
 ·exact Xx (KZ 0) h
theorem w9{v:Int}(h0:0<=v)(h1:v<10000):(∀b∈kD v,48<=b/\b<=57)/\(kD v).length<=4:=by
 obtain⟨k,rfl⟩:∃k:Nat,v=k:=⟨v.toNat,by omega⟩
 obtain⟨l,hl,e,hc⟩:=RZ (v:=k) (by omega)
 have e3:∀l:List UInt8,bytesOf ⟨l.toArray⟩=ints l:=λl=>by unfold bytesOf ints;simp
 have e5:kD (k:Int)=l.map λd=>((48+d:Nat):Int):=by
  unfold kD
  rw[e3,Io,e,acv l hl]
 rw[e5]
 refine⟨λb hb=>?_,?_⟩
 ·obtain⟨d,hd,rfl⟩:=d_.1 hb
  have:=hl d hd
  omega
 ·rw[oq]
  rcases hc with⟨a,rfl,_⟩|⟨a,b,rfl,_⟩|⟨a,b,c,rfl,_⟩|⟨a,b,c,d,rfl,_⟩<;>simp
end Go.Proofs.YtgppmpedglhhfaaGreatDoor.vB

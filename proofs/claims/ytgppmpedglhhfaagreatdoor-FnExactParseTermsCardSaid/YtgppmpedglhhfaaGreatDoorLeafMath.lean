/- Words of terms: kinds, flags, numbers. -/
import Derived.Test.YtgppmpedglhhfaaGreatDoorDecMath
set_option linter.unusedVariables false
set_option linter.unusedSimpArgs false
namespace Go.Proofs.YtgppmpedglhhfaaGreatDoor.yB
open Go Ow q9 qZ aD vg jY vv
theorem y7{R:Type}{p:Nat->Prop}[DecidablePred p]{r:Nat->R}{fin:R}:∀{m i:Nat},(∃j,i<=j/\j<i+m/\p j/\ny (λj=>if p j then some (r j)else none) fin m i=r j)\/((∀j,i<=j->j<i+m->¬p j)/\ny (λj=>if p j then some (r j)else none) fin m i=fin):=by
 intro m
 induction m with
 |zero=>intro i;exact .inr ⟨λj h1 h2=>by omega,rfl⟩
 |succ m ih=>
  intro i
  by_cases h:p i
  ·exact .inl ⟨i,bT _,by omega,h,by simp[ny,h]⟩
  ·rcases ih (i:=i+1)with⟨j,h1,h2,h3,h4⟩|⟨h1,h2⟩
   ·exact .inl ⟨j,by omega,by omega,h3,by simp[ny,h,h4]⟩
   ·refine .inr ⟨λj g1 g2=>?_,by simp[ny,h,h2]⟩
    by_cases e:j=i
    ·subst e;exact h
    ·exact h1 j (by omega) (by omega)
def WD:List (List Int):=[[97,108,108],[102,108,97,103],[115,105,110,99,101],[98,101,102,111,114,101],[108,97,114,103,101,114],[115,117,98,106,101,99,116],[98,111,100,121],[117,105,100],[110,111,116],[97,110,100],[111,114]]
def kd(w:List Int):Nat:=(WD.idxOf w+1)%12
theorem PD(w:List Int):kd w<=11:=by unfold kd;omega
theorem Pz:∀i,i<11->kd (WD.getD i [])=i+1:=by decide
theorem PE{w:List Int}(h:∀i,i<11->WD.getD i []≠w):kd w=0:=by
 unfold kd
 have:WD.idxOf w=11:=by
  refine List.idxOf_eq_length (l:=WD) λhm=>?_
  obtain⟨i,hi,e⟩:=List.getElem_of_mem hm
  refine h i hi ?_
  rw[gy,gK hi,e]
  rfl
 rw[this]
theorem al0{w:List Int}(h:kd w≠0):w=WD.getD (kd w-1) []:=by
 by_cases hx:∃i,i<11/\WD.getD i []=w
 ·obtain⟨i,hi,rfl⟩:=hx
  rw[Pz i hi]
  rfl
 ·exact absurd (PE λi hi e=>hx ⟨i,hi,e⟩) h
theorem aoR{n i:Nat}(hi:i<11):K5 n ((i+1:Nat):Int)=some (WD.getD i [],()):=by
 match i,hi with
 |0,_=>rfl
 |1,_=>rfl
 |2,_=>rfl
 |3,_=>rfl
 |4,_=>rfl
 |5,_=>rfl
 |6,_=>rfl
 |7,_=>rfl
 |8,_=>rfl
 |9,_=>rfl
 |10,_=>rfl
 |k+11,h=>exact absurd h (by omega)
theorem YJ{n:Nat}(hn:11<n)(w:List Int):GD n w=some ((kd w:Int),()):=by
 unfold GD
 refine(pK (λi=>(w,((i+1:Nat):Int),())) (λi=>if WD.getD i []=w then some (some (((i+1:Nat):Int),()))else none) (some (0,())) (m:=11) rfl (by omega) ?_ ?_).trans ?_
 ·intro L i hi _
  have h1:((i+1:Nat):Int)<=11:=by omega
  simp only[h1,cB,bQ,aoR hi,bf,bN,kY (show i+1<12 by omega) (by omega)]
  split<;>rfl
 ·intro L _
  rfl
 ·rcases y7 (p:=λi=>WD.getD i []=w) (r:=λi=>some (((i+1:Nat):Int),())) (fin:=some ((0:Int),())) (m:=11) (i:=0)with⟨j,_,h2,h3,h4⟩|⟨h1,h2⟩
  ·rw[h4,<-h3,Pz j (by omega)]
  ·rw[h2,PE λi hi=>h1 i (by omega) (by omega)]
   rfl
theorem index{n:Nat}(hn:11<n)(w:List Int):CO n WD w=some ((kd w:Int)-1,()):=by
 unfold CO
 refine(pK (λi=>(WD,w,(WD.length:Int),(i:Int),())) (λi=>if WD.getD i []=w then some (some ((i:Int),()))else none) (some (-1,())) (m:=11) rfl (by omega) ?_ ?_).trans ?_
 ·intro L i hi _
  have hl:i<WD.length:=hi
  have hg:WD[i]=WD.getD i []:=by simp[gy,hl]
  simp only[ou,hl,cB,bQ,ig hl,o9 hl,hg,bN,kY hi (by omega),eq_comm (a:=w)]
  split<;>rfl
 ·intro L _
  rfl
 ·rcases y7 (p:=λi=>WD.getD i []=w) (r:=λi:Nat=>some ((i:Int),())) (fin:=some ((-1:Int),())) (m:=11) (i:=0)with⟨j,_,h2,h3,h4⟩|⟨h1,h2⟩
  ·rw[h4,<-h3,Pz j (by omega)]
   simp
  ·rw[h2,PE λi hi=>h1 i (by omega) (by omega)]
   rfl
def tF(f:Nat):List Int:=((Ae 20 (f:Int)).getD ([],())).1
theorem sixteen{P:Nat->Prop}(h:P 0/\P 1/\P 2/\P 3/\P 4/\P 5/\P 6/\P 7/\P 8/\P 9/\P 10/\P 11/\P 12/\P 13/\P 14/\P 15){f:Nat}(hf:f<16):P f:=by
 obtain⟨h0,h1,h2,h3,h4,h5,h6,h7,h8,h9,h10,h11,h12,Ba,Bb,Bc⟩:=h
 match f,hf with
 |0,_=>exact h0
 |1,_=>exact h1
 |2,_=>exact h2
 |3,_=>exact h3
 |4,_=>exact h4
 |5,_=>exact h5
 |6,_=>exact h6
 |7,_=>exact h7
 |8,_=>exact h8
 |9,_=>exact h9
 |10,_=>exact h10
 |11,_=>exact h11
 |12,_=>exact h12
 |13,_=>exact Ba
 |14,_=>exact Bb
 |15,_=>exact Bc
 |k+16,h=>exact absurd h (by omega)
set_option maxRecDepth 100000 in
theorem af3(n:Nat){f:Nat}(hf:f<16):Ae (n+20) (f:Int)=some (tF f,()):=by
 refine sixteen (P:=λf=>Ae (n+20) (f:Int)=some (tF f,())) ⟨?_,?_,?_,?_,?_,?_,?_,?_,?_,?_,?_,?_,?_,?_,?_,?_⟩ hf<;>kernel_rfl
set_option maxRecDepth 100000 in
theorem af1(n:Nat){f:Nat}(hf:f<16):Aa (n+20) (f:Int)=some (tF f,()):=by
 refine sixteen (P:=λf=>Aa (n+20) (f:Int)=some (tF f,())) ⟨?_,?_,?_,?_,?_,?_,?_,?_,?_,?_,?_,?_,?_,?_,?_,?_⟩ hf<;>kernel_rfl
theorem af2{n:Nat}(hn:20<=n){f:Nat}(hf:f<16):Ae n (f:Int)=some (tF f,()):=by
 obtain⟨m,rfl⟩:∃m,n=m+20:=⟨n-20,by omega⟩
 exact af3 m hf
theorem U9{n:Nat}(hn:20<=n){f:Nat}(hf:f<16):Aa n (f:Int)=some (tF f,()):=by
 obtain⟨m,rfl⟩:∃m,n=m+20:=⟨n-20,by omega⟩
 exact af1 m hf
theorem TZ{n:Nat}(f:Int):Gc n f=some (decide (0<=f/\f<=15),()):=by
 unfold Gc
 rw[within]
 rfl
def y8(t:List Int):Option Nat:=ny (λj=>if tF j=t then some (some j)else none) none 16 0
theorem af0(t:List Int):(∃j,j<16/\tF j=t/\y8 t=some j)\/((∀j,j<16->tF j≠t)/\y8 t=none):=by
 rcases y7 (p:=λj=>tF j=t) (r:=λj:Nat=>some j) (fin:=none) (m:=16) (i:=0)with⟨j,_,h2,h3,h4⟩|⟨h1,h2⟩
 ·exact .inl ⟨j,by omega,h3,h4⟩
 ·exact .inr ⟨λj hj=>h1 j (by omega) (by omega),h2⟩
def qg:Option Nat->ay
 |some f=>(0,(f:Int),())
 |none=>(5,0,())
theorem U8{R S:Type}{f:R->S}{p:Nat->Prop}[DecidablePred p]{r:Nat->R}{fin:R}:∀{m i:Nat},ny (λj=>if p j then some (f (r j))else none) (f fin) m i=f (ny (λj=>if p j then some (r j)else none) fin m i):=by
 intro m
 induction m with
 |zero=>intro i;rfl
 |succ m ih=>
  intro i
  by_cases h:p i
  ·simp[ny,h]
  ·simp[ny,h,ih]
theorem ant{n:Nat}(hn:20<=n)(t:List Int):Gx n t=some (qg (y8 t),()):=by
 unfold Gx
 refine(pK (λi=>(t,(i:Int),(0,0,()),())) (λj=>if tF j=t then some (some (qg (some j),()))else none) (some (qg none,())) (m:=16) rfl (by omega) ?_ ?_).trans ?_
 ·intro L i hi _
  simp only[af2 hn hi,bf,bN,kY hi (by omega)]
  rw[ak (by omega)]
  split<;>rfl
 ·intro L _
  simp[qg]
 ·exact U8 (f:=λo=>some (qg o,())) (p:=λj=>tF j=t) (r:=λj:Nat=>some j) (fin:=none)
theorem anr{n:Nat}(hn:20<=n)(t:List Int):F9 n t=some (qg (y8 t),()):=by
 unfold F9
 refine(pK (λi=>(t,(i:Int),(0,0,()),())) (λj=>if tF j=t then some (some (qg (some j),()))else none) (some (qg none,())) (m:=16) rfl (by omega) ?_ ?_).trans ?_
 ·intro L i hi _
  have h:decide (0<=(i:Int)/\(i:Int)<=15)=true:=by simp;omega
  simp only[TZ,h,U9 hn hi,bf,bN,kY hi (by omega),bQ]
  split<;>rfl
 ·intro L _
  simp[TZ,qg]
 ·exact U8 (f:=λo=>some (qg o,())) (p:=λj=>tF j=t) (r:=λj:Nat=>some j) (fin:=none)
theorem aoS{x:Int}(h0:48<=x)(h1:x<=57):IntKind.u8.wrap (x-48)=x-48:=by
 unfold IntKind.wrap
 simp[IntKind.bits,IntKind.signed]
 omega
theorem aaR{s:List Int}{B:(List Int×Int×Int×Unit->Option (Int×Unit))->List Int×Int×Int×Unit->Option (Int×Unit)}
  (hB:∀L v,B L v=(if decide (v.2.2.1<(v.1.length:Int))=true then(if aX v.2.2.1 v.1.length then(if decide ((v.1.getD v.2.2.1.toNat 0)<(48:Int))=true then some ((-1:Int),())else(if aX v.2.2.1 v.1.length then(if decide ((v.1.getD v.2.2.1.toNat 0)>(57:Int))=true then some ((-1:Int),())else(if aX v.2.2.1 v.1.length then L (v.1,IntKind.i64.wrap ((IntKind.i64.wrap (v.2.1*(10:Int)))+(IntKind.i64.wrap (IntKind.u8.wrap ((v.1.getD v.2.2.1.toNat 0)-(48:Int))))),IntKind.i64.wrap (v.2.2.1+(1:Int)),())else none))else none))else none)else some (v.2.1,())))
  (hs:s.length<=4):∀(e i n:Nat) (v:Int),i+e=s.length->e<n->0<=v->v<10 ^ i->rounds B n (s,v,(i:Int),())=some (tZ v (s.drop i),()):=by
 intro e
 induction e with
 |zero=>
  intro i n v hi hn h0 h1
  cases n with
  |zero=>omega
  |succ n=>
   show B (rounds B n) _=_
   rw[hB]
   simp only[show ¬((i:Int)<(s.length:Int)) by omega,dL,bY,bO]
   rw[List.drop_of_length_le (by omega)]
   rfl
 |succ e ih=>
  intro i n v hi hn h0 h1
  cases n with
  |zero=>omega
  |succ n=>
   have hlt:i<s.length:=by omega
   show B (rounds B n) _=_
   rw[hB]
   simp only[ou,hlt,cB,bQ,ig hlt,o9 hlt,kY hlt (by omega)]
   rw[wM hlt]
   have hp:(10:Int) ^ i<=1000:=by
    have:i=0\/i=1\/i=2\/i=3:=by omega
    rcases this with rfl|rfl|rfl|rfl<;>decide
   unfold tZ
   by_cases ha:s[i]<48
   ·simp only[ha,cB,bQ]
    rw[aj (by omega)]
   ·by_cases hb:s[i]>57
    ·simp only[ha,hb,cB,dL,bY,bO,bQ]
     rw[aj (by omega)]
    ·simp only[ha,hb,dL,bY,bO]
     rw[ak (by omega),aoS (by omega) (by omega),wrap_i64 (x:=v*10) (by omega) (by omega),wrap_i64 (x:=s[i]-48) (by omega) (by omega),wrap_i64 (by omega) (by omega)]
     exact ih (i+1) n _ (by omega) (by omega) (by omega) (by rw[Int.pow_succ];omega)
theorem value{n:Nat}(hn:6<=n)(s:List Int):yt n s=some (fG s,()):=by
 unfold yt fG
 by_cases h1:(s.length:Int)<1
 ·rw[ak (by simpa using h1),ak (by omega)]
 ·rw[aj (by simpa using h1)]
  by_cases h2:(s.length:Int)>4
  ·rw[ak (by simpa using h2),ak (by omega)]
  ·rw[aj (by simpa using h2)]
   by_cases h3:(s.length:Int)>1
   ·rw[ak (by simpa using h3),ak (by unfold aX;omega)]
    by_cases h4:s.getD 0 0=48
    ·rw[ak (by simpa using h4),ak (by omega)]
    ·rw[aj (by simpa using h4),aj (by omega)]
     exact aaR (λL v=>rfl) (by omega) s.length 0 n 0 (by omega) (by omega) (by omega) (by decide)
   ·rw[aj (by simpa using h3),aj (by omega)]
    exact aaR (λL v=>rfl) (by omega) s.length 0 n 0 (by omega) (by omega) (by omega) (by decide)
theorem ZV{n:Nat}{s:List Int}(hb:dN s)(hl:s.length<=1048576):∃x,Gh n s=some (x,decide (0<=fG s),())/\(0<=fG s->x=fG s):=by
 obtain⟨h1,h2⟩:=anC hb
 refine⟨(oM s).1,?_,h2⟩
 show B_ s=_
 unfold B_
 rw[ak hl,h1]
theorem UA{n:Nat}{v:Int}(h0:0<=v)(h1:v<10000):Gd n v=some (sN v,()):=by
 show AU v=_
 unfold AU
 rw[ak (by omega)]
theorem UC{s:List Int}(hb:dN s)(h:0<=fG s):sN (fG s)=s:=by
 obtain⟨_,h2⟩:=MG h
 unfold sN
 have e3:∀l:List UInt8,bytesOf ⟨l.toArray⟩=ints l:=λl=>by unfold bytesOf ints;simp
 have e4:Lib.itoa (fG s)=Lib.decDigits (fG s).toNat:=by rw[<-I4,Int.toNat_of_nonneg h]
 rw[e3,e4,<-h2,vW hb]
theorem aoI{s:List Int}(h:0<=fG s):∀b∈s,48<=b/\b<=57:=by
 unfold fG at h
 split at h
 ·omega
 ·exact QT (Int.le_refl 0) h
theorem UB{v:Int}(h0:0<=v)(h1:v<10000):(∀b∈sN v,48<=b/\b<=57)/\(sN v).length<=4:=by
 obtain⟨k,rfl⟩:∃k:Nat,v=k:=⟨v.toNat,by omega⟩
 obtain⟨l,hl,e,hc⟩:=MI (v:=k) (by omega)
 have e3:∀l:List UInt8,bytesOf ⟨l.toArray⟩=ints l:=λl=>by unfold bytesOf ints;simp
 have e5:sN (k:Int)=l.map λd=>((48+d:Nat):Int):=by
  unfold sN
  rw[e3,I4,e,WG l hl]
 rw[e5]
 refine⟨λb hb=>?_,?_⟩
 ·obtain⟨d,hd,rfl⟩:=eD.1 hb
  have:=hl d hd
  omega
 ·rw[oz]
  rcases hc with⟨a,rfl,_⟩|⟨a,b,rfl,_⟩|⟨a,b,c,rfl,_⟩|⟨a,b,c,d,rfl,_⟩<;>simp
end Go.Proofs.YtgppmpedglhhfaaGreatDoor.yB

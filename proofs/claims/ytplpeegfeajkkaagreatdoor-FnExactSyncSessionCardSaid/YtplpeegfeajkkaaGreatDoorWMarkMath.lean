/- Worlds as results: equalities and marks. -/
import Derived.Test.YtplpeegfeajkkaaGreatDoorWfLibMath
namespace Go.Proofs.YtplpeegfeajkkaaGreatDoor.YY
open Go Ow nE nQ oI nS tK w9 MV D_ IC
def gT(k:Int)(ss:List nT):Nat->Int
 |0=>k
 |i+1=>gT k ss i+3+((ss.getD i dS).2.2.1.length:Int)
def u6(n:Nat)(k:Int)(ss:List nT):List nT:=(List.range ss.length).map λ(i:Nat)=>(txt n (gT k ss i),gT k ss i+1,mI (gT k ss i+2) (ss.getD i dS).2.2.1.length,gT k ss i+2+((ss.getD i dS).2.2.1.length:Int),())
theorem ab6(n:Nat)(k:Int)(ss:List nT):(u6 n k ss).length=ss.length:=by simp[u6]
theorem JM{k:Int}{ss:List nT}(h:∀s∈ss,uG s):∀i,i<=ss.length->k<=gT k ss i/\gT k ss i<=k+1048579*(i:Int)
 |0,_=>by simp[gT]
 |i+1,hi=>by
  have:=JM (k:=k) h i (by omega)
  have h1:=(h _ (kP (xs:=ss) (k:=i) (by omega) dS)).2
  unfold big at h1
  unfold gT
  omega
theorem ab8{n:Nat}{ss:List nT}{k:Int}(hb:ss.length<=big)(h:∀s∈ss,uG s)(hn:big<n)(h0:0<=k)(h1:k<=1152925902656503808):Ls n ss k=some (gT k ss ss.length,u6 n k ss,()):=by
 have hb':ss.length<=1048576:=hb
 have hn':1048576<n:=hn
 have hl:=ab6 n k ss
 unfold Ls
 refine FC (xs:=ss) (ys:=u6 n k ss) (K:=gT k ss) (n:=n) hl (by omega) ?_ ?_
 ·intro L i hi
  have hlen:=Av hl (Nat.le_of_lt hi)
  have hlt:i<((u6 n k ss).take i++ss.drop i).length:=by omega
  have hget:=FJ hl hi dS
  have hkb:=JM (k:=k) h i (Nat.le_of_lt hi)
  have hB:=(h _ (iC hi)).2
  have hB':(ss[i]).2.2.1.length<=1048576:=hB
  have w1:IntKind.i64.wrap (gT k ss i+1)=gT k ss i+1:=wrap_i64 (by omega) (by omega)
  have w2:IntKind.i64.wrap (gT k ss i+1+1)=gT k ss i+2:=by rw[wrap_i64 (by omega) (by omega)];omega
  have w3:IntKind.i64.wrap (gT k ss i+2+((ss[i]).2.2.1.length:Int)+1)=gT k ss i+3+((ss[i]).2.2.1.length:Int):=by rw[wrap_i64 (by omega) (by omega)];omega
  have hs:=yQ hl hi (txt n (gT k ss i),gT k ss i+1,mI (gT k ss i+2) (ss[i]).2.2.1.length,gT k ss i+2+((ss[i]).2.2.1.length:Int),()) (by simp[u6,hi])
  have hk:gT k ss (i+1)=gT k ss i+3+((ss[i]).2.2.1.length:Int):=by rw[<-getD_lt hi dS];rfl
  simp only[U4,hlen,eB,hi,bG,aQ,bU hi,dA,U5 hlt,U3 hlt,hget,w1,w2,w3,dL hi (by omega),F9 (n:=n) (k:=gT k ss i) (by omega) (by omega),aqf hB hn (show 0<=gT k ss i+2 by omega) (by omega),aG]
  rw[hk,<-hs]
  unfold bY
  rw[hget]
 ·intro L
  simp[hl]
theorem an5{n:Nat}{ss:List nT}{k:Int}(hb:ss.length<=big)(h:∀s∈ss,uG s)(hn:big<n)(h0:0<=k)(h1:k<=1152925902656503808):G6 n (u6 n k ss) k=some (gT k ss ss.length,()):=by
 have hb':ss.length<=1048576:=hb
 have hn':1048576<n:=hn
 have hl:=ab6 n k ss
 unfold G6
 rw[<-hl]
 refine EN (ys:=u6 n k ss) (K:=gT k ss) (n:=n) (by omega) ?_ ?_
 ·intro L i hi'
  have hi:i<ss.length:=by omega
  have hkb:=JM (k:=k) h i (Nat.le_of_lt hi)
  have hB:=(h _ (iC hi)).2
  have hB':(ss[i]).2.2.1.length<=1048576:=hB
  have w1:IntKind.i64.wrap (gT k ss i+1)=gT k ss i+1:=wrap_i64 (by omega) (by omega)
  have w2:IntKind.i64.wrap (gT k ss i+1+1)=gT k ss i+2:=by rw[wrap_i64 (by omega) (by omega)];omega
  have w3:IntKind.i64.wrap (gT k ss i+2+((ss[i]).2.2.1.length:Int)+1)=gT k ss i+3+((ss[i]).2.2.1.length:Int):=by rw[wrap_i64 (by omega) (by omega)];omega
  have hg:(u6 n k ss)[i]=(txt n (gT k ss i),gT k ss i+1,mI (gT k ss i+2) (ss[i]).2.2.1.length,gT k ss i+2+((ss[i]).2.2.1.length:Int),()):=by simp[u6,hi]
  have hk:gT k ss (i+1)=gT k ss i+3+((ss[i]).2.2.1.length:Int):=by rw[<-getD_lt hi dS];rfl
  have hneg:¬(gT k ss i+2+((ss[i]).2.2.1.length:Int)<0):=by omega
  simp only[eB,hi',bG,aQ,bU hi',ku hi',hg,w1,w2,w3,fK,bg,aZ,F9 (n:=n) (k:=gT k ss i) (by omega) (by omega),an2 hB hn (show 0<=gT k ss i+2 by omega) (by omega),aG,dL hi' (by omega),hneg,cO,hk]
 ·intro L
  simp
abbrev WR:=Int×List (List Int)×gM×Unit
structure LW(w:gM):Prop where
 v:LV w.1
 l:w.2.1.length<=big
 s:∀s∈w.2.1,uG s
theorem LW.of{w:gM}(h:uP w):LW w:=⟨LV.of h.v,h.l,h.s⟩
def zQ(c:Int):WR:=(c,[],((false,[],[],(0,[],()),()),[],()),())
def LWR(r:WR):Prop:=r.2.1=[]/\LW r.2.2.1
theorem aj8(c:Int):LWR (zQ c):=⟨rfl,(aj6 c).2,by simp[zQ,big],λb hb=>absurd hb (x9)⟩
theorem amy{n:Nat}{l:List nT}(hl:l.length<=big)(h:∀s∈l,uG s)(hn:big<n):GY n l l=some (true,()):=by
 unfold GY
 rw[aC (by simp)]
 refine z8 (f:=Dx n) (d:=dS) (xs:=l) (λL v=>rfl) (λx hx=>?_) hl hn
 unfold Dx
 simp[D_.R6 (h x hx).2 hn]
theorem abL{v:l_}(h:LV v):0<=kV 1 v/\kV 1 v<=1152925902656503808:=by
 have h2:=h.s1
 have h3:=h.s2
 unfold big at h2 h3
 have:=JL (k:=1+(v.2.1.length:Int)+(v.2.2.1.length:Int)) h.st
 unfold kV
 omega
def kW(w:gM):Int:=gT (kV 1 w.1) w.2.1 w.2.1.length
def mW(n:Nat)(w:gM):gM:=(mV n 1 w.1,u6 n (kV 1 w.1) w.2.1,())
theorem apA{w:gM}(h:LW w):¬kW w<0:=by
 have h1:=abL h.v
 have h2:=JM (k:=kV 1 w.1) h.s _ (bV _)
 unfold kW
 omega
theorem aqm{n:Nat}{w:gM}(h:LW w)(hn:big<n):Bf n w 1=some (kW w,mW n w,()):=by
 have h1:=abL h.v
 unfold Bf
 rw[ab9 h.v hn (by omega) (by omega)]
 simp only[aG]
 rw[ab8 h.l h.s hn h1.1 h1.2]
 rfl
end Go.Proofs.YtplpeegfeajkkaaGreatDoor.YY

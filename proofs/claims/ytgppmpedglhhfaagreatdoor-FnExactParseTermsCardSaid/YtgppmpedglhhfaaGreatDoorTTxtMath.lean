/- The text of terms that were read. -/
import Derived.Test.YtgppmpedglhhfaaGreatDoorTFaultMath
set_option linter.unusedVariables false
set_option linter.unusedSimpArgs false
namespace Go.Proofs.YtgppmpedglhhfaaGreatDoor.TC
open Go Ow q9 qZ aD vg jY vv yB vB Au wU LC
theorem aoC{f:Nat}(hf:f<16):(tF f).length<=100:=(show ∀f,f<16->(tF f).length<=100 by decide +kernel) f hf
theorem QV(k:Int):(wd k).length<=7:=by
 unfold wd
 by_cases h:(k-1).toNat<11
 ·exact(show ∀i,i<11->(WD.getD i []).length<=7 by decide) _ h
 ·rw[gy,qD (by show 11<=_;omega)]
  simp
theorem UR:∀(l:List Int),(l.flatMap enc).length<=3*l.length
 | []=>by simp
 |c :: l=>by
  have:=MM c
  have:=UR l
  simp only[kK,d_,iT]
  omega
theorem QZ{k:Int}(h:1<=k/\k<=11):aX (IntKind.i64.wrap (k-1)) [[97,108,108],[102,108,97,103],[115,105,110,99,101],[98,101,102,111,114,101],[108,97,114,103,101,114],[115,117,98,106,101,99,116],[98,111,100,121],[117,105,100],[110,111,116],[97,110,100],[111,114]].length/\([[97,108,108],[102,108,97,103],[115,105,110,99,101],[98,101,102,111,114,101],[108,97,114,103,101,114],[115,117,98,106,101,99,116],[98,111,100,121],[117,105,100],[110,111,116],[97,110,100],[111,114]]:List (List Int)).getD (IntKind.i64.wrap (k-1)).toNat []=wd k:=by
 rw[wrap_i64 (by omega) (by omega)]
 exact⟨⟨by omega,by show(k-1)<11;omega⟩,rfl⟩
theorem aom{l:List ay}(h8:l.length<=8)(h:∀r∈l,lG r):([44].intercalate (l.map rT)).length<=80:=by
 have:=WC (c:=44) (xs:=l.map rT) (k:=9) λx hx=>by
  obtain⟨r,hr,rfl⟩:=eD.1 hx
  exact(J3 (h r hr)).2
 simp only[oz]at this
 omega
theorem amr{ts:List bn}{i n:Nat}{t:bn}(hn:1048600<n)(hi:i<ts.length)(ht:ts.getD i aJ=t)(h1:JQ t)(h2:t.2.2.1.length<=1048576):um (n+1) ts (i:Int)=some (wd t.1++uR t,())/\(wd t.1++uR t).length<=3200000:=by
 unfold um
 rw[ak (ig hi)]
 simp only[kJ,ht,nK.hasNum,nK.ze,bf]
 clear ht
 obtain⟨k,num,cs,rs,l,r,_⟩:=t
 obtain⟨a1,a2,a3,a4,a5,a6,a7,a8,a9,Di⟩:=h1
 simp only at a1 a2 a3 a4 a5 a6 a7 a8 a9 Di h2
 obtain⟨w1,w2⟩:=QZ (k:=k) (by omega)
 have hw:=QV k
 simp only[w2]
 rw[ak w1]
 unfold uR
 simp only
 by_cases c2:k=2
 ·obtain⟨f,rfl⟩:∃f:Nat,num=f:=⟨num.toNat,by have:=a2 c2;omega⟩
  have hf:f<16:=by have:=a2 c2;omega
  have:=aoC hf
  rw[ak (by rw[bN];exact c2),aj (by omega),ak c2,U9 (by omega) hf,kJ]
  simp only[bf]
  rw[ak (by simp;omega),ak (by simp;omega)]
  exact⟨rfl,by simp;omega⟩
 ·rw[aj (by rw[bN];exact c2)]
  by_cases c5:2<=k/\k<=5
  ·obtain⟨b1,b2⟩:=a3 (by omega)
   have:=(UB b1 b2).2
   rw[ak (by rw[bN];exact c5),aj (by omega),aj c2,aj (by omega),aj (by omega),UA b1 b2]
   simp only[bf]
   rw[ak (by simp;omega),ak (by simp;omega)]
   exact⟨rfl,by simp;omega⟩
  ·rw[aj (by rw[bN];exact c5)]
   by_cases c6:k=6\/k=7
   ·have:=UR cs
    rw[ak (by rw[bN];exact c6),aj (by omega),aj c2,aj (by omega),ak c6,afA (a5 c6) h2 (by omega)]
    simp only[bf]
    rw[ak (by simp only[d_,iT,jA];omega),ak (by simp only[d_,iT,jA];omega)]
    exact⟨rfl,by simp only[d_,iT,jA];omega⟩
   ·rw[aj (by rw[bN];exact c6)]
    by_cases c8:k=8
    ·obtain⟨b1,b2,b3⟩:=a7 c8
     have:=aom b1 b3
     rw[ak (by rw[bN];exact c8),aj (by omega),aj c2,ak c8,aan (by omega) b1 b3]
     simp only[bf]
     rw[ak (by simp;omega),ak (by simp;omega)]
     exact⟨rfl,by simp;omega⟩
    ·rw[aj (by rw[bN];exact c8),aj (by rw[bN];omega),aj (by rw[bN];omega),ak (by omega),jJ]
     exact⟨rfl,by omega⟩
theorem Kj:∀(tr:Tr) (pre post:List bn) (n:Nat),xN tr->rY tr->size tr<=1000->size tr+1048600<n->um n (pre++dD pre.length tr++post) ((pre.length+size tr-1:Nat):Int)=some (txt tr,())/\(txt tr).length<=3200000*size tr
 |.leaf t,pre,post,n,h1,h2,hz,hn=>by
  obtain⟨n,rfl⟩:∃j,n=j+1:=⟨n-1,by omega⟩
  simp only[size]at hn ⊢
  have e:(pre++dD pre.length (.leaf t)++post).getD pre.length aJ=t:=by
   simp only[dD]
   rw[fH,List.singleton_append,rA]
  have:=amr (ts:=pre++dD pre.length (.leaf t)++post) (i:=pre.length) (n:=n) (by omega) (by simp[dD]) e h1 h2.2.2.2.2.2.2
  rw[Nat.add_sub_cancel]
  exact⟨this.1,by simp only[txt];omega⟩
 |.one a,pre,post,n,h1,h2,hz,hn=>by
  obtain⟨n,rfl⟩:∃j,n=j+1:=⟨n-1,by omega⟩
  simp only[size]at hn hz ⊢
  have hp:=size_pos a
  have el:pre++dD pre.length (.one a)++post=pre++dD pre.length a++((9,0,[],[],((pre.length+size a-1:Nat):Int),0,()) :: post):=by simp only[dD,fH,List.singleton_append]
  have hlen:(pre++dD pre.length a).length=pre.length+size a:=by rw[d_,lY]
  obtain⟨i1,i2⟩:=Kj a pre ((9,0,[],[],((pre.length+size a-1:Nat):Int),0,()) :: post) n h1 h2 (by omega) (by omega)
  have e:(pre++dD pre.length a++((9,0,[],[],((pre.length+size a-1:Nat):Int),0,()) :: post)).getD (pre.length+size a) aJ=(9,0,[],[],((pre.length+size a-1:Nat):Int),0,()):=by
   rw[<-hlen,rA]
  rw[el,show pre.length+(size a+1)-1=pre.length+size a by omega]
  unfold um
  rw[ak (ig (by rw[d_,hlen];simp))]
  obtain⟨w1,w2⟩:=QZ (k:=9) (by omega)
  have hw:=QV 9
  simp only[kJ,e,nK.hasNum,nK.ze,bf,w2]
  rw[ak w1,aj (by decide),aj (by decide),aj (by decide),aj (by decide),ak (by decide),i1]
  simp only[bf]
  rw[ak (by simp;omega),ak (by simp;omega)]
  exact⟨rfl,by simp only[txt,d_,iT,jA];omega⟩
 |.two k a b,pre,post,n,h1,h2,hz,hn=>by
  obtain⟨n,rfl⟩:∃j,n=j+1:=⟨n-1,by omega⟩
  simp only[size]at hn hz ⊢
  obtain⟨hk,ha,hb⟩:=h1
  obtain⟨_,sa,sb⟩:=h2
  have hpa:=size_pos a
  have hpb:=size_pos b
  have hlen:(pre++dD pre.length a).length=pre.length+size a:=by rw[d_,lY]
  have vQ:(pre++dD pre.length a++dD (pre.length+size a) b).length=pre.length+size a+size b:=by rw[d_,hlen,lY]
  generalize hx:(((k:Int),0,[],[],((pre.length+size a-1:Nat):Int),((pre.length+size a+size b-1:Nat):Int),()):bn)=x
  have el:pre++dD pre.length (.two k a b)++post=pre++dD pre.length a++(dD (pre.length+size a) b++(x :: post)):=by rw[<-hx];simp only[dD,fH,List.singleton_append]
  have UN:pre++dD pre.length a++(dD (pre.length+size a) b++(x :: post))=pre++dD pre.length a++dD (pre.length+size a) b++(x :: post):=by simp only[fH]
  obtain⟨i1,i2⟩:=Kj a pre (dD (pre.length+size a) b++(x :: post)) n ha sa (by omega) (by omega)
  have ihb:=Kj b (pre++dD pre.length a) (x :: post) n hb sb (by omega) (by omega)
  rw[hlen]at ihb
  obtain⟨j1,j2⟩:=ihb
  have e:(pre++dD pre.length a++dD (pre.length+size a) b++(x :: post)).getD (pre.length+size a+size b) aJ=x:=by
   rw[<-vQ,rA]
  rw[UN]at i1
  rw[el,UN,show pre.length+(size a+size b+1)-1=pre.length+size a+size b by omega]
  unfold um
  rw[ak (ig (by rw[d_,vQ];simp))]
  obtain⟨w1,w2⟩:=QZ (k:=(k:Int)) (by omega)
  have hw:=QV (k:Int)
  simp only[kJ,e]
  rw[<-hx]
  simp only[nK.hasNum,nK.ze,bf,w2]
  rw[ak w1,aj (by rw[bN];omega),aj (by rw[bN];omega),aj (by rw[bN];omega),aj (by rw[bN];omega),aj (by rw[bN];omega),ak (by rw[bN];omega),hx,i1]
  simp only[bf]
  rw[ak (by simp;omega),ak (by simp;omega),j1]
  simp only[bf]
  rw[ak (by simp;omega),ak (by simp;omega)]
  exact⟨rfl,by simp only[txt,d_,iT,jA];omega⟩
end Go.Proofs.YtgppmpedglhhfaaGreatDoor.TC

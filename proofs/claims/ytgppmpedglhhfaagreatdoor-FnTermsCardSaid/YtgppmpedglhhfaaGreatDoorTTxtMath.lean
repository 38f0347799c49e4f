/- The text of terms that were read. -/
import Derived.Test.YtgppmpedglhhfaaGreatDoorTFaultMath
set_option linter.unusedVariables false
set_option linter.unusedSimpArgs false
namespace Go.Proofs.YtgppmpedglhhfaaGreatDoor.QV
open Go Ow nL nM aI uo jC sF vB oW vK sD Ai
theorem ayv{f:Nat}(hf:f<16):(tF f).length<=100:=(show ∀f,f<16->(tF f).length<=100 by decide +kernel) f hf
theorem FJ(k:Int):(wd k).length<=7:=by
 unfold wd
 by_cases h:(k-1).toNat<11
 ·exact(show ∀i,i<11->(WD.getD i []).length<=7 by decide) _ h
 ·rw[eP,pY (by show 11<=_;omega)]
  simp
theorem R8:∀(l:List Int),(l.flatMap enc).length<=3*l.length
 | []=>by simp
 |c :: l=>by
  have:=R7 c
  have:=R8 l
  simp only[kP,dI,iy]
  omega
theorem XE{k:Int}(h:1<=k/\k<=11):aZ (IntKind.i64.wrap (k-1)) [[97,108,108],[102,108,97,103],[115,105,110,99,101],[98,101,102,111,114,101],[108,97,114,103,101,114],[115,117,98,106,101,99,116],[98,111,100,121],[117,105,100],[110,111,116],[97,110,100],[111,114]].length/\([[97,108,108],[102,108,97,103],[115,105,110,99,101],[98,101,102,111,114,101],[108,97,114,103,101,114],[115,117,98,106,101,99,116],[98,111,100,121],[117,105,100],[110,111,116],[97,110,100],[111,114]]:List (List Int)).getD (IntKind.i64.wrap (k-1)).toNat []=wd k:=by
 rw[wrap_i64 (by omega) (by omega)]
 exact⟨⟨by omega,by show(k-1)<11;omega⟩,rfl⟩
theorem aip{l:List aB}(h8:l.length<=8)(h:∀r∈l,kE r):([44].intercalate (l.map rT)).length<=80:=by
 have:=acs (c:=44) (xs:=l.map rT) (k:=9) λx hx=>by
  obtain⟨r,hr,rfl⟩:=d_.1 hx
  exact(Fg (h r hr)).2
 simp only[oq]at this
 omega
theorem awq{ts:List aa}{i n:Nat}{t:aa}(hn:1048600<n)(hi:i<ts.length)(ht:ts.getD i aA=t)(h1:J2 t)(h2:t.2.2.1.length<=1048576):ug (n+1) ts (i:Int)=some (wd t.1++tX t,())/\(wd t.1++tX t).length<=3200000:=by
 unfold ug
 rw[aj (fu hi)]
 simp only[iw,ht,lu.hasNum,lu.yP,aQ]
 clear ht
 obtain⟨k,num,cs,rs,l,r,_⟩:=t
 obtain⟨a1,a2,a3,a4,a5,a6,a7,a8,a9,Gw⟩:=h1
 simp only at a1 a2 a3 a4 a5 a6 a7 a8 a9 Gw h2
 obtain⟨w1,w2⟩:=XE (k:=k) (by omega)
 have hw:=FJ k
 simp only[w2]
 rw[aj w1]
 unfold tX
 simp only
 by_cases c2:k=2
 ·obtain⟨f,rfl⟩:∃f:Nat,num=f:=⟨num.toNat,by have:=a2 c2;omega⟩
  have hf:f<16:=by have:=a2 c2;omega
  have:=ayv hf
  rw[aj (by rw[bF];exact c2),ah (by omega),aj c2,aa1 (by omega) hf,iw]
  simp only[aQ]
  rw[aj (by simp;omega),aj (by simp;omega)]
  exact⟨rfl,by simp;omega⟩
 ·rw[ah (by rw[bF];exact c2)]
  by_cases c5:2<=k/\k<=5
  ·obtain⟨b1,b2⟩:=a3 (by omega)
   have:=(w9 b1 b2).2
   rw[aj (by rw[bF];exact c5),ah (by omega),ah c2,ah (by omega),ah (by omega),aat b1 b2]
   simp only[aQ]
   rw[aj (by simp;omega),aj (by simp;omega)]
   exact⟨rfl,by simp;omega⟩
  ·rw[ah (by rw[bF];exact c5)]
   by_cases c6:k=6\/k=7
   ·have:=R8 cs
    rw[aj (by rw[bF];exact c6),ah (by omega),ah c2,ah (by omega),aj c6,anU (a5 c6) h2 (by omega)]
    simp only[aQ]
    rw[aj (by simp only[dI,iy,iF];omega),aj (by simp only[dI,iy,iF];omega)]
    exact⟨rfl,by simp only[dI,iy,iF];omega⟩
   ·rw[ah (by rw[bF];exact c6)]
    by_cases c8:k=8
    ·obtain⟨b1,b2,b3⟩:=a7 c8
     have:=aip b1 b3
     rw[aj (by rw[bF];exact c8),ah (by omega),ah c2,aj c8,aio (by omega) b1 b3]
     simp only[aQ]
     rw[aj (by simp;omega),aj (by simp;omega)]
     exact⟨rfl,by simp;omega⟩
    ·rw[ah (by rw[bF];exact c8),ah (by rw[bF];omega),ah (by rw[bF];omega),aj (by omega),jf]
     exact⟨rfl,by omega⟩
theorem Kk:∀(tr:Tr) (pre post:List aa) (n:Nat),xJ tr->kH tr->size tr<=1000->size tr+1048600<n->ug n (pre++bD pre.length tr++post) ((pre.length+size tr-1:Nat):Int)=some (txt tr,())/\(txt tr).length<=3200000*size tr
 |.leaf t,pre,post,n,h1,h2,hz,hn=>by
  obtain⟨n,rfl⟩:∃j,n=j+1:=⟨n-1,by omega⟩
  simp only[size]at hn ⊢
  have e:(pre++bD pre.length (.leaf t)++post).getD pre.length aA=t:=by
   simp only[bD]
   rw[eG,List.singleton_append,pq]
  have:=awq (ts:=pre++bD pre.length (.leaf t)++post) (i:=pre.length) (n:=n) (by omega) (by simp[bD]) e h1 h2.2.2.2.2.2.2
  rw[Nat.add_sub_cancel]
  exact⟨this.1,by simp only[txt];omega⟩
 |.one a,pre,post,n,h1,h2,hz,hn=>by
  obtain⟨n,rfl⟩:∃j,n=j+1:=⟨n-1,by omega⟩
  simp only[size]at hn hz ⊢
  have hp:=size_pos a
  have el:pre++bD pre.length (.one a)++post=pre++bD pre.length a++((9,0,[],[],((pre.length+size a-1:Nat):Int),0,()) :: post):=by simp only[bD,eG,List.singleton_append]
  have hlen:(pre++bD pre.length a).length=pre.length+size a:=by rw[dI,jy]
  obtain⟨i1,i2⟩:=Kk a pre ((9,0,[],[],((pre.length+size a-1:Nat):Int),0,()) :: post) n h1 h2 (by omega) (by omega)
  have e:(pre++bD pre.length a++((9,0,[],[],((pre.length+size a-1:Nat):Int),0,()) :: post)).getD (pre.length+size a) aA=(9,0,[],[],((pre.length+size a-1:Nat):Int),0,()):=by
   rw[<-hlen,pq]
  rw[el,show pre.length+(size a+1)-1=pre.length+size a by omega]
  unfold ug
  rw[aj (fu (by rw[dI,hlen];simp))]
  obtain⟨w1,w2⟩:=XE (k:=9) (by omega)
  have hw:=FJ 9
  simp only[iw,e,lu.hasNum,lu.yP,aQ,w2]
  rw[aj w1,ah (by decide),ah (by decide),ah (by decide),ah (by decide),aj (by decide),i1]
  simp only[aQ]
  rw[aj (by simp;omega),aj (by simp;omega)]
  exact⟨rfl,by simp only[txt,dI,iy,iF];omega⟩
 |.two k a b,pre,post,n,h1,h2,hz,hn=>by
  obtain⟨n,rfl⟩:∃j,n=j+1:=⟨n-1,by omega⟩
  simp only[size]at hn hz ⊢
  obtain⟨hk,ha,hb⟩:=h1
  obtain⟨_,sa,sb⟩:=h2
  have hpa:=size_pos a
  have hpb:=size_pos b
  have hlen:(pre++bD pre.length a).length=pre.length+size a:=by rw[dI,jy]
  have sQ:(pre++bD pre.length a++bD (pre.length+size a) b).length=pre.length+size a+size b:=by rw[dI,hlen,jy]
  generalize hx:(((k:Int),0,[],[],((pre.length+size a-1:Nat):Int),((pre.length+size a+size b-1:Nat):Int),()):aa)=x
  have el:pre++bD pre.length (.two k a b)++post=pre++bD pre.length a++(bD (pre.length+size a) b++(x :: post)):=by rw[<-hx];simp only[bD,eG,List.singleton_append]
  have GN:pre++bD pre.length a++(bD (pre.length+size a) b++(x :: post))=pre++bD pre.length a++bD (pre.length+size a) b++(x :: post):=by simp only[eG]
  obtain⟨i1,i2⟩:=Kk a pre (bD (pre.length+size a) b++(x :: post)) n ha sa (by omega) (by omega)
  have ihb:=Kk b (pre++bD pre.length a) (x :: post) n hb sb (by omega) (by omega)
  rw[hlen]at ihb
  obtain⟨j1,j2⟩:=ihb
  have e:(pre++bD pre.length a++bD (pre.length+size a) b++(x :: post)).getD (pre.length+size a+size b) aA=x:=by
   rw[<-sQ,pq]
  rw[GN]at i1
  rw[el,GN,show pre.length+(size a+size b+1)-1=pre.length+size a+size b by omega]
  unfold ug
  rw[aj (fu (by rw[dI,sQ];simp))]
  obtain⟨w1,w2⟩:=XE (k:=(k:Int)) (by omega)
  have hw:=FJ (k:Int)
  simp only[iw,e]
  rw[<-hx]
  simp only[lu.hasNum,lu.yP,aQ,w2]
  rw[aj w1,ah (by rw[bF];omega),ah (by rw[bF];omega),ah (by rw[bF];omega),ah (by rw[bF];omega),ah (by rw[bF];omega),aj (by rw[bF];omega),hx,i1]
  simp only[aQ]
  rw[aj (by simp;omega),aj (by simp;omega),j1]
  simp only[aQ]
  rw[aj (by simp;omega),aj (by simp;omega)]
  exact⟨rfl,by simp only[txt,dI,iy,iF];omega⟩
end Go.Proofs.YtgppmpedglhhfaaGreatDoor.QV

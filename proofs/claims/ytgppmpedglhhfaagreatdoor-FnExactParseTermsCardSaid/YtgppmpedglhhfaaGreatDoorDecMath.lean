/- Characters in utf-8: both readers read the same. -/
import Derived.Test.YtgppmpedglhhfaaGreatDoorPtF
set_option linter.unusedVariables false
set_option linter.unusedSimpArgs false
namespace Go.Proofs.YtgppmpedglhhfaaGreatDoor.jY
open Go Ow q9 qZ
theorem uM{n:Nat}(a b c:Int):mD n a b c=some (decide (b<=a/\a<=c),()):=by
 unfold mD
 by_cases h1:a>=b
 ·by_cases h2:a<=c<;>simp[h1,h2]
 ·simp[h1]
theorem within{n:Nat}(a b c:Int):mZ n a b c=some (decide (b<=a/\a<=c),()):=uM (n:=n) a b c
def iP(c:Int):Prop:=(0<=c/\c<=65535)/\¬(55296<=c/\c<=57343)
instance (c:Int):Decidable (iP c):=by unfold iP;infer_instance
theorem WH{n:Nat}(c:Int):CG n c=some (decide (iP c),()):=by
 unfold CG iP
 simp only[within,bf]
 by_cases h1:0<=c/\c<=65535<;>by_cases h2:55296<=c/\c<=57343<;>simp[h1,h2]
theorem hasChar{n:Nat}(c:Int):F8 n 4 c=some (decide (iP c),()):=by
 unfold F8 KW
 rw[WH]
 by_cases h:iP c<;>simp[h,within]
def more(bs:List Int)(i:Nat):Int:=if i<bs.length/\128<=bs.getD i 0/\bs.getD i 0<=191 then bs.getD i 0-128 else -1
def utf(bs:List Int):Int×Int:=
 if bs.getD 0 0<128 then(bs.getD 0 0,1)else
 if(194<=bs.getD 0 0/\bs.getD 0 0<224)/\0<=more bs 1 then((bs.getD 0 0-192)*64+more bs 1,2)else
 if((224<=bs.getD 0 0/\bs.getD 0 0<240)/\0<=more bs 1/\0<=more bs 2)/\2048<=(bs.getD 0 0-224)*4096+more bs 1*64+more bs 2/\iP ((bs.getD 0 0-224)*4096+more bs 1*64+more bs 2)then((bs.getD 0 0-224)*4096+more bs 1*64+more bs 2,3)else(0,0)
def dN(bs:List Int):Prop:=∀b∈bs,0<=b/\b<256
def enc(c:Int):List Int:=if c<128 then [c]else if c<2048 then [192+c / 64,128+c%64]else [224+c / 4096,128+c / 64%64,128+c%64]
theorem Kl{x:Int}(h0:0<=x)(h1:x<256):IntKind.u8.wrap x=x:=by
 unfold IntKind.wrap
 simp[IntKind.bits,IntKind.signed]
 omega
theorem Cm{a b:Int}(h:0<=a):a.tmod b=a%b:=Int.tmod_eq_emod_of_nonneg h
theorem aaI{a b:Int}(h:0<=a):a.tdiv b=a / b:=Int.tdiv_eq_ediv_of_nonneg h
theorem low{n:Nat}{x:Int}(h:0<=x)(h2:x<=65535):yg n x=some (128+x%64,()):=by
 unfold yg
 rw[ak (by omega),Cm h,wrap_i64 (by omega) (by omega),Kl (by omega) (by omega)]
theorem Dv{n:Nat}{c:Int}(h0:0<=c)(h1:c<=65535):CB n 4 c=some (enc c,()):=by
 have e4:IntKind.i64.wrap (c.tdiv 4096)=c / 4096:=by rw[aaI h0,wrap_i64 (by omega) (by omega)]
 have e1:IntKind.i64.wrap (224+c / 4096)=224+c / 4096:=wrap_i64 (by omega) (by omega)
 have e2:IntKind.i64.wrap (192+c / 64)=192+c / 64:=wrap_i64 (by omega) (by omega)
 have e3:IntKind.i64.wrap (c.tdiv 64)=c / 64:=by rw[aaI h0,wrap_i64 (by omega) (by omega)]
 unfold CB enc
 by_cases c1:c<128
 ·have n1:¬c>=2048:=by omega
  have n2:¬c>=128:=by omega
  simp[c1,n1,n2,Kl h0 (by omega:c<256)]
 ·by_cases c2:c<2048
  ·have n1:¬c>=2048:=by omega
   have n2:c>=128:=by omega
   simp[c1,c2,n1,n2,e3,e2,low h0 h1,Kl (show 0<=192+c / 64 by omega) (by omega)]
  ·have n1:c>=2048:=by omega
   simp[c1,c2,n1,e4,e1,e3,low h0 h1,low (n:=n) (show 0<=c / 64 by omega) (by omega),Kl (show 0<=224+c / 4096 by omega) (by omega)]
theorem za{bs:List Int}(h:dN bs)(i:Nat):0<=bs.getD i 0/\bs.getD i 0<256:=by
 by_cases hi:i<bs.length
 ·rw[gy,gK hi]
  exact h _ (nM hi)
 ·rw[gy,qD (by omega)]
  simp
theorem Eg{i:Nat}{l:Nat}:aX (i:Int) l=true↔i<l:=by
 unfold aX
 simp
theorem afZ{n:Nat}{bs:List Int}(h:dN bs)(hl:0<bs.length):CF n 4 bs=some ((utf bs).1,(utf bs).2,()):=by
 have r0:=za h 0
 have r1:=za h 1
 have r2:=za h 2
 have eb:∀a b:List Int,KU n a b=some (decide (a=b),()):=λ_ _=>rfl
 have t1:bs.take 1=[bs.getD 0 0]:=by
  match bs,hl with
  |b :: _,_=>simp
 have hi0:aX (0:Int) bs.length=true:=(Eg (i:=0)).2 hl
 have ew:∀i:Nat,IntKind.i64.wrap (bs.getD i 0)=bs.getD i 0:=λi=>by
  have:=za h i
  exact wrap_i64 (by omega) (by omega)
 have z0:(0:Int).toNat=0:=rfl
 have z1:(1:Int).toNat=1:=rfl
 have z2:(2:Int).toNat=2:=rfl
 have z3:(3:Int).toNat=3:=rfl
 have hw:=ew 0
 generalize hb:bs.getD 0 0=b at *
 generalize hx:bs.getD 1 0=x at *
 generalize hy:bs.getD 2 0=y at *
 have U0:=ew 1
 have U1:=ew 2
 rw[hx]at U0
 rw[hy]at U1
 have L2:2<=bs.length->aX (1:Int) bs.length=true/\bs.take 2=[b,x]:=by
  intro h2
  refine⟨(Eg (i:=1)).2 h2,?_⟩
  match bs,h2 with
  |p :: q :: _,_=>simp at hb hx;simp[hb,hx]
 have L3:3<=bs.length->aX (2:Int) bs.length=true/\bs.take 3=[b,x,y]:=by
  intro h3
  refine⟨(Eg (i:=2)).2 h3,?_⟩
  match bs,h3 with
  |p :: q :: r :: _,_=>simp at hb hx hy;simp[hb,hx,hy]
 unfold CF
 simp only[hi0,bQ,within,bf,z0,hb,hw,z1,z2,z3,hx,hy,U0,U1,Int.reduceEq,dL,cB,bY,bO,Int.reduceNe,ne_eq,not_false_eq_true,hasChar,eb]
 by_cases c1:b<128
 ·have w1:¬(192<=b/\b<=223):=by omega
  have w2:¬b>=224:=by omega
  have hu:utf bs=(b,1):=by unfold utf;rw[hb,ak c1]
  have g1:¬(1:Int)>(bs.length:Int):=by omega
  have g2:(0:Int)<=1/\(1:Int)<=(bs.length:Int):=by omega
  have ec:enc b=[b]:=by unfold enc;rw[ak c1]
  have hc:iP b:=by unfold iP;omega
  simp only[w1,w2,g1,g2,hc,Dv r0.1 (by omega:b<=65535),t1,ec,hu,dL,cB,bY,bO,bf,iM,and_self,bQ]
 by_cases c2:192<=b/\b<=223
 ·have w2:¬b>=224:=by omega
  by_cases g1:(2:Int)>(bs.length:Int)
  ·have hu:utf bs=(0,0):=by
    have hm:more bs 1=-1:=by unfold more;rw[aj (by omega)]
    unfold utf
    rw[hb,hm,aj c1,aj (by omega),aj (by omega)]
   simp only[c2,g1,hu,cB,bQ,and_self]
  ·obtain⟨l1,l2⟩:=L2 (by omega)
   have g2:(0:Int)<=2/\(2:Int)<=(bs.length:Int):=by omega
   have a1:IntKind.i64.wrap (b.tmod 32*64)=(b%32)*64:=by rw[Cm r0.1,wrap_i64 (by omega) (by omega)]
   have a2:IntKind.i64.wrap (b%32*64+x.tmod 64)=b%32*64+x%64:=by rw[Cm r1.1,wrap_i64 (by omega) (by omega)]
   have hc:iP (b%32*64+x%64):=by unfold iP;omega
   simp only[c2,g1,g2,l1,a1,a2,hc,Dv (show 0<=b%32*64+x%64 by omega) (by omega),l2,dL,cB,bY,bO,bf,iM,and_self,bQ]
   have hm:more bs 1=if 128<=x/\x<=191 then x-128 else -1:=by
    unfold more
    rw[hx]
    by_cases q:128<=x/\x<=191
    ·rw[ak ⟨by omega,q⟩,ak q]
    ·rw[aj (λz=>q z.2),aj q]
   by_cases ok:194<=b/\128<=x/\x<=191
   ·have ee:enc (b%32*64+x%64)=[b,x]:=by
     unfold enc
     rw[aj (by omega),ak (by omega)]
     congr 1
     ·omega
     ·congr 1;omega
    have hu:utf bs=((b-192)*64+(x-128),2):=by
     unfold utf
     rw[hb,hm,ak ok.2,aj c1,ak (by omega)]
    rw[ee,hu]
    simp only[cB,iM,bY,bO,aa,bK,dZ]
    omega
   ·have ee:enc (b%32*64+x%64)≠[b,x]:=by
     unfold enc
     split
     ·simp
     ·rw[ak (by omega)]
      simp only[ne_eq,gQ,dZ]
      omega
    have hu:utf bs=(0,0):=by
     unfold utf
     rw[hb,hm,aj c1,aj (by split<;>omega),aj (by omega)]
    rw[hu,MH ee]
    simp only[mq,bQ]
 by_cases c3:b>=224
 ·by_cases g1:(3:Int)>(bs.length:Int)
  ·have hu:utf bs=(0,0):=by
    have hm:more bs 2=-1:=by unfold more;rw[aj (by omega)]
    unfold utf
    rw[hb,hm,aj c1,aj (by omega),aj (by omega)]
   simp only[c2,c3,g1,hu,dL,bY,bO,cB,bQ]
  ·obtain⟨l1,_⟩:=L2 (by omega)
   obtain⟨l2,l3⟩:=L3 (by omega)
   have g2:(0:Int)<=3/\(3:Int)<=(bs.length:Int):=by omega
   have a1:IntKind.i64.wrap (b.tmod 16*4096)=b%16*4096:=by rw[Cm r0.1,wrap_i64 (by omega) (by omega)]
   have a2:IntKind.i64.wrap (x.tmod 64*64)=x%64*64:=by rw[Cm r1.1,wrap_i64 (by omega) (by omega)]
   have a3:IntKind.i64.wrap (b%16*4096+x%64*64)=b%16*4096+x%64*64:=wrap_i64 (by omega) (by omega)
   have a4:IntKind.i64.wrap (b%16*4096+x%64*64+y.tmod 64)=b%16*4096+x%64*64+y%64:=by rw[Cm r2.1,wrap_i64 (by omega) (by omega)]
   have hm:∀i z,bs.getD i 0=z->i<bs.length->more bs i=if 128<=z/\z<=191 then z-128 else -1:=by
    intro i z hz hi
    unfold more
    rw[hz]
    by_cases q:128<=z/\z<=191
    ·rw[ak ⟨hi,q⟩,ak q]
    ·rw[aj (λz=>q z.2),aj q]
   have hm1:=hm 1 x hx (by omega)
   have hm2:=hm 2 y hy (by omega)
   simp only[c2,c3,g1,g2,l1,l2,a1,a2,a3,a4,Dv (show 0<=b%16*4096+x%64*64+y%64 by omega) (by omega),l3,dL,cB,bY,bO,bf,and_self,bQ]
   by_cases ok:(b<240/\(128<=x/\x<=191)/\(128<=y/\y<=191))/\2048<=b%16*4096+x%64*64+y%64/\iP (b%16*4096+x%64*64+y%64)
   ·have ev:(b-224)*4096+(x-128)*64+(y-128)=b%16*4096+x%64*64+y%64:=by omega
    have ee:enc (b%16*4096+x%64*64+y%64)=[b,x,y]:=by
     unfold enc
     rw[aj (by omega),aj (by omega)]
     congr 1
     ·omega
     ·congr 1
      ·omega
      ·congr 1;omega
    have hu:utf bs=(b%16*4096+x%64*64+y%64,3):=by
     unfold utf
     rw[hb,hm1,hm2,ak ok.1.2.1,ak ok.1.2.2,aj c1,aj (by omega),ev,ak ⟨⟨by omega,by omega,by omega⟩,ok.2⟩]
    rw[ee,hu]
    simp only[ok.2.2,cB,iM,bY,bO]
   ·have hu:utf bs=(0,0):=by
     unfold utf
     rw[hb,hm1,hm2,aj c1,aj (by omega),aj]
     rintro⟨⟨q1,q2,q3⟩,q4,q5⟩
     have p1:128<=x/\x<=191:=by
      refine jI λh=>?_
      rw[aj h]at q2;omega
     have p2:128<=y/\y<=191:=by
      refine jI λh=>?_
      rw[aj h]at q3;omega
     rw[ak p1,ak p2]at q4 q5
     have ev:(b-224)*4096+(x-128)*64+(y-128)=b%16*4096+x%64*64+y%64:=by omega
     rw[ev]at q4 q5
     exact ok ⟨⟨q1.2,p1,p2⟩,q4,q5⟩
    rw[hu]
    by_cases hc:iP (b%16*4096+x%64*64+y%64)
    ·have ee:enc (b%16*4096+x%64*64+y%64)≠[b,x,y]:=by
      unfold enc
      split
      ·simp
      ·split
       ·simp
       ·simp only[ne_eq,gQ,dZ]
        rintro⟨h1,h2,h3⟩
        exact ok ⟨⟨by omega,by omega,by omega⟩,by omega,hc⟩
     simp only[hc,MH ee,cB,iM,mq,bY,bO,bQ]
    ·simp only[hc,dL,mq,bQ]
 ·
  have g1:¬(1:Int)>(bs.length:Int):=by omega
  have g2:(0:Int)<=1/\(1:Int)<=(bs.length:Int):=by omega
  have ec:enc b≠[b]:=by
   unfold enc
   rw[aj c1]
   split<;>simp
  have hc:iP b:=by unfold iP;omega
  have hu:utf bs=(0,0):=by
   unfold utf
   rw[hb,aj c1,aj (by omega),aj (by omega)]
  simp only[c2,c3,g1,g2,hc,Dv r0.1 (by omega:b<=65535),t1,ec,hu,dL,cB,bY,bO,bf,iM,mq,and_self,bQ]
theorem YK{n:Nat}(c:Int):wH n c=some (decide (iP c),()):=by
 unfold wH iP
 simp only[uM,bf]
 by_cases h1:0<=c/\c<=55295
 ·simp[h1];omega
 ·simp only[h1,dL,bY,bO]
  congr 2
  exact uE.2 (by omega)
theorem UJ{bs:List Int}{at' i:Nat}:(bs.drop at').getD i 0=bs.getD (at'+i) 0:=by
 simp[gy,yD]
theorem YL{n:Nat}{bs:List Int}(h:dN bs){at' i:Nat}(hb:bs.length<=1048576)(hi:at'+i<=2097152):yz n bs ((at'+i:Nat):Int)=some (more (bs.drop at') i,()):=by
 have r:=za h (at'+i)
 unfold yz more
 rw[UJ,GU]
 by_cases c1:at'+i<bs.length
 ·have e:IntKind.i64.wrap (bs.getD (at'+i) 0)=bs.getD (at'+i) 0:=wrap_i64 (by omega) (by omega)
  rw[aj (by rw[bN];omega)]
  simp only[(Eg (i:=at'+i)).2 c1,bQ,kJ,e]
  by_cases c2:bs.getD (at'+i) 0<128
  ·rw[ak (by rw[bN];exact c2),aj (by omega)]
  ·rw[aj (by rw[bN];exact c2)]
   by_cases c3:bs.getD (at'+i) 0>191
   ·rw[ak (by rw[bN];exact c3),aj (by omega)]
   ·rw[aj (by rw[bN];exact c3),wrap_i64 (by omega) (by omega),ak (by omega)]
 ·rw[ak (by rw[bN];omega),aj (by omega)]
theorem Y9{bs:List Int}(h:dN bs)(i:Nat) : -1<=more bs i/\more bs i<=63:=by
 unfold more
 split<;>omega
theorem Em{bs:List Int}(h:dN bs)(k:Nat):dN (bs.drop k):=λb hb=>h b (List.mem_of_mem_drop hb)
theorem amc{n:Nat}{bs:List Int}(h:dN bs){at':Nat}(hb:bs.length<=1048576)(ha:at'<bs.length):GH n bs (at':Int)=some ((utf (bs.drop at')).1,(utf (bs.drop at')).2,()):=by
 have r:=za h at'
 have e:IntKind.i64.wrap (bs.getD at' 0)=bs.getD at' 0:=wrap_i64 (by omega) (by omega)
 have q1:IntKind.i64.wrap ((at':Int)+1)=((at'+1:Nat):Int):=kY ha (by omega)
 have q2:IntKind.i64.wrap ((at':Int)+2)=((at'+2:Nat):Int):=by rw[wrap_i64 (by omega) (by omega)];omega
 have m1:=Y9 (Em h at') 1
 have m2:=Y9 (Em h at') 2
 have hd:(bs.drop at').getD 0 0=bs.getD at' 0:=UJ
 unfold GH utf
 simp only[(Eg (i:=at')).2 ha,bQ,kJ,e,q1,q2,YL h hb (show at'+1<=2097152 by omega),YL h hb (show at'+2<=2097152 by omega),bf,YK,hd]
 generalize bs.getD at' 0=b at *
 generalize more (bs.drop at') 1=x at *
 generalize more (bs.drop at') 2=y at *
 by_cases c1:b<128
 ·simp only[c1,cB,bQ]
 simp only[c1,dL,bY,bO]
 by_cases c2:(194<=b/\b<224)/\0<=x
 ·have w1:b>=194:=c2.1.1
  have w2:x>=0:=c2.2
  have w3:IntKind.i64.wrap (IntKind.i64.wrap (IntKind.i64.wrap (b-192)*64)+x)=(b-192)*64+x:=by
   rw[wrap_i64 (x:=b-192) (by omega) (by omega),wrap_i64 (x:=(b-192)*64) (by omega) (by omega),wrap_i64 (by omega) (by omega)]
  simp only[w1,c2.1.2,w2,w3,c2,cB,bQ,and_self]
 rw[aj c2]
 by_cases c3:(224<=b/\b<240)/\0<=x/\0<=y
 ·have w1:b>=194:=by omega
  have w2:¬b<224:=by omega
  have w3:b>=224:=c3.1.1
  have w4:x>=0:=c3.2.1
  have w5:y>=0:=c3.2.2
  have w6:IntKind.i64.wrap (IntKind.i64.wrap (IntKind.i64.wrap (IntKind.i64.wrap (b-224)*4096)+IntKind.i64.wrap (x*64))+y)=(b-224)*4096+x*64+y:=by
   rw[wrap_i64 (x:=b-224) (by omega) (by omega),wrap_i64 (x:=(b-224)*4096) (by omega) (by omega),wrap_i64 (x:=x*64) (by omega) (by omega),wrap_i64 (x:=(b-224)*4096+x*64) (by omega) (by omega),wrap_i64 (by omega) (by omega)]
  by_cases hall:((224<=b/\b<240)/\0<=x/\0<=y)/\2048<=(b-224)*4096+x*64+y/\iP ((b-224)*4096+x*64+y)
  ·rw[ak hall]
   have Mf:(b-224)*4096+x*64+y>=2048:=hall.2.1
   simp only[w1,w2,w3,w4,w5,w6,c3.1.2,Mf,hall.2.2,cB,dL,bY,bO,bQ]
  ·rw[aj hall]
   by_cases c4:(b-224)*4096+x*64+y>=2048
   ·have c5:¬iP ((b-224)*4096+x*64+y):=λz=>hall ⟨c3,c4,z⟩
    simp only[w1,w2,w3,w4,w5,w6,c3.1.2,c4,c5,cB,dL,bY,bO,bQ]
   ·simp only[w1,w2,w3,w4,w5,w6,c3.1.2,c4,cB,dL,bY,bO,bQ]
 ·have hall:¬(((224<=b/\b<240)/\0<=x/\0<=y)/\2048<=(b-224)*4096+x*64+y/\iP ((b-224)*4096+x*64+y)):=λz=>c3 z.1
  rw[aj hall]
  by_cases v1:b>=224
  ·have w2:¬b<224:=by omega
   have w1:b>=194:=by omega
   simp only[w1,w2,v1,cB,dL,bY,bO,bQ]
   by_cases v2:b<240
   ·by_cases v3:x>=0
    ·have v4:¬y>=0:=by omega
     simp only[v2,v3,v4,cB,dL,bY,bO,bQ]
    ·simp only[v2,v3,cB,dL,bY,bO,bQ]
   ·simp only[v2,dL,bY,bO]
  ·have w2:b<224:=by omega
   by_cases w1:b>=194
   ·have w3:¬x>=0:=by omega
    simp only[w1,w2,w3,v1,cB,dL,bY,bO,bQ]
   ·simp only[w1,v1,dL,bY,bO]
theorem QO{bs:List Int}(h:dN bs)(hl:0<bs.length)(hu:(utf bs).2≠0):enc (utf bs).1=bs.take (utf bs).2.toNat/\iP (utf bs).1/\1<=(utf bs).2.toNat/\(utf bs).2.toNat<=bs.length/\(utf bs).2=((utf bs).2.toNat:Int):=by
 have r0:=za h 0
 have hm:∀i,0<=more bs i->i<bs.length/\128<=bs.getD i 0/\bs.getD i 0<=191/\more bs i=bs.getD i 0-128:=by
  intro i hi
  unfold more at hi ⊢
  split at hi
  ·rename_i q
   rw[ak q]
   exact⟨q.1,q.2.1,q.2.2,rfl⟩
  ·omega
 unfold utf at hu ⊢
 split
 ·rename_i c1
  refine⟨?_,by unfold iP;omega,bT 1,hl,rfl⟩
  unfold enc
  rw[ak c1]
  match bs,hl with
  |b :: _,_=>simp
 ·rename_i c1
  rw[aj c1]at hu
  split
  ·rename_i c2
   obtain⟨l1,x1,x2,x3⟩:=hm 1 c2.2
   refine⟨?_,by unfold iP;omega,by show 1<=2;omega,by show 2<=_;omega,rfl⟩
   unfold enc
   rw[aj (by omega),ak (by omega),x3]
   match bs,l1 with
   |b :: x :: _,_=>
    simp only[List.getD_cons_zero,List.getD_cons_succ]at *
    show _=[b,x]
    congr 1
    ·omega
    ·congr 1;omega
  ·rename_i c2
   rw[aj c2]at hu
   split
   ·rename_i c3
    obtain⟨l1,x1,x2,x3⟩:=hm 1 c3.1.2.1
    obtain⟨l2,y1,y2,y3⟩:=hm 2 c3.1.2.2
    refine⟨?_,c3.2.2,by show 1<=3;omega,by show 3<=_;omega,rfl⟩
    have c4:=c3.2.1
    rw[x3,y3]at c4
    unfold enc
    rw[x3,y3,aj (by omega),aj (by omega)]
    match bs,l2 with
    |b :: x :: y :: _,_=>
     simp only[List.getD_cons_zero,List.getD_cons_succ]at *
     show _=[b,x,y]
     congr 1
     ·omega
     ·congr 1
      ·omega
      ·congr 1;omega
   ·rename_i c3
    rw[aj c3]at hu
    exact absurd rfl hu
def iH:Nat->List Int->Option (List Int)
 |0,bs=>if bs=[]then some []else none
 |m+1,bs=>if bs=[]then some []else if(utf bs).2=0 then none else(iH m (bs.drop (utf bs).2.toNat)).map λl=>(utf bs).1 :: l
def kM(out:List Int):Option (List Int)->List Int×Bool
 |some l=>(out++l,true)
 |none=>([],false)
theorem UT{out:List Int}{c:Int}(o:Option (List Int)):kM out (o.map λl=>c :: l)=kM (out++[c]) o:=by
 cases o<;>simp[kM]
theorem aeH{N:Nat}{B:(Int×(List Int)×(List Int)×Unit->Option (List Int×Bool×Unit))->Int×(List Int)×(List Int)×Unit->Option (List Int×Bool×Unit)}
  (hB:∀L v1,B L v1=(if decide ((v1.2.1.length:Int)>(0:Int))=true then((CF N v1.1 v1.2.1).bind λr2=>(if decide (r2.2.1=(0:Int))=true then some (([]:List Int),false,())else(if(v1.2.2.1.length+[r2.1].length)*8<=140737488355328 then(if 0<=r2.2.1/\r2.2.1<=(v1.2.1.length:Int)then L (v1.1,v1.2.1.drop r2.2.1.toNat,v1.2.2.1++[r2.1],())else none)else none)))else some (v1.2.2.1,true,()))) :
  ∀(m k:Nat) (bs out:List Int),dN bs->bs.length<=m->m<k->out.length+m<=1048576->rounds B k (4,bs,out,())=some ((kM out (iH m bs)).1,(kM out (iH m bs)).2,()):=by
 intro m
 induction m with
 |zero=>
  intro k bs out _ hl hk _
  obtain⟨k,rfl⟩:∃j,k=j+1:=⟨k-1,by omega⟩
  have e:bs=[]:=List.length_eq_zero_iff.1 (by omega)
  subst e
  show B (rounds B k) _=_
  rw[hB,aj (by simp)]
  simp[iH,kM]
 |succ m ih=>
  intro k bs out hbs hl hk ho
  obtain⟨k,rfl⟩:∃j,k=j+1:=⟨k-1,by omega⟩
  show B (rounds B k) _=_
  rw[hB]
  by_cases e:bs=[]
  ·subst e
   rw[aj (by simp)]
   simp[iH,kM]
  ·have hpos:0<bs.length:=Ai.2 e
   rw[ak (by rw[bN];show(bs.length:Int)>0;omega)]
   simp only[afZ hbs hpos,bf,iH,e,bO]
   by_cases hu:(utf bs).2=0
   ·rw[decide_eq_true hu,ak rfl,ak hu]
    rfl
   ·obtain⟨_,_,k1,k2,k3⟩:=QO hbs hpos hu
    rw[MH hu,aj (by decide),aj hu,ak (by simp;omega),ak (by omega),UT]
    exact ih k _ _ (Em hbs _) (by rw[GU];omega) (by omega) (by simp;omega)
theorem aeJ{n:Nat}{bs:List Int}(h:dN bs)(hb:bs.length<=1048576)(hn:1048576<n):KV n 4 bs=some ((kM [] (iH bs.length bs)).1,(kM [] (iH bs.length bs)).2,()):=
 aeH (λ_ _=>rfl) bs.length n bs [] h (bT _) (by omega) (by simpa using hb)
theorem aeI{N:Nat}{bs:List Int}(h:dN bs)(hb:bs.length<=1048576){B:(Int×(List Int)×Int×(List Int)×Unit->Option (List Int×Bool×Unit))->Int×(List Int)×Int×(List Int)×Unit->Option (List Int×Bool×Unit)}
  (hB:∀L v1,B L v1=(if decide (v1.2.2.1<(v1.2.1.length:Int))=true then((CQ N v1.1 v1.2.1 v1.2.2.1).bind λr2=>(if decide (r2.2.1=(0:Int))=true then some (([]:List Int),false,())else(if(v1.2.2.2.1.length+[r2.1].length)*8<=140737488355328 then L (v1.1,v1.2.1,IntKind.i64.wrap (v1.2.2.1+r2.2.1),v1.2.2.2.1++[r2.1],())else none)))else some (v1.2.2.2.1,true,()))) :
  ∀(m k at':Nat) (out:List Int),at'<=bs.length->bs.length-at'<=m->m<k->out.length+m<=1048576->rounds B k (4,bs,(at':Int),out,())=some ((kM out (iH m (bs.drop at'))).1,(kM out (iH m (bs.drop at'))).2,()):=by
 intro m
 induction m with
 |zero=>
  intro k at' out ha hl hk _
  obtain⟨k,rfl⟩:∃j,k=j+1:=⟨k-1,by omega⟩
  have e:bs.drop at'=[]:=List.drop_eq_nil_iff.2 (by omega)
  show B (rounds B k) _=_
  rw[hB,e,aj (by rw[bN];show ¬(at':Int)<(bs.length:Int);omega)]
  simp[iH,kM]
 |succ m ih=>
  intro k at' out ha hl hk ho
  obtain⟨k,rfl⟩:∃j,k=j+1:=⟨k-1,by omega⟩
  show B (rounds B k) _=_
  rw[hB]
  by_cases e:at'=bs.length
  ·have e2:bs.drop at'=[]:=List.drop_eq_nil_iff.2 (by omega)
   rw[e2,aj (by rw[bN];show ¬(at':Int)<(bs.length:Int);omega)]
   simp[iH,kM]
  ·have hlt:at'<bs.length:=by omega
   have hne:bs.drop at'≠[]:=λz=>by have:=List.drop_eq_nil_iff.1 z;omega
   have hpos:0<(bs.drop at').length:=Ai.2 hne
   have h1:CQ N 4 bs (at':Int)=some ((utf (bs.drop at')).1,(utf (bs.drop at')).2,()):=by
    unfold CQ
    rw[ak (by decide),amc h hb hlt]
    rfl
   rw[ak (by rw[bN];show(at':Int)<(bs.length:Int);omega)]
   simp only[h1,bf,iH,hne,bO]
   by_cases hu:(utf (bs.drop at')).2=0
   ·rw[decide_eq_true hu,ak rfl,ak hu]
    rfl
   ·obtain⟨_,_,k1,k2,k3⟩:=QO (Em h at') hpos hu
    rw[GU]at k2
    have hw:IntKind.i64.wrap ((at':Int)+(utf (bs.drop at')).2)=((at'+(utf (bs.drop at')).2.toNat:Nat):Int):=by
     rw[wrap_i64 (by omega) (by omega)]
     omega
    rw[MH hu,aj (by decide),aj hu,ak (by simp;omega),UT,hw,uZ]
    exact ih k _ _ (by omega) (by omega) (by omega) (by simp;omega)
theorem amb{n:Nat}{bs:List Int}(h:dN bs)(hb:bs.length<=1048576)(hn:1048576<n):wI n 4 bs=some ((kM [] (iH bs.length bs)).1,(kM [] (iH bs.length bs)).2,()):=by
 have:=aeI (N:=n) h hb (B:=_) (λ_ _=>rfl) bs.length n 0 [] (dY _) (by omega) (by omega) (by simpa using hb)
 rw[u6]at this
 exact this
theorem UD:∀{m:Nat} {bs l:List Int},dN bs->iH m bs=some l->l.flatMap enc=bs/\∀c∈l,iP c
 |0,bs,l,_,h=>by
  unfold iH at h
  split at h
  ·rename_i e;subst e;simp only[aa]at h;subst h;simp
  ·simp at h
 |m+1,bs,l,hB,h=>by
  unfold iH at h
  split at h
  ·rename_i e;subst e;simp only[aa]at h;subst h;simp
  ·rename_i e
   split at h
   ·simp at h
   ·rename_i hu
    cases hd:iH m (bs.drop (utf bs).2.toNat)with
    |none=>rw[hd]at h;simp at h
    |some l'=>
     rw[hd]at h
     simp only[gz,aa]at h
     subst h
     obtain⟨k1,k2,_⟩:=QO hB (Ai.2 e) hu
     obtain⟨g1,g2⟩:=UD (Em hB _) hd
     refine⟨?_,λc hc=>?_⟩
     ·rw[kK,k1,g1,Am]
     ·rcases bH.1 hc with rfl|hc
      ·exact k2
      ·exact g2 c hc
theorem MM(c:Int):(enc c).length<=3:=by
 unfold enc
 split
 ·simp
 ·split<;>simp
theorem afA{n:Nat}{cs:List Int}(h:∀c∈cs,iP c)(hl:cs.length<=1048576)(hn:1048576<n):Gf n 4 cs=some (cs.flatMap enc,()):=by
 have hlen:∀l:List Int,(l.flatMap enc).length<=3*l.length:=by
  intro l
  induction l with
  |nil=>simp
  |cons c l ih=>
   have:=MM c
   simp only[kK,d_,iT]
   omega
 unfold Gf
 refine(pK (λi=>(4,cs,(cs.length:Int),(i:Int),(cs.take i).flatMap enc,())) (λ_=>none) (some (cs.flatMap enc,())) (m:=cs.length) (by simp) (by omega) ?_ ?_).trans (DD (λ_ _ _=>rfl))
 ·intro L i hi _
  have hc:=h _ (nM hi)
  have ht:=hlen (cs.take i)
  rw[uq]at ht
  have hz:=MM cs[i]
  simp only[ou,hi,cB,bQ,ig hi,o9 hi,kY hi (by omega),Dv (n:=n) hc.1.1 hc.1.2,bf]
  have he:(cs.take (i+1)).flatMap enc=(cs.take i).flatMap enc++enc cs[i]:=by
   rw[GX hi,List.flatMap_append,kK,Ah,jJ]
  rw[ak (by omega),he]
 ·intro L _
  simp
end Go.Proofs.YtgppmpedglhhfaaGreatDoor.jY

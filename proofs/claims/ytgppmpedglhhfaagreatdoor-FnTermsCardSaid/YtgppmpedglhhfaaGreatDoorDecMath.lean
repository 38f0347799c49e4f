/- Characters in utf-8: both readers read the same. -/
import Derived.Test.YtgppmpedglhhfaaGreatDoorFtF
set_option linter.unusedVariables false
set_option linter.unusedSimpArgs false
namespace Go.Proofs.YtgppmpedglhhfaaGreatDoor.jC
open Go Ow nL nM
theorem uK{n:Nat}(a b c:Int):lS n a b c=some (decide (b<=a/\a<=c),()):=by
 unfold lS
 by_cases h1:a>=b
 ·by_cases h2:a<=c<;>simp[h1,h2]
 ·simp[h1]
theorem within{n:Nat}(a b c:Int):nJ n a b c=some (decide (b<=a/\a<=c),()):=uK (n:=n) a b c
def iP(c:Int):Prop:=(0<=c/\c<=65535)/\¬(55296<=c/\c<=57343)
instance (c:Int):Decidable (iP c):=by unfold iP;infer_instance
theorem acy{n:Nat}(c:Int):FW n c=some (decide (iP c),()):=by
 unfold FW iP
 simp only[within,aQ]
 by_cases h1:0<=c/\c<=65535<;>by_cases h2:55296<=c/\c<=57343<;>simp[h1,h2]
theorem hasChar{n:Nat}(c:Int):KD n 4 c=some (decide (iP c),()):=by
 unfold KD Qj
 rw[acy]
 by_cases h:iP c<;>simp[h,within]
def more(bs:List Int)(i:Nat):Int:=if i<bs.length/\128<=bs.getD i 0/\bs.getD i 0<=191 then bs.getD i 0-128 else -1
def utf(bs:List Int):Int×Int:=
 if bs.getD 0 0<128 then(bs.getD 0 0,1)else
 if(194<=bs.getD 0 0/\bs.getD 0 0<224)/\0<=more bs 1 then((bs.getD 0 0-192)*64+more bs 1,2)else
 if((224<=bs.getD 0 0/\bs.getD 0 0<240)/\0<=more bs 1/\0<=more bs 2)/\2048<=(bs.getD 0 0-224)*4096+more bs 1*64+more bs 2/\iP ((bs.getD 0 0-224)*4096+more bs 1*64+more bs 2)then((bs.getD 0 0-224)*4096+more bs 1*64+more bs 2,3)else(0,0)
def dD(bs:List Int):Prop:=∀b∈bs,0<=b/\b<256
def enc(c:Int):List Int:=if c<128 then [c]else if c<2048 then [192+c / 64,128+c%64]else [224+c / 4096,128+c / 64%64,128+c%64]
theorem Pt{x:Int}(h0:0<=x)(h1:x<256):IntKind.u8.wrap x=x:=by
 unfold IntKind.wrap
 simp[IntKind.bits,IntKind.signed]
 omega
theorem FC{a b:Int}(h:0<=a):a.tmod b=a%b:=YT h
theorem aiM{a b:Int}(h:0<=a):a.tdiv b=a / b:=YS h
theorem low{n:Nat}{x:Int}(h:0<=x)(h2:x<=65535):zO n x=some (128+x%64,()):=by
 unfold zO
 rw[aj (by omega),FC h,wrap_i64 (by omega) (by omega),Pt (by omega) (by omega)]
theorem GR{n:Nat}{c:Int}(h0:0<=c)(h1:c<=65535):FT n 4 c=some (enc c,()):=by
 have e4:IntKind.i64.wrap (c.tdiv 4096)=c / 4096:=by rw[aiM h0,wrap_i64 (by omega) (by omega)]
 have e1:IntKind.i64.wrap (224+c / 4096)=224+c / 4096:=wrap_i64 (by omega) (by omega)
 have e2:IntKind.i64.wrap (192+c / 64)=192+c / 64:=wrap_i64 (by omega) (by omega)
 have e3:IntKind.i64.wrap (c.tdiv 64)=c / 64:=by rw[aiM h0,wrap_i64 (by omega) (by omega)]
 unfold FT enc
 by_cases c1:c<128
 ·have n1:¬c>=2048:=by omega
  have n2:¬c>=128:=by omega
  simp[c1,n1,n2,Pt h0 (by omega:c<256)]
 ·by_cases c2:c<2048
  ·have n1:¬c>=2048:=by omega
   have n2:c>=128:=by omega
   simp[c1,c2,n1,n2,e3,e2,low h0 h1,Pt (show 0<=192+c / 64 by omega) (by omega)]
  ·have n1:c>=2048:=by omega
   simp[c1,c2,n1,e4,e1,e3,low h0 h1,low (n:=n) (show 0<=c / 64 by omega) (by omega),Pt (show 0<=224+c / 4096 by omega) (by omega)]
theorem AR{bs:List Int}(h:dD bs)(i:Nat):0<=bs.getD i 0/\bs.getD i 0<256:=by
 by_cases hi:i<bs.length
 ·rw[eP,fG hi]
  exact h _ (om hi)
 ·rw[eP,pY (by omega)]
  simp
theorem Ig{i:Nat}{l:Nat}:aZ (i:Int) l=true↔i<l:=by
 unfold aZ
 simp
theorem aoi{n:Nat}{bs:List Int}(h:dD bs)(hl:0<bs.length):FV n 4 bs=some ((utf bs).1,(utf bs).2,()):=by
 have r0:=AR h 0
 have r1:=AR h 1
 have r2:=AR h 2
 have eb:∀a b:List Int,Qh n a b=some (decide (a=b),()):=λ_ _=>rfl
 have t1:bs.take 1=[bs.getD 0 0]:=by
  match bs,hl with
  |b :: _,_=>simp
 have hi0:aZ (0:Int) bs.length=true:=(Ig (i:=0)).2 hl
 have ew:∀i:Nat,IntKind.i64.wrap (bs.getD i 0)=bs.getD i 0:=λi=>by
  have:=AR h i
  exact wrap_i64 (by omega) (by omega)
 have z0:(0:Int).toNat=0:=rfl
 have z1:(1:Int).toNat=1:=rfl
 have z2:(2:Int).toNat=2:=rfl
 have z3:(3:Int).toNat=3:=rfl
 have hw:=ew 0
 generalize hb:bs.getD 0 0=b at *
 generalize hx:bs.getD 1 0=x at *
 generalize hy:bs.getD 2 0=y at *
 have ewx:=ew 1
 have ewy:=ew 2
 rw[hx]at ewx
 rw[hy]at ewy
 have L2:2<=bs.length->aZ (1:Int) bs.length=true/\bs.take 2=[b,x]:=by
  intro h2
  refine⟨(Ig (i:=1)).2 h2,?_⟩
  match bs,h2 with
  |p :: q :: _,_=>simp at hb hx;simp[hb,hx]
 have L3:3<=bs.length->aZ (2:Int) bs.length=true/\bs.take 3=[b,x,y]:=by
  intro h3
  refine⟨(Ig (i:=2)).2 h3,?_⟩
  match bs,h3 with
  |p :: q :: r :: _,_=>simp at hb hx hy;simp[hb,hx,hy]
 unfold FV
 simp only[hi0,bL,within,aQ,z0,hb,hw,z1,z2,z3,hx,hy,ewx,ewy,Int.reduceEq,dm,bY,bP,bI,Int.reduceNe,ne_eq,not_false_eq_true,hasChar,eb]
 by_cases c1:b<128
 ·have w1:¬(192<=b/\b<=223):=by omega
  have w2:¬b>=224:=by omega
  have hu:utf bs=(b,1):=by unfold utf;rw[hb,aj c1]
  have g1:¬(1:Int)>(bs.length:Int):=by omega
  have g2:(0:Int)<=1/\(1:Int)<=(bs.length:Int):=by omega
  have ec:enc b=[b]:=by unfold enc;rw[aj c1]
  have hc:iP b:=by unfold iP;omega
  simp only[w1,w2,g1,g2,hc,GR r0.1 (by omega:b<=65535),t1,ec,hu,dm,bY,bP,bI,aQ,gI,and_self,bL]
 by_cases c2:192<=b/\b<=223
 ·have w2:¬b>=224:=by omega
  by_cases g1:(2:Int)>(bs.length:Int)
  ·have hu:utf bs=(0,0):=by
    have hm:more bs 1=-1:=by unfold more;rw[ah (by omega)]
    unfold utf
    rw[hb,hm,ah c1,ah (by omega),ah (by omega)]
   simp only[c2,g1,hu,bY,bL,and_self]
  ·obtain⟨l1,l2⟩:=L2 (by omega)
   have g2:(0:Int)<=2/\(2:Int)<=(bs.length:Int):=by omega
   have a1:IntKind.i64.wrap (b.tmod 32*64)=(b%32)*64:=by rw[FC r0.1,wrap_i64 (by omega) (by omega)]
   have a2:IntKind.i64.wrap (b%32*64+x.tmod 64)=b%32*64+x%64:=by rw[FC r1.1,wrap_i64 (by omega) (by omega)]
   have hc:iP (b%32*64+x%64):=by unfold iP;omega
   simp only[c2,g1,g2,l1,a1,a2,hc,GR (show 0<=b%32*64+x%64 by omega) (by omega),l2,dm,bY,bP,bI,aQ,gI,and_self,bL]
   have hm:more bs 1=if 128<=x/\x<=191 then x-128 else -1:=by
    unfold more
    rw[hx]
    by_cases q:128<=x/\x<=191
    ·rw[aj ⟨by omega,q⟩,aj q]
    ·rw[ah (λz=>q z.2),ah q]
   by_cases ok:194<=b/\128<=x/\x<=191
   ·have ee:enc (b%32*64+x%64)=[b,x]:=by
     unfold enc
     rw[ah (by omega),aj (by omega)]
     congr 1
     ·omega
     ·congr 1;omega
    have hu:utf bs=((b-192)*64+(x-128),2):=by
     unfold utf
     rw[hb,hm,aj ok.2,ah c1,aj (by omega)]
    rw[ee,hu]
    simp only[bY,gI,bP,bI,ak,bS,eO]
    omega
   ·have ee:enc (b%32*64+x%64)≠[b,x]:=by
     unfold enc
     split
     ·simp
     ·rw[aj (by omega)]
      simp only[ne_eq,gW,eO]
      omega
    have hu:utf bs=(0,0):=by
     unfold utf
     rw[hb,hm,ah c1,ah (by split<;>omega),ah (by omega)]
    rw[hu,RY ee]
    simp only[kr,bL]
 by_cases c3:b>=224
 ·by_cases g1:(3:Int)>(bs.length:Int)
  ·have hu:utf bs=(0,0):=by
    have hm:more bs 2=-1:=by unfold more;rw[ah (by omega)]
    unfold utf
    rw[hb,hm,ah c1,ah (by omega),ah (by omega)]
   simp only[c2,c3,g1,hu,dm,bP,bI,bY,bL]
  ·obtain⟨l1,_⟩:=L2 (by omega)
   obtain⟨l2,l3⟩:=L3 (by omega)
   have g2:(0:Int)<=3/\(3:Int)<=(bs.length:Int):=by omega
   have a1:IntKind.i64.wrap (b.tmod 16*4096)=b%16*4096:=by rw[FC r0.1,wrap_i64 (by omega) (by omega)]
   have a2:IntKind.i64.wrap (x.tmod 64*64)=x%64*64:=by rw[FC r1.1,wrap_i64 (by omega) (by omega)]
   have a3:IntKind.i64.wrap (b%16*4096+x%64*64)=b%16*4096+x%64*64:=wrap_i64 (by omega) (by omega)
   have a4:IntKind.i64.wrap (b%16*4096+x%64*64+y.tmod 64)=b%16*4096+x%64*64+y%64:=by rw[FC r2.1,wrap_i64 (by omega) (by omega)]
   have hm:∀i z,bs.getD i 0=z->i<bs.length->more bs i=if 128<=z/\z<=191 then z-128 else -1:=by
    intro i z hz hi
    unfold more
    rw[hz]
    by_cases q:128<=z/\z<=191
    ·rw[aj ⟨hi,q⟩,aj q]
    ·rw[ah (λz=>q z.2),ah q]
   have hm1:=hm 1 x hx (by omega)
   have hm2:=hm 2 y hy (by omega)
   simp only[c2,c3,g1,g2,l1,l2,a1,a2,a3,a4,GR (show 0<=b%16*4096+x%64*64+y%64 by omega) (by omega),l3,dm,bY,bP,bI,aQ,and_self,bL]
   by_cases ok:(b<240/\(128<=x/\x<=191)/\(128<=y/\y<=191))/\2048<=b%16*4096+x%64*64+y%64/\iP (b%16*4096+x%64*64+y%64)
   ·have ev:(b-224)*4096+(x-128)*64+(y-128)=b%16*4096+x%64*64+y%64:=by omega
    have ee:enc (b%16*4096+x%64*64+y%64)=[b,x,y]:=by
     unfold enc
     rw[ah (by omega),ah (by omega)]
     congr 1
     ·omega
     ·congr 1
      ·omega
      ·congr 1;omega
    have hu:utf bs=(b%16*4096+x%64*64+y%64,3):=by
     unfold utf
     rw[hb,hm1,hm2,aj ok.1.2.1,aj ok.1.2.2,ah c1,ah (by omega),ev,aj ⟨⟨by omega,by omega,by omega⟩,ok.2⟩]
    rw[ee,hu]
    simp only[ok.2.2,bY,gI,bP,bI]
   ·have hu:utf bs=(0,0):=by
     unfold utf
     rw[hb,hm1,hm2,ah c1,ah (by omega),ah]
     rintro⟨⟨q1,q2,q3⟩,q4,q5⟩
     have p1:128<=x/\x<=191:=by
      refine j6 λh=>?_
      rw[ah h]at q2;omega
     have p2:128<=y/\y<=191:=by
      refine j6 λh=>?_
      rw[ah h]at q3;omega
     rw[aj p1,aj p2]at q4 q5
     have ev:(b-224)*4096+(x-128)*64+(y-128)=b%16*4096+x%64*64+y%64:=by omega
     rw[ev]at q4 q5
     exact ok ⟨⟨q1.2,p1,p2⟩,q4,q5⟩
    rw[hu]
    by_cases hc:iP (b%16*4096+x%64*64+y%64)
    ·have ee:enc (b%16*4096+x%64*64+y%64)≠[b,x,y]:=by
      unfold enc
      split
      ·simp
      ·split
       ·simp
       ·simp only[ne_eq,gW,eO]
        rintro⟨h1,h2,h3⟩
        exact ok ⟨⟨by omega,by omega,by omega⟩,by omega,hc⟩
     simp only[hc,RY ee,bY,gI,kr,bP,bI,bL]
    ·simp only[hc,dm,kr,bL]
 ·
  have g1:¬(1:Int)>(bs.length:Int):=by omega
  have g2:(0:Int)<=1/\(1:Int)<=(bs.length:Int):=by omega
  have ec:enc b≠[b]:=by
   unfold enc
   rw[ah c1]
   split<;>simp
  have hc:iP b:=by unfold iP;omega
  have hu:utf bs=(0,0):=by
   unfold utf
   rw[hb,ah c1,ah (by omega),ah (by omega)]
  simp only[c2,c3,g1,g2,hc,GR r0.1 (by omega:b<=65535),t1,ec,hu,dm,bY,bP,bI,aQ,gI,kr,and_self,bL]
theorem agF{n:Nat}(c:Int):xX n c=some (decide (iP c),()):=by
 unfold xX iP
 simp only[uK,aQ]
 by_cases h1:0<=c/\c<=55295
 ·simp[h1];omega
 ·simp only[h1,dm,bP,bI]
  congr 2
  exact uA.2 (by omega)
theorem aaE{bs:List Int}{at' i:Nat}:(bs.drop at').getD i 0=bs.getD (at'+i) 0:=by
 simp[eP,CG]
theorem agG{n:Nat}{bs:List Int}(h:dD bs){at' i:Nat}(hb:bs.length<=1048576)(hi:at'+i<=2097152):zX n bs ((at'+i:Nat):Int)=some (more (bs.drop at') i,()):=by
 have r:=AR h (at'+i)
 unfold zX more
 rw[aaE,K9]
 by_cases c1:at'+i<bs.length
 ·have e:IntKind.i64.wrap (bs.getD (at'+i) 0)=bs.getD (at'+i) 0:=wrap_i64 (by omega) (by omega)
  rw[ah (by rw[bF];omega)]
  simp only[(Ig (i:=at'+i)).2 c1,bL,iw,e]
  by_cases c2:bs.getD (at'+i) 0<128
  ·rw[aj (by rw[bF];exact c2),ah (by omega)]
  ·rw[ah (by rw[bF];exact c2)]
   by_cases c3:bs.getD (at'+i) 0>191
   ·rw[aj (by rw[bF];exact c3),ah (by omega)]
   ·rw[ah (by rw[bF];exact c3),wrap_i64 (by omega) (by omega),aj (by omega)]
 ·rw[aj (by rw[bF];omega),ah (by omega)]
theorem ag3{bs:List Int}(h:dD bs)(i:Nat) : -1<=more bs i/\more bs i<=63:=by
 unfold more
 split<;>omega
theorem Ik{bs:List Int}(h:dD bs)(k:Nat):dD (bs.drop k):=λb hb=>h b (List.mem_of_mem_drop hb)
theorem av_{n:Nat}{bs:List Int}(h:dD bs){at':Nat}(hb:bs.length<=1048576)(ha:at'<bs.length):KW n bs (at':Int)=some ((utf (bs.drop at')).1,(utf (bs.drop at')).2,()):=by
 have r:=AR h at'
 have e:IntKind.i64.wrap (bs.getD at' 0)=bs.getD at' 0:=wrap_i64 (by omega) (by omega)
 have q1:IntKind.i64.wrap ((at':Int)+1)=((at'+1:Nat):Int):=mR ha (by omega)
 have q2:IntKind.i64.wrap ((at':Int)+2)=((at'+2:Nat):Int):=by rw[wrap_i64 (by omega) (by omega)];omega
 have m1:=ag3 (Ik h at') 1
 have m2:=ag3 (Ik h at') 2
 have hd:(bs.drop at').getD 0 0=bs.getD at' 0:=aaE
 unfold KW utf
 simp only[(Ig (i:=at')).2 ha,bL,iw,e,q1,q2,agG h hb (show at'+1<=2097152 by omega),agG h hb (show at'+2<=2097152 by omega),aQ,agF,hd]
 generalize bs.getD at' 0=b at *
 generalize more (bs.drop at') 1=x at *
 generalize more (bs.drop at') 2=y at *
 by_cases c1:b<128
 ·simp only[c1,bY,bL]
 simp only[c1,dm,bP,bI]
 by_cases c2:(194<=b/\b<224)/\0<=x
 ·have w1:b>=194:=c2.1.1
  have w2:x>=0:=c2.2
  have w3:IntKind.i64.wrap (IntKind.i64.wrap (IntKind.i64.wrap (b-192)*64)+x)=(b-192)*64+x:=by
   rw[wrap_i64 (x:=b-192) (by omega) (by omega),wrap_i64 (x:=(b-192)*64) (by omega) (by omega),wrap_i64 (by omega) (by omega)]
  simp only[w1,c2.1.2,w2,w3,c2,bY,bL,and_self]
 rw[ah c2]
 by_cases c3:(224<=b/\b<240)/\0<=x/\0<=y
 ·have w1:b>=194:=by omega
  have w2:¬b<224:=by omega
  have w3:b>=224:=c3.1.1
  have w4:x>=0:=c3.2.1
  have w5:y>=0:=c3.2.2
  have w6:IntKind.i64.wrap (IntKind.i64.wrap (IntKind.i64.wrap (IntKind.i64.wrap (b-224)*4096)+IntKind.i64.wrap (x*64))+y)=(b-224)*4096+x*64+y:=by
   rw[wrap_i64 (x:=b-224) (by omega) (by omega),wrap_i64 (x:=(b-224)*4096) (by omega) (by omega),wrap_i64 (x:=x*64) (by omega) (by omega),wrap_i64 (x:=(b-224)*4096+x*64) (by omega) (by omega),wrap_i64 (by omega) (by omega)]
  by_cases hall:((224<=b/\b<240)/\0<=x/\0<=y)/\2048<=(b-224)*4096+x*64+y/\iP ((b-224)*4096+x*64+y)
  ·rw[aj hall]
   have Rt:(b-224)*4096+x*64+y>=2048:=hall.2.1
   simp only[w1,w2,w3,w4,w5,w6,c3.1.2,Rt,hall.2.2,bY,dm,bP,bI,bL]
  ·rw[ah hall]
   by_cases c4:(b-224)*4096+x*64+y>=2048
   ·have c5:¬iP ((b-224)*4096+x*64+y):=λz=>hall ⟨c3,c4,z⟩
    simp only[w1,w2,w3,w4,w5,w6,c3.1.2,c4,c5,bY,dm,bP,bI,bL]
   ·simp only[w1,w2,w3,w4,w5,w6,c3.1.2,c4,bY,dm,bP,bI,bL]
 ·have hall:¬(((224<=b/\b<240)/\0<=x/\0<=y)/\2048<=(b-224)*4096+x*64+y/\iP ((b-224)*4096+x*64+y)):=λz=>c3 z.1
  rw[ah hall]
  by_cases v1:b>=224
  ·have w2:¬b<224:=by omega
   have w1:b>=194:=by omega
   simp only[w1,w2,v1,bY,dm,bP,bI,bL]
   by_cases v2:b<240
   ·by_cases v3:x>=0
    ·have v4:¬y>=0:=by omega
     simp only[v2,v3,v4,bY,dm,bP,bI,bL]
    ·simp only[v2,v3,bY,dm,bP,bI,bL]
   ·simp only[v2,dm,bP,bI]
  ·have w2:b<224:=by omega
   by_cases w1:b>=194
   ·have w3:¬x>=0:=by omega
    simp only[w1,w2,w3,v1,bY,dm,bP,bI,bL]
   ·simp only[w1,v1,dm,bP,bI]
theorem Xv{bs:List Int}(h:dD bs)(hl:0<bs.length)(hu:(utf bs).2≠0):enc (utf bs).1=bs.take (utf bs).2.toNat/\iP (utf bs).1/\1<=(utf bs).2.toNat/\(utf bs).2.toNat<=bs.length/\(utf bs).2=((utf bs).2.toNat:Int):=by
 have r0:=AR h 0
 have hm:∀i,0<=more bs i->i<bs.length/\128<=bs.getD i 0/\bs.getD i 0<=191/\more bs i=bs.getD i 0-128:=by
  intro i hi
  unfold more at hi ⊢
  split at hi
  ·rename_i q
   rw[aj q]
   exact⟨q.1,q.2.1,q.2.2,rfl⟩
  ·omega
 unfold utf at hu ⊢
 split
 ·rename_i c1
  refine⟨?_,by unfold iP;omega,bZ 1,hl,rfl⟩
  unfold enc
  rw[aj c1]
  match bs,hl with
  |b :: _,_=>simp
 ·rename_i c1
  rw[ah c1]at hu
  split
  ·rename_i c2
   obtain⟨l1,x1,x2,x3⟩:=hm 1 c2.2
   refine⟨?_,by unfold iP;omega,by show 1<=2;omega,by show 2<=_;omega,rfl⟩
   unfold enc
   rw[ah (by omega),aj (by omega),x3]
   match bs,l1 with
   |b :: x :: _,_=>
    simp only[List.getD_cons_zero,List.getD_cons_succ]at *
    show _=[b,x]
    congr 1
    ·omega
    ·congr 1;omega
  ·rename_i c2
   rw[ah c2]at hu
   split
   ·rename_i c3
    obtain⟨l1,x1,x2,x3⟩:=hm 1 c3.1.2.1
    obtain⟨l2,y1,y2,y3⟩:=hm 2 c3.1.2.2
    refine⟨?_,c3.2.2,by show 1<=3;omega,by show 3<=_;omega,rfl⟩
    have c4:=c3.2.1
    rw[x3,y3]at c4
    unfold enc
    rw[x3,y3,ah (by omega),ah (by omega)]
    match bs,l2 with
    |b :: x :: y :: _,_=>
     simp only[List.getD_cons_zero,List.getD_cons_succ]at *
     show _=[b,x,y]
     congr 1
     ·omega
     ·congr 1
      ·omega
      ·congr 1;omega
   ·rename_i c3
    rw[ah c3]at hu
    exact absurd rfl hu
def iG:Nat->List Int->Option (List Int)
 |0,bs=>if bs=[]then some []else none
 |m+1,bs=>if bs=[]then some []else if(utf bs).2=0 then none else(iG m (bs.drop (utf bs).2.toNat)).map λl=>(utf bs).1 :: l
def lF(out:List Int):Option (List Int)->List Int×Bool
 |some l=>(out++l,true)
 |none=>([],false)
theorem aaL{out:List Int}{c:Int}(o:Option (List Int)):lF out (o.map λl=>c :: l)=lF (out++[c]) o:=by
 cases o<;>simp[lF]
theorem amX{N:Nat}{B:(Int×(List Int)×(List Int)×Unit->Option (List Int×Bool×Unit))->Int×(List Int)×(List Int)×Unit->Option (List Int×Bool×Unit)}
  (hB:∀L v1,B L v1=(if decide ((v1.2.1.length:Int)>(0:Int))=true then((FV N v1.1 v1.2.1).bind λr2=>(if decide (r2.2.1=(0:Int))=true then some (([]:List Int),false,())else(if(v1.2.2.1.length+[r2.1].length)*8<=140737488355328 then(if 0<=r2.2.1/\r2.2.1<=(v1.2.1.length:Int)then L (v1.1,v1.2.1.drop r2.2.1.toNat,v1.2.2.1++[r2.1],())else none)else none)))else some (v1.2.2.1,true,()))) :
  ∀(m k:Nat) (bs out:List Int),dD bs->bs.length<=m->m<k->out.length+m<=1048576->rounds B k (4,bs,out,())=some ((lF out (iG m bs)).1,(lF out (iG m bs)).2,()):=by
 intro m
 induction m with
 |zero=>
  intro k bs out _ hl hk _
  obtain⟨k,rfl⟩:∃j,k=j+1:=⟨k-1,by omega⟩
  have e:bs=[]:=List.length_eq_zero_iff.1 (by omega)
  subst e
  show B (rounds B k) _=_
  rw[hB,ah (by simp)]
  simp[iG,lF]
 |succ m ih=>
  intro k bs out hbs hl hk ho
  obtain⟨k,rfl⟩:∃j,k=j+1:=⟨k-1,by omega⟩
  show B (rounds B k) _=_
  rw[hB]
  by_cases e:bs=[]
  ·subst e
   rw[ah (by simp)]
   simp[iG,lF]
  ·have hpos:0<bs.length:=CL.2 e
   rw[aj (by rw[bF];show(bs.length:Int)>0;omega)]
   simp only[aoi hbs hpos,aQ,iG,e,bI]
   by_cases hu:(utf bs).2=0
   ·rw[Dh hu,aj rfl,aj hu]
    rfl
   ·obtain⟨_,_,k1,k2,k3⟩:=Xv hbs hpos hu
    rw[RY hu,ah (by decide),ah hu,aj (by simp;omega),aj (by omega),aaL]
    exact ih k _ _ (Ik hbs _) (by rw[K9];omega) (by omega) (by simp;omega)
theorem amZ{n:Nat}{bs:List Int}(h:dD bs)(hb:bs.length<=1048576)(hn:1048576<n):Qi n 4 bs=some ((lF [] (iG bs.length bs)).1,(lF [] (iG bs.length bs)).2,()):=
 amX (λ_ _=>rfl) bs.length n bs [] h (bZ _) (by omega) (by simpa using hb)
theorem amY{N:Nat}{bs:List Int}(h:dD bs)(hb:bs.length<=1048576){B:(Int×(List Int)×Int×(List Int)×Unit->Option (List Int×Bool×Unit))->Int×(List Int)×Int×(List Int)×Unit->Option (List Int×Bool×Unit)}
  (hB:∀L v1,B L v1=(if decide (v1.2.2.1<(v1.2.1.length:Int))=true then((Ga N v1.1 v1.2.1 v1.2.2.1).bind λr2=>(if decide (r2.2.1=(0:Int))=true then some (([]:List Int),false,())else(if(v1.2.2.2.1.length+[r2.1].length)*8<=140737488355328 then L (v1.1,v1.2.1,IntKind.i64.wrap (v1.2.2.1+r2.2.1),v1.2.2.2.1++[r2.1],())else none)))else some (v1.2.2.2.1,true,()))) :
  ∀(m k at':Nat) (out:List Int),at'<=bs.length->bs.length-at'<=m->m<k->out.length+m<=1048576->rounds B k (4,bs,(at':Int),out,())=some ((lF out (iG m (bs.drop at'))).1,(lF out (iG m (bs.drop at'))).2,()):=by
 intro m
 induction m with
 |zero=>
  intro k at' out ha hl hk _
  obtain⟨k,rfl⟩:∃j,k=j+1:=⟨k-1,by omega⟩
  have e:bs.drop at'=[]:=List.drop_eq_nil_iff.2 (by omega)
  show B (rounds B k) _=_
  rw[hB,e,ah (by rw[bF];show ¬(at':Int)<(bs.length:Int);omega)]
  simp[iG,lF]
 |succ m ih=>
  intro k at' out ha hl hk ho
  obtain⟨k,rfl⟩:∃j,k=j+1:=⟨k-1,by omega⟩
  show B (rounds B k) _=_
  rw[hB]
  by_cases e:at'=bs.length
  ·have e2:bs.drop at'=[]:=List.drop_eq_nil_iff.2 (by omega)
   rw[e2,ah (by rw[bF];show ¬(at':Int)<(bs.length:Int);omega)]
   simp[iG,lF]
  ·have hlt:at'<bs.length:=by omega
   have hne:bs.drop at'≠[]:=λz=>by have:=List.drop_eq_nil_iff.1 z;omega
   have hpos:0<(bs.drop at').length:=CL.2 hne
   have h1:Ga N 4 bs (at':Int)=some ((utf (bs.drop at')).1,(utf (bs.drop at')).2,()):=by
    unfold Ga
    rw[aj (by decide),av_ h hb hlt]
    rfl
   rw[aj (by rw[bF];show(at':Int)<(bs.length:Int);omega)]
   simp only[h1,aQ,iG,hne,bI]
   by_cases hu:(utf (bs.drop at')).2=0
   ·rw[Dh hu,aj rfl,aj hu]
    rfl
   ·obtain⟨_,_,k1,k2,k3⟩:=Xv (Ik h at') hpos hu
    rw[K9]at k2
    have hw:IntKind.i64.wrap ((at':Int)+(utf (bs.drop at')).2)=((at'+(utf (bs.drop at')).2.toNat:Nat):Int):=by
     rw[wrap_i64 (by omega) (by omega)]
     omega
    rw[RY hu,ah (by decide),ah hu,aj (by simp;omega),aaL,hw,wO]
    exact ih k _ _ (by omega) (by omega) (by omega) (by simp;omega)
theorem av9{n:Nat}{bs:List Int}(h:dD bs)(hb:bs.length<=1048576)(hn:1048576<n):xY n 4 bs=some ((lF [] (iG bs.length bs)).1,(lF [] (iG bs.length bs)).2,()):=by
 have:=amY (N:=n) h hb (B:=_) (λ_ _=>rfl) bs.length n 0 [] (dW _) (by omega) (by omega) (by simpa using hb)
 rw[vD]at this
 exact this
theorem aav:∀{m:Nat} {bs l:List Int},dD bs->iG m bs=some l->l.flatMap enc=bs/\∀c∈l,iP c
 |0,bs,l,_,h=>by
  unfold iG at h
  split at h
  ·rename_i e;subst e;simp only[ak]at h;subst h;simp
  ·simp at h
 |m+1,bs,l,hB,h=>by
  unfold iG at h
  split at h
  ·rename_i e;subst e;simp only[ak]at h;subst h;simp
  ·rename_i e
   split at h
   ·simp at h
   ·rename_i hu
    cases hd:iG m (bs.drop (utf bs).2.toNat)with
    |none=>rw[hd]at h;simp at h
    |some l'=>
     rw[hd]at h
     simp only[gq,ak]at h
     subst h
     obtain⟨k1,k2,_⟩:=Xv hB (CL.2 e) hu
     obtain⟨g1,g2⟩:=aav (Ik hB _) hd
     refine⟨?_,λc hc=>?_⟩
     ·rw[kP,k1,g1,Ab]
     ·rcases bM.1 hc with rfl|hc
      ·exact k2
      ·exact g2 c hc
theorem R7(c:Int):(enc c).length<=3:=by
 unfold enc
 split
 ·simp
 ·split<;>simp
theorem anU{n:Nat}{cs:List Int}(h:∀c∈cs,iP c)(hl:cs.length<=1048576)(hn:1048576<n):KJ n 4 cs=some (cs.flatMap enc,()):=by
 have hlen:∀l:List Int,(l.flatMap enc).length<=3*l.length:=by
  intro l
  induction l with
  |nil=>simp
  |cons c l ih=>
   have:=R7 c
   simp only[kP,dI,iy]
   omega
 unfold KJ
 refine(qp (λi=>(4,cs,(cs.length:Int),(i:Int),(cs.take i).flatMap enc,())) (λ_=>none) (some (cs.flatMap enc,())) (m:=cs.length) (by simp) (by omega) ?_ ?_).trans (G6 (λ_ _ _=>rfl))
 ·intro L i hi _
  have hc:=h _ (om hi)
  have ht:=hlen (cs.take i)
  rw[wP]at ht
  have hz:=R7 cs[i]
  simp only[qC,hi,bY,bL,fu hi,uB hi,mR hi (by omega),GR (n:=n) hc.1.1 hc.1.2,aQ]
  have he:(cs.take (i+1)).flatMap enc=(cs.take i).flatMap enc++enc cs[i]:=by
   rw[Gp hi,List.flatMap_append,kP,CF,jf]
  rw[aj (by omega),he]
 ·intro L _
  simp
end Go.Proofs.YtgppmpedglhhfaaGreatDoor.jC

/- A good store stays good behind a right op; all ops one behind the other. -/
import Derived.Test.YtplpeegfeajkkaaGreatDoorOpsMath
namespace Go.Proofs.YtplpeegfeajkkaaGreatDoor.xV
open Go Ow nE nQ oI nS
def rise(ms:List cK):Prop:=ms.Pairwise λa b=>a.1<b.1
structure GB(b:Bx):Prop where
 name:ni b.1
 val:1<=b.2.1/\b.2.1<=999
 next:1<=b.2.2.1/\b.2.2.1<=1000
 few:b.2.2.2.1.length<=6
 each:∀m∈b.2.2.2.1,Co m/\m.1<b.2.2.1
 up:rise b.2.2.2.1
theorem aam{b:Bx}:Cn b↔GB b:=by
 constructor
 ·rintro⟨h1,h2,h3,h4,h5⟩
  refine⟨h1,h2,h3,h4,λm hm=>?_,?_⟩
  ·obtain⟨i,hi,rfl⟩:=qC.1 hm
   have:=h5 i hi
   rw[getD_lt hi]at this
   exact⟨this.1,this.2.2⟩
  ·refine DW.2 λi j hi hj hij=>?_
   obtain⟨k,rfl⟩:∃k,j=i+1+k:=⟨j-(i+1),by omega⟩
   clear hij
   induction k with
   |zero=>
    have:=(h5 (i+1) hj).2.1
    simp only[qo,getD_lt hi,getD_lt hj]at this
    exact this
   |succ k ih=>
    have hk:i+1+k<b.2.2.2.1.length:=by omega
    have:=(h5 (i+1+k+1) hj).2.1
    have hj':i+1+k+1<b.2.2.2.1.length:=by omega
    simp only[qo,getD_lt hk,getD_lt hj']at this
    exact Int.lt_trans (ih hk) this
 ·rintro⟨h1,h2,h3,h4,h5,h6⟩
  refine⟨h1,h2,h3,h4,λi hi=>?_⟩
  have h7:=h5 _ (iC hi)
  rw[getD_lt hi]
  refine⟨h7.1,?_,h7.2⟩
  cases i with
  |zero=>have:=h7.1.1.1;show(0:Int)<_;omega
  |succ i=>
   have hi':i<b.2.2.2.1.length:=by omega
   show(b.2.2.2.1.getD i dM).1<_
   rw[getD_lt hi']
   exact DW.1 h6 i (i+1) hi' hi (by omega)
def apart(bs:List Bx):Prop:=bs.Pairwise λa b=>a.1≠b.1/\a.2.1≠b.2.1
structure GS(s:cu):Prop where
 val:1<=s.1/\s.1<=1000
 few:s.2.1.length<=3
 each:∀b∈s.2.1,GB b/\b.2.1<s.1
 far:apart s.2.1
theorem Sq{s:cu}:uw s↔GS s:=by
 constructor
 ·rintro⟨h1,h2,h3⟩
  refine⟨h1,h2,λb hb=>?_,?_⟩
  ·obtain⟨i,hi,rfl⟩:=qC.1 hb
   have:=h3 i hi
   rw[getD_lt hi]at this
   exact⟨aam.1 this.1,this.2.1⟩
  ·refine DW.2 λi j hi hj hij=>?_
   have:=(h3 j hj).2.2 i hij
   unfold dup at this
   rw[getD_lt hi,getD_lt hj]at this
   exact⟨λh=>this (.inl h),λh=>this (.inr h)⟩
 ·rintro⟨h1,h2,h3,h4⟩
  refine⟨h1,h2,λi hi=>?_⟩
  have h5:=h3 _ (iC hi)
  refine⟨by rw[getD_lt hi];exact aam.2 h5.1,by rw[getD_lt hi];exact h5.2,λj hj=>?_⟩
  unfold dup
  rw[getD_lt hi,getD_lt (show j<s.2.1.length by omega)]
  have:=DW.1 h4 j i (by omega) hi hj
  rintro(h|h)
  ·exact this.1 h
  ·exact this.2 h
theorem Yf{b:Bx}(h:GB b)(p:cK->Bool):GB (b.1,b.2.1,b.2.2.1,b.2.2.2.1.filter p,()):=
 ⟨h.name,h.val,h.next,nC (q8 _ _) h.few,λm hm=>h.each m (eH.1 hm).1,h.up.sublist List.filter_sublist⟩
theorem Yg{b:Bx}{m:cK}(h:GB b)(h1:b.2.2.2.1.length<6)(h2:b.2.2.1<1000)(hm:(0<=m.2.1/\m.2.1<=15)/\(0<=m.2.2.1/\m.2.2.1<=9999)/\m.2.2.2.1.length<=400):GB (om b m):=by
 have hn:=h.next
 refine⟨h.name,h.val,?_,?_,λx hx=>?_,?_⟩
 ·simp only[om];omega
 ·simp only[om,dN,gL];omega
 ·simp only[om,dD,iD]at hx ⊢
  rcases hx with hx|rfl
  ·have:=h.each x hx
   exact⟨this.1,by omega⟩
  ·exact⟨⟨⟨hn.1,by show b.2.2.1<=999;omega⟩,hm⟩,by show b.2.2.1<_;omega⟩
 ·refine QO.2 ⟨h.up,List.pairwise_singleton _ _,λx hx y hy=>?_⟩
  rw[iD]at hy
  subst hy
  exact(h.each x hx).2
theorem ae3{l:List cK}:∀{b:Bx},GB b->(∀m∈l,Co m)->b.2.2.2.1.length+l.length<=6->b.2.2.1+(l.length:Int)<=1000->GB (jW b l)/\(jW b l).1=b.1/\(jW b l).2.1=b.2.1:=by
 induction l with
 |nil=>intro b h _ _ _;exact⟨h,rfl,rfl⟩
 |cons m l ih=>
  intro b h hl h1 h2
  simp only[gF]at h1 h2
  have hm:=hl m (by simp)
  exact ih (b:=om b m) (Yg h (by omega) (by omega) hm.2) (λx hx=>hl x (by simp[hx])) (by simp only[om,dN,gL];omega) (by simp only[om];omega)
theorem H8{s:cu}{i:Nat}{b:Bx}(h:GS s)(hi:i<s.2.1.length)(hb:GB b)(e1:b.1=(s.2.1.getD i dB).1)(e2:b.2.1=(s.2.1.getD i dB).2.1):GS (s.1,s.2.1.set i b,()):=by
 rw[getD_lt hi]at e1 e2
 have hB:=(h.each _ (iC hi)).2
 refine⟨h.val,by simpa using h.few,λx hx=>?_,?_⟩
 ·rcases YI hx with h1|rfl
  ·exact h.each x h1
  ·exact⟨hb,by rw[e2];exact hB⟩
 ·refine DW.2 λj k hj hk hjk=>?_
  simp only[List.length_set]at hj hk
  have:=DW.1 h.far j k hj hk hjk
  simp only[List.getElem_set]
  split
  ·rename_i q;subst q
   split
   ·omega
   ·rw[e1,e2];exact this
  ·split
   ·rename_i q;subst q
    rw[e1,e2];exact this
   ·exact this
theorem atp{a m f:Int}(ha:0<=a/\a<=15)(hf:0<=f/\f<=15):0<=turn a m f/\turn a m f<=15:=by
 obtain⟨x,rfl⟩:∃x:Nat,a=x:=⟨a.toNat,by omega⟩
 obtain⟨y,rfl⟩:∃y:Nat,f=y:=⟨f.toNat,by omega⟩
 have hx:x<16:=by omega
 have hy:y<16:=by omega
 have key:∀x:Fin 16,∀y:Fin 16,(0<=turn (x.val:Int) 2 (y.val:Int)/\turn (x.val:Int) 2 (y.val:Int)<=15)/\(0<=turn (x.val:Int) 3 (y.val:Int)/\turn (x.val:Int) 3 (y.val:Int)<=15):=by decide +kernel
 have k:=key ⟨x,hx⟩ ⟨y,hy⟩
 by_cases m2:m=2
 ·subst m2;exact k.1
 ·by_cases m3:m=3
  ·subst m3;exact k.2
  ·unfold turn
   rw[aC m2,aC m3]
   exact hf
structure RO(o:OpC):Prop where
 kind:1<=o.1/\o.1<=7
 form:vV o=true
 box:ni o.2.1
 to':o.1=5\/o.1=6->ni o.2.2.1
 few:o.2.2.2.1.length<=6
 Vv:tF o.2.2.2.1=true
 mode:o.1=4->1<=o.2.2.2.2.1/\o.2.2.2.2.1<=3
 flags:0<=o.2.2.2.2.2.1/\o.2.2.2.2.2.1<=15
 date:0<=o.2.2.2.2.2.2.1/\o.2.2.2.2.2.2.1<=9999
 data:o.2.2.2.2.2.2.2.1.length<=400
theorem right{o:OpC}(h:lQ o=0):RO o:=by
 unfold lQ at h
 by_cases c1:(!(decide (1<=o.1/\o.1<=7)&&vV o))=true
 ·rw[aj c1]at h;omega
 rw[aC c1]at h
 by_cases c2:(!decide (ni o.2.1)||((decide (o.1=5)||decide (o.1=6)) && !decide (ni o.2.2.1)))=true
 ·rw[aj c2]at h;omega
 rw[aC c2]at h
 by_cases c3:decide ((o.2.2.2.1.length:Int)>6)=true
 ·rw[aj c3]at h;omega
 rw[aC c3]at h
 by_cases c4:(!tF o.2.2.2.1||(decide (o.1=4) && !decide (1<=o.2.2.2.2.1/\o.2.2.2.2.1<=3)) || !decide (0<=o.2.2.2.2.2.1/\o.2.2.2.2.2.1<=15) || !decide (0<=o.2.2.2.2.2.2.1/\o.2.2.2.2.2.2.1<=9999))=true
 ·rw[aj c4]at h;omega
 rw[aC c4]at h
 by_cases c5:decide ((o.2.2.2.2.2.2.2.1.length:Int)>400)=true
 ·rw[aj c5]at h;omega
 have nt:∀{x:Bool},¬(!x)=true->x=true:=λ{x} h=>by cases x<;>simp_all
 have no:∀{x y:Bool},¬(x||y)=true->x=false/\y=false:=λ{x y} h=>by cases x<;>cases y<;>simp_all
 have nd:∀{p:Prop} [Decidable p],(!decide p)=false->p:=λ{p} _ h=>by simpa using h
 have d1:=nt c1
 rw[bB,dW]at d1
 have d2:=no c2
 have d4:=no c4
 have e4:=za.1 d4.1
 have f4:=za.1 e4.1
 refine⟨d1.1,d1.2,nd d2.1,λh=>?_,?_,?_,λh=>?_,nd e4.2,nd d4.2,?_⟩
 ·have h1:(decide (o.1=5)||decide (o.1=6))=true:=by simpa using h
  have:=d2.2
  rw[h1,xO]at this
  exact nd this
 ·rw[dW]at c3;omega
 ·cases hu:tF o.2.2.2.1 with
  |true=>rfl
  |false=>rw[hu]at f4;simp at f4
 ·have h1:=f4.2
  rw[gQ h,xO]at h1
  exact nd h1
 ·rw[dW]at c5;omega
theorem aqy{s:cu}{nm:List Int}(h:¬oZ s nm>=0):∀b∈s.2.1,b.1≠nm:=by
 intro b hb e
 apply h
 unfold oZ
 rw[aj]
 ·omega
 ·exact List.findIdx_lt_length_of_exists ⟨b,hb,by simpa using e⟩
theorem ae5{s:cu}{o:OpC}(h:GS s)(ho:RO o)(h0:(qG s o).2.1=0):GS (qG s o).2.2.1:=by
 unfold qG at h0 ⊢
 by_cases k1:o.1=1
 ·rw[aj k1]at h0 ⊢
  unfold yO at h0 ⊢
  by_cases c1:oZ s o.2.1>=0
  ·rw[aj c1]at h0;simp at h0
  rw[aC c1]at h0 ⊢
  by_cases c2:s.2.1.length=3
  ·rw[aj c2]at h0;simp at h0
  rw[aC c2]at h0 ⊢
  by_cases c3:s.1=1000
  ·rw[aj c3]at h0;simp at h0
  rw[aC c3]
  have hv:=h.val
  have hf:=h.few
  refine⟨⟨by show 1<=s.1+1;omega,by show s.1+1<=1000;omega⟩,by simp only[dN,gL];omega,λb hb=>?_,?_⟩
  ·rcases dD.1 hb with hb|hb
   ·have:=h.each b hb
    exact⟨this.1,by show _<s.1+1;omega⟩
   ·rw[iD]at hb
    subst hb
    exact⟨⟨ho.box,⟨hv.1,by show s.1<=999;omega⟩,⟨Ie _,by show(1:Int)<=1000;omega⟩,fQ _,λm hm=>absurd hm (x9),List.Pairwise.nil⟩,by show s.1<s.1+1;omega⟩
  ·refine QO.2 ⟨h.far,List.pairwise_singleton _ _,λx hx y hy=>?_⟩
   rw[iD]at hy
   subst hy
   have:=(h.each x hx).2
   exact⟨aqy c1 x hx,by show x.2.1≠s.1;omega⟩
 ·rw[aC k1]at h0 ⊢
  rcases yU s o.2.1 with hp|⟨i,hp,hi⟩
  ·rw[hp,aj (by decide)]at h0;simp at h0
  rw[hp,aC (by omega),dA]at h0 ⊢
  have hB:=h.each _ (kP hi dB)
  have hB1:=hB.1
  unfold Ki at h0 ⊢
  by_cases k2:o.1=2
  ·rw[aj k2]
   have hsub:(s.2.1.take i++s.2.1.drop (i+1)).Sublist s.2.1:=by
    have:(s.2.1.take i++s.2.1.drop (i+1)).Sublist (s.2.1.take i++s.2.1.drop i):=QI (by rw[<-tT];exact List.drop_sublist _ _) _
    rwa[DY]at this
   exact⟨h.val,nC hsub.length_le h.few,λb hb=>h.each b (hsub.subset hb),h.far.sublist hsub⟩
  rw[aC k2]at h0 ⊢
  by_cases k3:o.1=3
  ·rw[aj k3]at h0 ⊢
   unfold IG at h0 ⊢
   by_cases c1:(s.2.1.getD i dB).2.2.2.1.length=6
   ·rw[aj c1]at h0;simp at h0
   rw[aC c1]at h0 ⊢
   by_cases c2:(s.2.1.getD i dB).2.2.1=1000
   ·rw[aj c2]at h0;simp at h0
   rw[aC c2]
   have h5:=hB1.few
   have h6:=hB1.next
   exact H8 h hi (Yg hB1 (by omega) (by omega) ⟨ho.flags,ho.date,ho.data⟩) rfl rfl
  rw[aC k3]at h0 ⊢
  by_cases k4:o.1=4
  ·rw[aj k4]
   refine H8 h hi ⟨hB1.name,hB1.val,hB1.next,by simpa[Ck]using hB1.few,λm hm=>?_,?_⟩ rfl rfl
   ·obtain⟨x,hx,rfl⟩:=fP.1 hm
    have:=hB1.each x hx
    unfold kN
    split
    ·exact⟨⟨this.1.1,atp this.1.2.1 ho.flags,this.1.2.2⟩,this.2⟩
    ·exact this
   ·refine List.pairwise_map.2 (hB1.up.imp λ{a b} hab=>?_)
    have e:∀m:cK,(kN o m).1=m.1:=λm=>by unfold kN;split<;>rfl
    rw[e,e]
    exact hab
  rw[aC k4]at h0 ⊢
  by_cases k7:o.1=7
  ·rw[aj k7]
   exact H8 h hi (Yf hB1 _) rfl rfl
  rw[aC k7]at h0 ⊢
  unfold carried at h0 ⊢
  by_cases c1:oZ s o.2.2.1<0
  ·rw[aj c1]at h0;simp at h0
  rw[aC c1]at h0 ⊢
  by_cases c2:o.1=6/\oZ s o.2.2.1=(i:Int)
  ·rw[aj c2]at h0;simp at h0
  rw[aC c2]at h0 ⊢
  rcases yU s o.2.2.1 with hp2|⟨k,hp2,hk⟩
  ·rw[hp2]at c1;exact absurd (by decide) c1
  rw[hp2,dA]at h0 ⊢
  unfold yz at h0 ⊢
  by_cases c3:(s.2.1.getD k dB).2.2.2.1.length+(eT o (s.2.1.getD i dB)).length>6
  ·rw[aj c3]at h0;simp at h0
  rw[aC c3]at h0 ⊢
  by_cases c4:(s.2.1.getD k dB).2.2.1+((eT o (s.2.1.getD i dB)).length:Int)>1000
  ·rw[aj c4]at h0;simp at h0
  rw[aC c4]
  have hK:=h.each _ (kP hk dB)
  obtain⟨g1,g2,g3⟩:=ae3 hK.1 (l:=eT o (s.2.1.getD i dB)) (λm hm=>(hB1.each m (eH.1 hm).1).1) (by omega) (by omega)
  have hs1:=H8 h hk g1 g2 g3
  by_cases k6:o.1=6
  ·simp only[k6,aQ]
   have hne:k≠i:=λe=>c2 ⟨k6,by rw[hp2,e]⟩
   refine H8 (s:=(s.1,s.2.1.set k (jW (s.2.1.getD k dB) (eT o (s.2.1.getD i dB))),())) hs1 (by simpa using hi) (Yf hB1 _) ?_ ?_
   ·rw[nS.getD_set_ne hne];rfl
   ·rw[nS.getD_set_ne hne];rfl
  ·simp only[k6,aZ]
   exact hs1
end Go.Proofs.YtplpeegfeajkkaaGreatDoor.xV

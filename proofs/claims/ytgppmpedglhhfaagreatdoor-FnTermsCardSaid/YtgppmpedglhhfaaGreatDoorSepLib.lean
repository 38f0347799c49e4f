/- Texts cut at a byte. No program in sight. -/
import Derived.Test.YtgppmpedglhhfaaGreatDoorJoinLib
set_option linter.unusedVariables false
set_option linter.unusedSimpArgs false
namespace Go.Proofs.YtgppmpedglhhfaaGreatDoor.sF
open Go Ow nM r_ uo
section
variable {A:Type}
def glue(cur:List A):List (List A)->List (List A)
 | []=>[cur]
 |h :: t=>(cur++h) :: t
theorem L9(cur:List A){l:List (List A)}(h:0<l.length):(glue cur l).length=l.length:=by
 cases l with
 |nil=>simp at h
 |cons a l=>rfl
theorem aoD(a b:List A){l:List (List A)}:glue a (glue b l)=glue (a++b) l:=by
 cases l<;>simp[glue]
theorem aa9{l:List (List A)}(h:0<l.length):glue [] l=l:=by
 cases l with
 |nil=>simp at h
 |cons a l=>rfl
variable [DecidableEq A]
def aX(c:A):List A->List (List A)
 | []=>[[]]
 |x :: r=>if x=c then [] :: aX c r else glue [x] (aX c r)
def gZ(c:A):Nat->List A->List (List A)
 |0,s=>[s]
 |_+1,[]=>[[]]
 |k+1,x :: r=>if x=c then [] :: gZ c k r else glue [x] (gZ c (k+1) r)
theorem qM(c:A)(s:List A):0<(aX c s).length:=by
 cases s with
 |nil=>simp[aX]
 |cons x r=>
  unfold aX
  split
  ·simp
  ·cases aX c r<;>simp[glue]
theorem LV(c:A)(k:Nat)(s:List A):0<(gZ c k s).length:=by
 induction s with
 |nil=>cases k<;>simp[gZ]
 |cons x r ih=>
  cases k with
  |zero=>simp[gZ]
  |succ k=>
   unfold gZ
   split
   ·simp
   ·cases gZ c (k+1) r<;>simp[glue]
theorem Au(c:A)(s:List A):(aX c s).length<=s.length+1:=by
 induction s with
 |nil=>simp[aX]
 |cons x r ih=>
  unfold aX
  split
  ·simp;omega
  ·rw[L9 _ (qM c r)]
   simp;omega
theorem amM{c:A}:∀{k:Nat} {s:List A},(aX c s).length<=k+1->gZ c k s=aX c s:=by
 intro k s
 induction s generalizing k with
 |nil=>intro _;cases k<;>rfl
 |cons x r ih=>
  intro h
  have hp:=qM c r
  by_cases hx:x=c
  ·simp only[aX,hx,bL,iy]at h ⊢
   cases k with
   |zero=>omega
   |succ k=>
    simp only[gZ,bL]
    rw[ih (by omega)]
  ·simp only[aX,hx,bI,L9 _ hp]at h ⊢
   cases k with
   |zero=>
    have:=ih (k:=0) h
    simp only[gZ]at this ⊢
    rw[<-this]
    rfl
   |succ k=>
    simp only[gZ,hx,bI]
    rw[ih h]
theorem amN{c:A}:∀{k:Nat} {s:List A},k+1<(aX c s).length->(gZ c k s).length=k+1:=by
 intro k s
 induction s generalizing k with
 |nil=>intro h;simp[aX]at h
 |cons x r ih=>
  intro h
  cases k with
  |zero=>rfl
  |succ k=>
   by_cases hx:x=c
   ·simp only[aX,hx,bL,iy]at h
    simp only[gZ,hx,bL,iy]
    rw[ih (by omega)]
   ·simp only[aX,hx,bI,L9 _ (qM c r)]at h
    simp only[gZ,hx,bI,L9 _ (LV c (k+1) r)]
    exact ih h
theorem Ar{c:A}{s:List A}(h:∀x∈s,x≠c):aX c s=[s]:=by
 induction s with
 |nil=>rfl
 |cons x r ih=>
  unfold aX
  rw[ah (h x (by simp)),ih (λy hy=>h y (by simp[hy]))]
  rfl
theorem amL{c:A}{s:List A}:∀w∈aX c s,∀x∈w,x∈s/\x≠c:=by
 induction s with
 |nil=>intro w hw x hx;simp[aX]at hw;subst hw;simp at hx
 |cons y r ih=>
  intro w hw x hx
  unfold aX at hw
  split at hw
  ·rcases bM.1 hw with rfl|hw
   ·simp at hx
   ·exact⟨by simp[(ih w hw x hx).1],(ih w hw x hx).2⟩
  ·rename_i hy
   cases hc:aX c r with
   |nil=>have:=qM c r;rw[hc]at this;simp at this
   |cons a l=>
    rw[hc]at hw ih
    simp only[glue,bM,gX,iA]at hw
    rcases hw with rfl|hw
    ·rcases bM.1 hx with rfl|hx
     ·exact⟨by simp,hy⟩
     ·exact⟨by simp[(ih a (by simp) x hx).1],(ih a (by simp) x hx).2⟩
    ·exact⟨by simp[(ih w (by simp[hw]) x hx).1],(ih w (by simp[hw]) x hx).2⟩
theorem LU(c:A)(s:List A):[c].intercalate (aX c s)=s:=by
 induction s with
 |nil=>rfl
 |cons x r ih=>
  unfold aX
  split
  ·rename_i hx
   cases hc:aX c r with
   |nil=>have:=qM c r;rw[hc]at this;simp at this
   |cons a l=>
    rw[hc]at ih
    rw[List.intercalate_cons_cons,ih,hx]
    rfl
  ·cases hc:aX c r with
   |nil=>have:=qM c r;rw[hc]at this;simp at this
   |cons a l=>
    rw[hc]at ih
    cases l with
    |nil=>simp only[glue,List.intercalate_singleton]at ih ⊢;rw[ih];rfl
    |cons b l=>simp only[glue,List.intercalate_cons_cons]at ih ⊢;rw[<-ih];simp
end
theorem awP{A B:Type}(f:A->B)(a:List A)(l:List (List A)):(glue a l).map (List.map f)=glue (a.map f) (l.map (List.map f)):=by
 cases l<;>simp[glue]
theorem amO{A B:Type}[DecidableEq A][DecidableEq B]{f:A->B}{c:A}:∀{k:Nat} {s:List A},(∀x∈s,f x=f c->x=c)->(gZ c k s).map (List.map f)=gZ (f c) k (s.map f):=by
 intro k s
 induction s generalizing k with
 |nil=>intro _;cases k<;>rfl
 |cons x r ih=>
  intro h
  cases k with
  |zero=>rfl
  |succ k=>
   have ih:=λk=>ih (k:=k) (λy hy=>h y (by simp[hy]))
   by_cases hx:x=c
   ·simp only[gZ,hx,bL,jo,List.map_nil,ih]
   ·have hx2:¬f x=f c:=λe=>hx (h x (by simp) e)
    simp only[gZ,hx,bI,hx2,jo,awP,ih,List.map_nil]
theorem index_one(c:UInt8):∀(s:List UInt8),(Lib.index s [c]=-1/\∀x∈s,x≠c)\/∃i:Nat,Lib.index s [c]=i/\i<s.length/\s[i]?=some c/\∀x∈s.take i,x≠c
 | []=>.inl ⟨rfl,by simp⟩
 |b :: l=>by
  unfold Lib.index
  by_cases hb:b=c
  ·refine .inr ⟨0,?_,by simp,by simp[hb],by simp⟩
   rw[aj (by simp[hb])]
   rfl
  ·have hp:¬(List.isPrefixOf [c] (b :: l))=true:=by simp;exact λe=>hb e.symm
   rw[ah hp]
   rcases index_one c l with⟨h1,h2⟩|⟨i,h1,h2,h3,h4⟩
   ·refine .inl ⟨by rw[h1];rfl,?_⟩
    intro x hx
    rcases bM.1 hx with rfl|hx
    ·exact hb
    ·exact h2 x hx
   ·refine .inr ⟨i+1,?_,by simpa using h2,by simpa using h3,?_⟩
    ·rw[h1,ah (by simp)]
     rfl
    ·intro x hx
     rw[List.take_succ_cons]at hx
     rcases bM.1 hx with rfl|hx
     ·exact hb
     ·exact h4 x hx
theorem ayk(c:UInt8):∀(k:Nat) (s:List UInt8),Lib.splitK [c] 0 k s=gZ c k s:=by
 intro k s
 induction s generalizing k with
 |nil=>
  cases k with
  |zero=>rfl
  |succ k=>rfl
 |cons x r ih=>
  cases k with
  |zero=>rfl
  |succ k=>
   unfold Lib.splitK
   by_cases hx:x=c
   ·subst hx
    have e:Lib.index (x :: r) [x]=0:=by unfold Lib.index;rw[aj (by simp)]
    rw[e,ah (by decide),gZ,aj rfl]
    simp[ih]
   ·have hp:¬(List.isPrefixOf [c] (x :: r))=true:=by simp;exact λe=>hx e.symm
    have e:Lib.index (x :: r) [c]=if Lib.index r [c] == -1 then -1 else Lib.index r [c]+1:=by
     conv=>lhs;unfold Lib.index
     rw[ah hp]
    have h1:=ih (k+1)
    unfold Lib.splitK at h1
    rw[gZ,ah hx,<-h1,e]
    rcases index_one c r with⟨h2,_⟩|⟨i,h2,_⟩
    ·rw[h2]
     rfl
    ·have n1:¬((i:Int) == -1)=true:=by simp
     have n2:¬((i:Int)+1 == -1)=true:=by simp;omega
     rw[h2,ah n1,ah n2,ah n1]
     have t1:((i:Int)+1).toNat=i+1:=by omega
     simp[t1,glue]
theorem amr(B:ByteArray):bytesOf B=ints B.data.toList:=rfl
theorem aiS{x c:Int}(hx:0<=x/\x<256)(hc:0<=c/\c<256)(h:UInt8.ofNat x.toNat=UInt8.ofNat c.toNat):x=c:=by
 have:=congrArg UInt8.toNat h
 rw[UInt8.toNat_ofNat',UInt8.toNat_ofNat']at this
 omega
theorem Kc{s:List Int}{c:Int}{N:Nat}(hs:∀b∈s,0<=b/\b<256)(hc:0<=c/\c<256):aS.iK s [c] N=gZ c (min N (s.length+1)-1) s:=by
 unfold aS.iK
 have e1:(Lib.splitB (iM [c]) 0 (min N (s.length+1)-1) (iM s)).map bytesOf=((Lib.splitB (iM [c]) 0 (min N (s.length+1)-1) (iM s)).map (·.data.toList)).map ints:=by
  rw[Gn]
  rfl
 rw[e1,Lib.splitB_data,C8,C8]
 have e2:u8 [c]=[UInt8.ofNat c.toNat]:=rfl
 rw[e2,ayk]
 unfold u8
 rw[<-amO (f:=λn:Int=>UInt8.ofNat n.toNat) (λx hx h=>aiS (hs x hx) hc h),Gn]
 have key:∀(k:Nat) (s:List Int),(∀b∈s,0<=b/\b<256)->∀w∈gZ c k s,∀b∈w,0<=b/\b<256:=by
  intro k s
  induction s generalizing k with
  |nil=>intro _ w hw b hb;cases k<;>simp[gZ]at hw<;>subst hw<;>simp at hb
  |cons x r ih=>
   intro hs w hw b hb
   have ih:=λk=>ih k (λy hy=>hs y (by simp[hy]))
   cases k with
   |zero=>simp[gZ]at hw;subst hw;exact hs b hb
   |succ k=>
    unfold gZ at hw
    split at hw
    ·rcases bM.1 hw with rfl|hw
     ·simp at hb
     ·exact ih k w hw b hb
    ·have ih:=ih (k+1)
     cases hcn:gZ c (k+1) r with
     |nil=>have:=LV c (k+1) r;rw[hcn]at this;simp at this
     |cons a l=>
      rw[hcn]at hw ih
      simp only[glue,bM,gX,iA]at hw
      rcases hw with rfl|hw
      ·rcases bM.1 hb with rfl|hb
       ·exact hs _ (by simp)
       ·exact ih a (by simp) b hb
      ·exact ih w (by simp[hw]) b hb
 conv=>rhs;rw[<-List.map_id (gZ c (min N (s.length+1)-1) s)]
 refine List.map_congr_left λw hw=>?_
 exact xx (key _ s hs w hw)
theorem Ph{s:List Int}{c:Int}{N:Nat}(hs:∀b∈s,0<=b/\b<256)(hc:0<=c/\c<256)(h:(aX c s).length<=N):aS.iK s [c] N=aX c s:=by
 have h1:=Au c s
 have h2:=qM c s
 rw[Kc hs hc,amM (by omega)]
theorem Xk{s:List Int}{c:Int}{N:Nat}(hs:∀b∈s,0<=b/\b<256)(hc:0<=c/\c<256)(h0:0<N)(h:N<(aX c s).length):(aS.iK s [c] N).length=N:=by
 have h1:=Au c s
 rw[Kc hs hc,amN (by omega)]
 omega
theorem Xi{s:List Int}{c:Int}{N:Int}(hl:s.length<=1048576)(h1:1<=N)(h2:N<=1048576):aS.Fy s [c] N=some (aS.iK s [c] N.toNat,()):=by
 unfold aS.Fy
 rw[aj ⟨hl,by simp,h1,h2⟩]
theorem RS{s:List Int}{c:Int}(hs:∀b∈s,0<=b/\b<256)(hc:0<=c/\c<256):∃a b d,aS.nQ s [c]=(a,b,d)/\((d=false/\a=s/\b=[]/\aX c s=[s])\/(d=true/\s=a++c :: b/\aX c s=a :: aX c b)):=by
 unfold aS.nQ
 rw[C8,C8]
 have e2:u8 [c]=[UInt8.ofNat c.toNat]:=rfl
 have e3:∀l:List UInt8,bytesOf ⟨l.toArray⟩=ints l:=λl=>by unfold bytesOf ints;simp
 rw[e2]
 unfold Lib.cut
 refine⟨_,_,_,rfl,?_⟩
 simp only[e3]
 rcases index_one (UInt8.ofNat c.toNat) (u8 s)with⟨h1,h2⟩|⟨i,h1,h2,h3,h4⟩
 ·rw[h1,ah (by decide)]
  refine .inl ⟨rfl,xx hs,rfl,Ar λx hx e=>?_⟩
  exact h2 (UInt8.ofNat x.toNat) (d_.2 ⟨x,hx,rfl⟩) (by rw[e])
 ·rw[h1,aj (by omega)]
  simp only[iw,iy,iF]
  have hlen:(u8 s).length=s.length:=by simp[u8]
  have hi:i<s.length:=by omega
  have et:ints ((u8 s).take i)=s.take i:=by
   unfold u8;rw[<-List.map_take];exact xx λb hb=>hs b (La hb)
  have ed:ints ((u8 s).drop (i+(0+1)))=s.drop (i+1):=by
   unfold u8;rw[<-List.map_drop];exact xx λb hb=>hs b (List.mem_of_mem_drop hb)
  have ei:s[i]=c:=by
   have:(u8 s)[i]?=some (UInt8.ofNat (s[i]).toNat):=by simp[u8,CJ,fG hi]
   rw[this]at h3
   exact aiS (hs _ (om hi)) hc (kJ h3)
  rw[et,ed]
  have es:s=s.take i++c :: s.drop (i+1):=by
   conv=>lhs;rw[<-Ab i s,x_ hi,ei]
  refine .inr ⟨trivial,es,?_⟩
  have hfree:∀x∈s.take i,x≠c:=λx hx e=>h4 (UInt8.ofNat x.toNat) (by unfold u8;rw[<-List.map_take];exact d_.2 ⟨x,hx,rfl⟩) (by rw[e])
  have gen:∀(a b:List Int),(∀x∈a,x≠c)->aX c (a++c :: b)=a :: aX c b:=by
   intro a b
   induction a with
   |nil=>intro _;simp[aX]
   |cons x a ih=>
    intro h
    rw[gX,aX,ah (h x (by simp)),ih (λy hy=>h y (by simp[hy]))]
    rfl
  conv=>lhs;rw[es]
  exact gen _ _ hfree
theorem aqM{xs:List (List Int)}{c:Int}(hx:∀x∈xs,∀b∈x,0<=b/\b<256)(hc:0<=c/\c<256):ints (Lib.join (xs.map qD.u8) (qD.u8 [c]))=[c].intercalate xs/\(Lib.join (xs.map qD.u8) (qD.u8 [c])).length=([c].intercalate xs).length:=by
 have e0:∀s:List Int,qD.u8 s=u8 s:=λs=>C8 s
 have e1:ints (Lib.join (xs.map qD.u8) (qD.u8 [c]))=[c].intercalate xs:=by
  unfold Lib.join
  induction xs with
  |nil=>rfl
  |cons x xs ih=>
   have ih:=ih λy hy=>hx y (by simp[hy])
   cases xs with
   |nil=>
    simp only[jo,List.map_nil,List.intercalate_singleton,e0]
    exact xx (hx x (by simp))
   |cons y xs=>
    simp only[jo,List.intercalate_cons_cons]at ih ⊢
    have ea:∀a b:List UInt8,ints (a++b)=ints a++ints b:=λa b=>by simp[ints]
    rw[ea,ea,ih,e0,e0,xx (hx x (by simp)),xx (by intro b hb;simp at hb;omega)]
 refine⟨e1,?_⟩
 rw[<-e1]
 simp[ints]
theorem aqK{xs:List (List Int)}{c:Int}(hx:∀x∈xs,∀b∈x,0<=b/\b<256)(hc:0<=c/\c<256)(hl:xs.length<=1048577)(hs:([c].intercalate xs).length<=140737488355328):qD.Bg xs [c]=some ([c].intercalate xs,()):=by
 obtain⟨h1,h2⟩:=aqM hx hc
 unfold qD.Bg qD.joinL
 rw[aj ⟨by omega,by omega⟩]
 have e3:∀l:List UInt8,bytesOf ⟨l.toArray⟩=ints l:=λl=>by unfold bytesOf ints;simp
 rw[e3,h1]
theorem amR{B:((List Int)×Int×Int×Int×(List (List Int))×Unit->Option (List (List Int)×Unit))->(List Int)×Int×Int×Int×(List (List Int))×Unit->Option (List (List Int)×Unit)}{s:List Int}{c:Int}(hl:s.length<=1048576)
  (hB:∀L1 (v1:(List Int)×Int×Int×Int×(List (List Int))×Unit),B L1 v1=(if decide (v1.2.2.2.1<=(v1.1.length:Int))=true then(if decide (v1.2.2.2.1=(v1.1.length:Int))=true then(if 0<=v1.2.2.1/\v1.2.2.1<=v1.2.2.2.1/\v1.2.2.2.1<=(v1.1.length:Int)then(if(v1.2.2.2.2.1.length+[(v1.1.take v1.2.2.2.1.toNat).drop v1.2.2.1.toNat].length)*16<=140737488355328 then L1 (v1.1,v1.2.1,IntKind.i64.wrap (v1.2.2.2.1+(1:Int)),IntKind.i64.wrap (v1.2.2.2.1+(1:Int)),v1.2.2.2.2.1++[(v1.1.take v1.2.2.2.1.toNat).drop v1.2.2.1.toNat],())else none)else none)else(if aZ v1.2.2.2.1 v1.1.length then(if decide ((v1.1.getD v1.2.2.2.1.toNat 0)=v1.2.1)=true then(if 0<=v1.2.2.1/\v1.2.2.1<=v1.2.2.2.1/\v1.2.2.2.1<=(v1.1.length:Int)then(if(v1.2.2.2.2.1.length+[(v1.1.take v1.2.2.2.1.toNat).drop v1.2.2.1.toNat].length)*16<=140737488355328 then L1 (v1.1,v1.2.1,IntKind.i64.wrap (v1.2.2.2.1+(1:Int)),IntKind.i64.wrap (v1.2.2.2.1+(1:Int)),v1.2.2.2.2.1++[(v1.1.take v1.2.2.2.1.toNat).drop v1.2.2.1.toNat],())else none)else none)else L1 (v1.1,v1.2.1,v1.2.2.1,IntKind.i64.wrap (v1.2.2.2.1+(1:Int)),v1.2.2.2.2.1,()))else none))else some (v1.2.2.2.2.1,()))) :
  ∀(m k a i:Nat) (out:List (List Int)),i+m=s.length->a<=i->m+1<k->out.length<=i->rounds B k (s,c,(a:Int),(i:Int),out,())=some (out++glue ((s.take i).drop a) (aX c (s.drop i)),()):=by
 intro m
 induction m with
 |zero=>
  intro k a i out hi ha hk ho
  obtain⟨k,rfl⟩:∃j,k=j+2:=⟨k-2,by omega⟩
  have hi:i=s.length:=by omega
  subst hi
  show B (rounds B (k+1)) _=_
  rw[hB,aj (by simp),aj (by simp),aj (by simp only[];omega),aj (by simp;omega)]
  show B (rounds B k) _=_
  rw[hB,wrap_i64 (by simp only[];omega) (by simp only[];omega),ah (by simp only[bF];omega)]
  simp[aX,glue]
 |succ m ih=>
  intro k a i out hi ha hk ho
  obtain⟨k,rfl⟩:∃j,k=j+1:=⟨k-1,by omega⟩
  have hlt:i<s.length:=by omega
  show B (rounds B k) _=_
  rw[hB,aj (by simp only[bF];omega),ah (by simp only[bF];omega),aj (fu hlt)]
  simp only[uB hlt,bF]
  rw[wrap_i64 (by omega) (by omega),show(i:Int)+1=((i+1:Nat):Int) by omega,x_ hlt]
  by_cases he:s[i]=c
  ·rw[aj he,aj (by omega),aj (by simp;omega),ih k (i+1) (i+1) _ (by omega) (by omega) (by omega) (by simp;omega),aX,aj he]
   have e:(s.take (i+1)).drop (i+1)=[]:=by simp
   rw[e,aa9 (qM _ _)]
   simp[glue]
  ·rw[ah he,ih k a (i+1) _ (by omega) (by omega) (by omega) (by omega),aX,ah he,aoD]
   congr 3
   rw[Gp hlt,List.drop_append_of_le_length (by simp;omega)]
end Go.Proofs.YtgppmpedglhhfaaGreatDoor.sF

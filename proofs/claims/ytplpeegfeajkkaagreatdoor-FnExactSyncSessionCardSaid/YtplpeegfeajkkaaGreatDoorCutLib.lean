/- Functions that cut rows out of a lent slice and give its beginning (Delete, DeleteFunc): over owned rows, from the same over ids. No program in sight. -/
import Derived.Test.YtplpeegfeajkkaaGreatDoorTakeLib
set_option linter.unusedVariables false
set_option linter.unusedSimpArgs false
namespace Go.Proofs.YtplpeegfeajkkaaGreatDoor.nA
open Go Ow
abbrev vv(k0:K)(e:Nat)(kk:K):K:=.st (.pair k0 (.pair (.int .i64) (.pair (.int .i64) (.pair (.sl e kk) .unit))))
abbrev vo(k0:K)(e:Nat):K:=.st (.pair k0 (.pair (.int .i64) (.pair (.int .i64) (.pair (.id e) .unit))))
abbrev TO(k0 kk:K):=El k0×Int×Int×List (El kk)×Unit
abbrev TI(k0:K):=El k0×Int×Int×Nat×Unit
def num{k0 kk:K}(q:TO k0 kk×Nat):TI k0:=(q.1.1,q.1.2.1,q.1.2.2.1,q.2,())
def y9{k0 kk:K}(xs:List (TO k0 kk))(i:Nat):List (El kk):=if i=0 then []else((xs[i-1]?).map λx=>x.2.2.2.1).getD []
def opt{A:Type}(d:A):Option A->A
 |some a=>a
 |none=>d
theorem arq{k0 kk:K}{e t:Nat}{xs:List (TO k0 kk)}{d0:El k0}(h0:∀z tb a,Rw e kk z tb k0 k0 a a [])(l:List (TO k0 kk×Nat))(hl:∀q∈l,q∈xs.zipIdx 1)(m:Nat) :
  Rw e kk true (y9 xs) (.sl t (vv k0 e kk)) (.sl t (vo k0 e)) (l.map (·.1)++List.replicate m (d0,0,0,[],())) (l.map num++List.replicate m (d0,0,0,0,())) (l.map (·.2)):=by
 have h:=IA (t:=t) (k:=vv k0 e kk) (k':=vo k0 e) (e:=e) (kk:=kk) (z:=true) (tb:=y9 xs) (C:=Option (TO k0 kk×Nat)) rfl (l.map some++List.replicate m none)
  (λc=>match c with|some q=>q.1|none=>(d0,0,0,[],())) (λc=>match c with|some q=>num q|none=>(d0,0,0,0,())) (λc=>match c with|some q=>[q.2] | none=>[]) ?_
 ·simp only[q9,MS,List.map_replicate,QM]at h
  have e1:(List.map ((λc=>match c with|some q=>[q.2] | none=>([]:List Nat)) ∘ some) l).flatten=l.map (·.2):=by
   clear h hl
   induction l with
   |nil=>rfl
   |cons a l ih=>simp only[kZ,nO,ih];rfl
  have e2:(List.replicate m ([]:List Nat)).flatten=[]:=by induction m<;>simp_all
  rw[e1,e2,iq]at h
  exact h
 ·intro c hc
  cases c with
  |none=>exact⟨[],[],rfl,h0 ..,[],[],rfl,⟨rfl,rfl,rfl⟩,[],[],rfl,⟨rfl,rfl,rfl⟩,[],[],rfl,⟨rfl,rfl,rfl,rfl,.inr ⟨rfl,rfl,rfl,rfl⟩⟩,rfl⟩
  |some q=>
   have hq:=hl q (by simpa using hc)
   obtain⟨⟨a,b,c,x,u⟩,i⟩:=q
   have h:=UC (m:=λx:TO k0 kk=>x.2.2.2.1) (d:=[]) hq
   refine⟨[],[i],rfl,h0 ..,[],[i],rfl,⟨rfl,rfl,rfl⟩,[],[i],rfl,⟨rfl,rfl,rfl⟩,[i],[],rfl,⟨rfl,rfl,rfl,?_,.inl ⟨h.2,rfl⟩⟩,rfl⟩
   show x=y9 xs i
   unfold y9
   rw[aC h.2]
   exact h.1.symm
theorem ars{k0 kk:K}{e t:Nat}{xs:List (TO k0 kk)}(h0:∀z tb a,Rw e kk z tb k0 k0 a a []) :
  Rw e kk false (y9 xs) (.sl t (vv k0 e kk)) (.sl t (vo k0 e)) xs ((xs.zipIdx 1).map num) ((xs.zipIdx 1).map (·.2)):=by
 have h:=IA (t:=t) (k:=vv k0 e kk) (k':=vo k0 e) (e:=e) (kk:=kk) (z:=false) (tb:=y9 xs) rfl (xs.zipIdx 1) (·.1) num (λq=>[q.2]) ?_
 ·have hz:∀l:List (TO k0 kk×Nat),(l.map λq=>[q.2]).flatten=l.map (·.2):=λl=>by induction l<;>simp_all
  rw[hz]at h
  have e1:(xs.zipIdx 1).map (λq:TO k0 kk×Nat=>q.1)=xs:=J5 xs
  rw[e1]at h
  exact h
 ·rintro⟨⟨a,b,c,x,u⟩,i⟩ hq
  have h:=UC (m:=λx:TO k0 kk=>x.2.2.2.1) (d:=[]) hq
  refine⟨[],[i],rfl,h0 ..,[],[i],rfl,⟨rfl,rfl,rfl⟩,[],[i],rfl,⟨rfl,rfl,rfl⟩,[i],[],rfl,⟨rfl,rfl,rfl,?_,.inl ⟨h.2,rfl⟩⟩,rfl⟩
  show x=y9 xs i
  unfold y9
  rw[aC h.2]
  exact h.1.symm
theorem ZM[Fr]{k0 kk:K}{e t:Nat}{P:Program}{n:Nat}{f:FuncId}{ow wt eG:List TypeId}{rest:List aD}{d0:El k0}
  {F:Nat->Cont (kin (.bO (.sl t (vv k0 e kk)) ow wt :: rest))->Option (Cont (eU [.into 0 []]++gI (.bO (.sl t (vv k0 e kk)) ow wt :: rest)))}
  {F':Nat->Cont (kin (.bO (.sl t (vo k0 e)) ow eG :: rest))->Option (Cont (eU [.into 0 []]++gI (.bO (.sl t (vo k0 e)) ow eG :: rest)))}
  (hrest:jI rest=true) (hown:∀i∈(K.sl t (vv k0 e kk)).tys,ah i ow=true) (hown':∀i∈(K.sl t (vo k0 e)).tys,ah i ow=true) (sP:∀t∈(K.sl e kk).tys,ah t ow=true)
  (hE:∀fr:Fr,@aA fr P n ⟨f,.bO (.sl t (vo k0 e)) ow eG :: rest,[.into 0 []],F'⟩) (hwt:iM eG wt=true) (h0:∀z tb a,Rw e kk z tb k0 k0 a a [])
  (hF:∀(xs:List (TO k0 kk)) c (r:Int) ys out,F n (xs,c)=some (r,ys,out)->∃(l:List (TO k0 kk×Nat)) (m:Nat),l.Sublist (xs.zipIdx 1)/\F' n ((xs.zipIdx 1).map num,c)=some (r,l.map num++List.replicate m (d0,0,0,0,()),out)/\ys=l.map (·.1)++List.replicate m (d0,0,0,[],())) :
  aA P n ⟨f,.bO (.sl t (vv k0 e kk)) ow wt :: rest,[.into 0 []],F⟩:=by
 refine apT (e:=e) (kk:=kk) (F':=F') hrest hown hown' sP hE hwt ?_
 rintro⟨xs,c⟩ ⟨r,ys,out⟩ h
 obtain⟨l,m,h1,h2,rfl⟩:=hF xs c r ys out h
 refine⟨(xs.zipIdx 1).map num,(xs.zipIdx 1).map (·.2),l.map (·.2),y9 xs,_,ars h0,(yS xs).1,(yS xs).2,h2,rfl,arq h0 l (λq hq=>h1.subset hq) m,(yS xs).1.sublist (h1.map _),λa ha=>(h1.map _).subset ha⟩
def vT{A:Type}(d:A)(xs:List A)(i j:Int):Option (Int×List A×Unit):=
 if 0<=i/\i<=j/\j<=(xs.length:Int)then some (((xs.length-(j.toNat-i.toNat):Nat):Int),xs.take i.toNat++xs.drop j.toNat++List.replicate (j.toNat-i.toNat) d,())else none
theorem alr{A:Type}(d:A)(a0:List A)(a1 a2:Int)(h:0<=a1/\a1<=a2/\a2<=(a0.length:Int)) :
  (if 0<=a1/\a1<=a2/\a2<=(a0.length:Int)/\(a0.length:Int)<=(a0.length:Int)then(if decide (a1=a2)=true then some (((a0.length:Nat):Int),a0,())else(if 0<=(0:Int)/\(0:Int)<=a1/\a1<=(a0.length:Int)then(if 0<=a2/\a2<=(a0.length:Int)/\(a0.length:Int)<=(a0.length:Int)then(if a1.toNat<=a2.toNat then(if 0<=(((a1.toNat+((a0.length:Int).toNat-a2.toNat))-0:Nat):Int)/\(((a1.toNat+((a0.length:Int).toNat-a2.toNat))-0:Nat):Int)<=(a0.length:Int)/\((0:Nat):Int)+(a0.length:Int)<=((a0.take a1.toNat++(a0.take ((a0.length:Int).toNat)).drop a2.toNat++a0.drop (a1.toNat+((a0.length:Int).toNat-a2.toNat))).length:Int)then some ((((a1.toNat+((a0.length:Int).toNat-a2.toNat)):Nat):Int),(a0.take a1.toNat++(a0.take ((a0.length:Int).toNat)).drop a2.toNat++a0.drop (a1.toNat+((a0.length:Int).toNat-a2.toNat))).take (0+(((a1.toNat+((a0.length:Int).toNat-a2.toNat))-0:Nat):Int).toNat)++List.replicate ((0+(a0.length:Int).toNat)-(0+(((a1.toNat+((a0.length:Int).toNat-a2.toNat))-0:Nat):Int).toNat)) d++(a0.take a1.toNat++(a0.take ((a0.length:Int).toNat)).drop a2.toNat++a0.drop (a1.toNat+((a0.length:Int).toNat-a2.toNat))).drop (0+(a0.length:Int).toNat),())else none)else none)else none)else none))else none)=vT d a0 a1 a2:=by
 obtain⟨h1,h2,h3⟩:=h
 obtain⟨i,rfl⟩:=Int.eq_ofNat_of_zero_le h1
 obtain⟨j,rfl⟩:=Int.eq_ofNat_of_zero_le (Int.le_trans h1 h2)
 have hij:i<=j:=by omega
 have hj:j<=a0.length:=by omega
 unfold vT
 rw[aj (show 0<=(i:Int)/\(i:Int)<=(j:Int)/\(j:Int)<=(a0.length:Int)/\(a0.length:Int)<=(a0.length:Int)from⟨h1,h2,h3,Ie _⟩),aj (show 0<=(i:Int)/\(i:Int)<=(j:Int)/\(j:Int)<=(a0.length:Int)from⟨h1,h2,h3⟩)]
 by_cases he:i=j
 ·subst he
  simp[hj]
 ·have he':¬((i:Int)=(j:Int)):=by omega
  rw[g_ he',aC qW]
  have hL:(a0.take i++a0.drop j++a0.drop (i+(a0.length-j))).length=a0.length:=by simp;omega
  rw[aj ⟨by omega,by omega,by omega⟩,aj ⟨by omega,by omega,by omega⟩]
  simp only[dA,pY,Nat.sub_zero,nR]
  rw[aj hij,aj ⟨by omega,by omega,by rw[hL];omega⟩]
  have hA:(a0.take i++a0.drop j).length=i+(a0.length-j):=by simp;omega
  rw[show(a0.take i++a0.drop j++a0.drop (i+(a0.length-j))).take (i+(a0.length-j))=a0.take i++a0.drop j by rw[<-hA,List.take_left'] ;rfl]
  rw[Il (Nat.le_of_eq hL),iq]
  have e1:a0.length-(i+(a0.length-j))=j-i:=by omega
  have e2:i+(a0.length-j)=a0.length-(j-i):=by omega
  rw[e1,e2]
theorem als[Fr]{k0 kk:K}{e t:Nat}{P:Program}{n:Nat}{f:FuncId}{ow wt eG:List TypeId}{d0:El k0}
  {FI:Nat->List (TI k0)->Int->Int->Option (Int×List (TI k0)×Unit)}
  (hown:∀i∈(K.sl t (vv k0 e kk)).tys,ah i ow=true) (hown':∀i∈(K.sl t (vo k0 e)).tys,ah i ow=true) (sP:∀t∈(K.sl e kk).tys,ah t ow=true)
  (hE:∀fr:Fr,@aA fr P n ⟨f,[.bO (.sl t (vo k0 e)) ow eG,.val (.int .i64) [],.val (.int .i64) []],[.into 0 []],λn c=>FI n c.1 c.2.1 c.2.2.1⟩) (hwt:iM eG wt=true) (h0:∀z tb a,Rw e kk z tb k0 k0 a a [])
  (hI:∀xs i j,(0<=i/\i<=j/\j<=(xs.length:Int))->FI n xs i j=vT (d0,0,0,0,()) xs i j) :
  aA P n ⟨f,[.bO (.sl t (vv k0 e kk)) ow wt,.val (.int .i64) [],.val (.int .i64) []],[.into 0 []],λ_ c=>vT (A:=TO k0 kk) (d0,0,0,[],()) c.1 c.2.1 c.2.2.1⟩:=by
 refine ZM (d0:=d0) rfl hown hown' sP hE hwt h0 ?_
 rintro xs ⟨i,j,u⟩ r ys out h
 have h:vT (A:=TO k0 kk) (d0,0,0,[],()) xs i j=some (r,ys,out):=h
 by_cases hc:0<=i/\i<=j/\j<=(xs.length:Int)
 ·unfold vT at h
  rw[aj hc]at h
  have h:=jc h
  have ha:=congrArg Prod.fst h
  have hb:=congrArg (λq=>q.2.1) h
  dsimp only at ha hb
  subst ha hb
  clear h
  have hj:Int.toNat i<=Int.toNat j:=Int.toNat_le_toNat hc.2.1
  have hsub:((xs.zipIdx 1).take i.toNat++(xs.zipIdx 1).drop j.toNat).Sublist (xs.zipIdx 1):=by
   have h1:((xs.zipIdx 1).drop j.toNat).Sublist ((xs.zipIdx 1).drop i.toNat):=List.drop_sublist_drop_left _ hj
   have h2:=(List.Sublist.refl ((xs.zipIdx 1).take i.toNat)).append h1
   rwa[DY]at h2
  refine⟨(xs.zipIdx 1).take i.toNat++(xs.zipIdx 1).drop j.toNat,j.toNat-i.toNat,hsub,?_,?_⟩
  ·show FI n ((xs.zipIdx 1).map num) i j=_
   have hl:((xs.zipIdx 1).map (num (k0:=k0) (kk:=kk))).length=xs.length:=by simp
   rw[hI _ i j (by rw[hl];exact hc)]
   unfold vT
   rw[hl,aj hc,q9,List.map_take,List.map_drop]
   rfl
  ·have e1:(xs.zipIdx 1).map (λq:TO k0 kk×Nat=>q.1)=xs:=J5 xs
   rw[q9,List.map_take,List.map_drop,e1]
 ·unfold vT at h
  rw[aC hc]at h
  exact absurd h (by simp)
theorem I6{A R:Type}{p:A->Bool}{d:A}{xs:List A}{r:Nat->R}{fin:R}:∀k i,i+k=xs.length->fJ (λj=>if p (xs.getD j d)=true then some (r j)else none) fin k i=if i+(xs.drop i).findIdx p<xs.length then r (i+(xs.drop i).findIdx p)else fin
 |0,i,h=>by
  have:xs.drop i=[]:=Il (by omega)
  have hn:¬(i<xs.length):=by omega
  simp[fJ,this,hn]
 |k+1,i,h=>by
  have hi:i<xs.length:=by omega
  have ih:=I6 (xs:=xs) (p:=p) (d:=d) (r:=r) (fin:=fin) k (i+1) (by omega)
  have hd:xs.drop i=xs[i] :: xs.drop (i+1):=ML hi
  have hg:xs.getD i d=xs[i]:=by simp[hi]
  unfold fJ
  simp only[hg,hd,List.findIdx_cons]
  cases hp:p xs[i]with
  |true=>simp[hi]
  |false=>
   simp only[bg,aZ,jV,ih]
   rw[show i+1+(xs.drop (i+1)).findIdx p=i+((xs.drop (i+1)).findIdx p+1) by omega]
theorem TW{A C:Type}{p:A->Bool}{q:C->A->Option (Bool×Unit)}{d:A}{xs:List A}{c:C}{n:Nat}{B:(List A×C×Int×Int×Unit->Option (Int×Unit))->List A×C×Int×Int×Unit->Option (Int×Unit)}
  (hB:∀L v,B L v=(if decide (v.2.2.2.1<v.2.2.1)=true then(if aF v.2.2.2.1 v.1.length then((q v.2.1 (v.1.getD v.2.2.2.1.toNat d)).bind λr2=>(if r2.1=true then some (v.2.2.2.1,())else L (v.1,v.2.1,v.2.2.1,IntKind.i64.wrap (v.2.2.2.1+(1:Int)),())))else none)else some ((-1:Int),())))
  (hq:∀x,q c x=some (p x,())) (hb:xs.length<=140737488355328) (hn:xs.length<n) :
  rounds B n (xs,c,(xs.length:Int),(0:Int),())=some (if xs.findIdx p<xs.length then((xs.findIdx p:Nat):Int)else -1,()):=by
 refine(gp (λi=>(xs,c,(xs.length:Int),(i:Int),())) (λj=>if p (xs.getD j d)=true then some (some ((j:Int),()))else none) (some (-1,())) (m:=xs.length) rfl hn ?_ ?_).trans ?_
 ·intro L i hi _
  simp only[hB,eB,hi,bG,aQ,bU hi,dA,dL hi (by omega),hq,aG]
  cases p (xs.getD i d)<;>rfl
 ·intro L _
  simp[hB]
 ·rw[I6 (r:=λj=>some ((j:Int),())) xs.length 0 (by omega)]
  simp only[BA,nR]
  split<;>rfl
theorem R7{us:List Int}{x:Int}{n:Nat}{B:(List Int×Int×Int×Int×Unit->Option (Int×Unit))->List Int×Int×Int×Int×Unit->Option (Int×Unit)}
  (hB:∀L v,B L v=(if decide (v.2.2.2.1<v.2.2.1)=true then(if aF v.2.2.2.1 v.1.length then(if decide (v.2.1=(v.1.getD v.2.2.2.1.toNat (0:Int)))=true then some (v.2.2.2.1,())else L (v.1,v.2.1,v.2.2.1,IntKind.i64.wrap (v.2.2.2.1+(1:Int)),()))else none)else some ((-1:Int),())))
  (hb:us.length<=140737488355328) (hn:us.length<n) :
  (rounds B n (us,x,(us.length:Int),(0:Int),())).bind (λr=>some (decide (r.1>=(0:Int)),()))=some (us.contains x,()):=by
 have h:rounds B n (us,x,(us.length:Int),(0:Int),())=some (if us.findIdx (λy=>decide (x=y))<us.length then((us.findIdx (λy=>decide (x=y)):Nat):Int)else -1,()):=by
  refine(gp (λi=>(us,x,(us.length:Int),(i:Int),())) (λj=>if decide (x=us.getD j 0)=true then some (some ((j:Int),()))else none) (some (-1,())) (m:=us.length) rfl hn ?_ ?_).trans ?_
  ·intro L i hi _
   simp only[hB,eB,hi,bG,aQ,bU hi,dA,dL hi (by omega)]
   split<;>rfl
  ·intro L _
   simp[hB]
  ·rw[I6 (p:=λy=>decide (x=y)) (r:=λj=>some ((j:Int),())) us.length 0 (by omega)]
   simp only[BA,nR]
   split<;>rfl
 rw[h]
 show some (decide ((if us.findIdx (λy=>decide (x=y))<us.length then((us.findIdx (λy=>decide (x=y)):Nat):Int)else -1)>=0),())=_
 congr 2
 by_cases hc:us.findIdx (λy=>decide (x=y))<us.length
 ·rw[aj hc]
  have:=List.findIdx_lt_length.1 hc
  obtain⟨y,hy,e⟩:=this
  have e:x=y:=by simpa using e
  subst e
  rw[gQ (by omega),List.contains_iff_mem.2 hy]
 ·rw[aC hc,g_ (by omega)]
  symm
  rw[Bool.eq_false_iff]
  intro hm
  exact hc (List.findIdx_lt_length.2 ⟨x,List.contains_iff_mem.1 hm,by simp⟩)
def rO{A:Type}(p:A->Bool)(xs:List A)(j:Nat):Nat:=((xs.take j).filter λx=>!p x).length
def shape{A:Type}(p:A->Bool)(d:A)(xs:List A):Nat->List A
 |0=>xs
 |j+1=>if p (xs.getD j d)=true then shape p d xs j else(shape p d xs j).set (rO p xs j) (xs.getD j d)
theorem Uc{A:Type}{p:A->Bool}{xs:List A}{j:Nat}:rO p xs j<=j:=nC (q8 _ _) (by simp;omega)
theorem Oj{A:Type}{p:A->Bool}{d:A}{xs:List A}{j:Nat}(h:j<xs.length):rO p xs (j+1)=if p (xs.getD j d)=true then rO p xs j else rO p xs j+1:=by
 have ht:xs.take (j+1)=xs.take j++[xs[j]]:=by simp
 have hg:xs.getD j d=xs[j]:=by simp[h]
 unfold rO
 rw[ht,xX,dN,hg]
 cases hp:p xs[j]<;>simp[hp]
theorem atd{A:Type}{l:List A}{k:Nat}{a:A}(h:k<l.length):(l.set k a).take (k+1)=l.take k++[a]:=by
 rw[List.take_add_one,List.take_set_of_le (bV _),List.getElem?_set_self h];rfl
theorem U_{A:Type}{p:A->Bool}{d:A}{xs:List A}:∀{j:Nat},j<=xs.length->(shape p d xs j).length=xs.length/\(shape p d xs j).take (rO p xs j)=(xs.take j).filter (λx=>!p x)/\(shape p d xs j).drop j=xs.drop j
 |0,_=>⟨rfl,by simp[rO],rfl⟩
 |j+1,h=>by
  have hj:j<xs.length:=h
  obtain⟨h1,h2,h3⟩:=U_ (p:=p) (d:=d) (xs:=xs) (j:=j) (by omega)
  have hk:=Uc (p:=p) (xs:=xs) (j:=j)
  have hd:(shape p d xs j).drop (j+1)=xs.drop (j+1):=by
   rw[<-tT,<-tT,h3]
  have ht:xs.take (j+1)=xs.take j++[xs[j]]:=by simp
  have hg:xs.getD j d=xs[j]:=by simp[hj]
  unfold shape
  rw[Oj (d:=d) hj,ht,xX,hg]
  cases hp:p xs[j]with
  |true=>simp[hp,h1,h2,hd]
  |false=>
   simp only[bg,aZ,List.length_set]
   refine⟨h1,?_,?_⟩
   ·rw[atd (by omega),h2]
    simp[hp]
   ·rw[List.drop_set_of_lt (by omega),hd]
theorem Va{A:Type}{p:A->Bool}{d:A}{xs:List A}:∀{j:Nat},j<=xs.findIdx p->j<=xs.length->shape p d xs j=xs/\rO p xs j=j
 |0,_,_=>⟨rfl,by simp[rO]⟩
 |j+1,h,hl=>by
  obtain⟨h1,h2⟩:=Va (p:=p) (d:=d) (xs:=xs) (j:=j) (by omega) (by omega)
  have hj:j<xs.length:=hl
  have hg:xs.getD j d=xs[j]:=by simp[hj]
  have hp:p xs[j]=false:=List.not_of_lt_findIdx (by omega)
  refine⟨?_,?_⟩
  ·unfold shape
   rw[hg,hp,aC qW,h1,h2,List.set_getElem_self]
  ·rw[Oj (d:=d) hj,hg,hp,aC qW,h2]
def zW{A:Type}(d:A)(p:A->Bool)(xs:List A):Int×List A×Unit:=
 (((xs.filter λx=>!p x).length:Int),(xs.filter λx=>!p x)++List.replicate (xs.length-(xs.filter λx=>!p x).length) d,())
theorem alu{A C:Type}{p:A->Bool}{q:C->A->Option (Bool×Unit)}{d:A}{xs:List A}{c:C}{n:Nat}{B:(C×Int×Int×List A×Unit->Option (Int×List A×Unit))->C×Int×Int×List A×Unit->Option (Int×List A×Unit)}
  (hB:∀L v2,B L v2=(if decide (v2.2.2.1<(v2.2.2.2.1.length:Int))=true then(if aF v2.2.2.1 v2.2.2.2.1.length then((q v2.1 (v2.2.2.2.1.getD v2.2.2.1.toNat d)).bind λr3=>(if(!r3.1)=true then(if aF v2.2.1 v2.2.2.2.1.length then L (v2.1,IntKind.i64.wrap (v2.2.1+(1:Int)),IntKind.i64.wrap (v2.2.2.1+(1:Int)),v2.2.2.2.1.set v2.2.1.toNat (v2.2.2.2.1.getD v2.2.2.1.toNat d),())else none)else L (v2.1,v2.2.1,IntKind.i64.wrap (v2.2.2.1+(1:Int)),v2.2.2.2.1,())))else none)else(if 0<=v2.2.1/\v2.2.1<=(v2.2.2.2.1.length:Int)/\(v2.2.2.2.1.length:Int)<=(v2.2.2.2.1.length:Int)then(if 0<=(0:Int)/\(0:Int)<=v2.2.1/\v2.2.1<=((v2.2.2.2.1.take v2.2.1.toNat++List.replicate ((v2.2.2.2.1.length:Int).toNat-v2.2.1.toNat) d++v2.2.2.2.1.drop ((v2.2.2.2.1.length:Int).toNat)).length:Int)then some (((v2.2.1.toNat:Nat):Int),v2.2.2.2.1.take v2.2.1.toNat++List.replicate ((v2.2.2.2.1.length:Int).toNat-v2.2.1.toNat) d++v2.2.2.2.1.drop ((v2.2.2.2.1.length:Int).toNat),())else none)else none)))
  (hq:∀x,q c x=some (p x,())) (hb:xs.length<=140737488355328) (hn:xs.length<n) :
  (if decide ((if xs.findIdx p<xs.length then((xs.findIdx p:Nat):Int)else -1)=(-1:Int))=true then some (((xs.length:Nat):Int),xs,())else rounds B n (c,(if xs.findIdx p<xs.length then((xs.findIdx p:Nat):Int)else -1),IntKind.i64.wrap ((if xs.findIdx p<xs.length then((xs.findIdx p:Nat):Int)else -1)+1),xs,()))=some (zW d p xs):=by
 by_cases hf:xs.findIdx p<xs.length
 ·have hk:rO p xs (xs.findIdx p)=xs.findIdx p:=(Va (p:=p) (d:=d) (bV _) (Nat.le_of_lt hf)).2
  have hs:shape p d xs (xs.findIdx p)=xs:=(Va (p:=p) (d:=d) (bV _) (Nat.le_of_lt hf)).1
  have hp:p (xs.getD (xs.findIdx p) d)=true:=by
   have:=List.findIdx_getElem (w:=hf)
   rw[iR,jl hf]
   exact this
  simp only[aj hf]
  rw[g_ (by omega),aC qW,dL hf (by omega)]
  refine(gp (λi=>(c,(rO p xs (xs.findIdx p+1+i):Int),((xs.findIdx p+1+i:Nat):Int),shape p d xs (xs.findIdx p+1+i),())) (λ_=>none) (some (zW d p xs)) (m:=xs.length-(xs.findIdx p+1)) ?_ (by omega) ?_ ?_).trans ?_
  ·rw[ry,Oj (d:=d) hf,aj hp,hk]
   show(_,_,_,xs,())=(_,_,_,(if p (xs.getD (xs.findIdx p) d)=true then shape p d xs (xs.findIdx p)else _),())
   rw[aj hp,hs]
  ·intro L i hi _
   have hj:xs.findIdx p+1+i<xs.length:=by omega
   rw[show xs.findIdx p+1+(i+1)=xs.findIdx p+1+i+1 by omega]
   generalize xs.findIdx p+1+i=j at hj ⊢
   obtain⟨h1,h2,h3⟩:=U_ (p:=p) (d:=d) (xs:=xs) (j:=j) (by omega)
   have hkj:=Uc (p:=p) (xs:=xs) (j:=j)
   have hj':j<(shape p d xs j).length:=by omega
   have hg:(shape p d xs j).getD j d=xs.getD j d:=by
    have:=congrArg (λl:List A=>l[0]?) h3
    simp only[BB,ry]at this
    rw[iR,iR,this]
   simp only[hB,dA,hg,hq,aG]
   rw[gQ (by rw[h1];omega),aj rfl,aj (bU hj'),dL hj (by omega)]
   have hsh:shape p d xs (j+1)=if p (xs.getD j d)=true then shape p d xs j else(shape p d xs j).set (rO p xs j) (xs.getD j d):=rfl
   rw[hsh,Oj (d:=d) hj]
   cases hp:p (xs.getD j d)with
   |true=>rfl
   |false=>
    rw[jf,aj rfl,aj (bU (by omega)),dL (n:=xs.length) (by omega) (by omega)]
    rfl
  ·intro L _
   have e:xs.findIdx p+1+(xs.length-(xs.findIdx p+1))=xs.length:=by omega
   simp only[e]
   obtain⟨h1,h2,h3⟩:=U_ (p:=p) (d:=d) (xs:=xs) (j:=xs.length) (bV _)
   have hkj:=Uc (p:=p) (xs:=xs) (j:=xs.length)
   have hkk:rO p xs xs.length=(xs.filter λx=>!p x).length:=by unfold rO;rw[pY]
   have hdr:(shape p d xs xs.length).drop xs.length=[]:=Il (Nat.le_of_eq h1)
   rw[pY]at h2
   simp only[hB,h1,dA,h2,hdr,iq]
   rw[g_ (by omega),aC qW,aj ⟨by omega,by omega,by omega⟩,aj ⟨by omega,by omega,by simp only[dN,YH];omega⟩]
   rw[hkk];rfl
  ·exact ko (λ_ _ _=>rfl)
 ·simp only[aC hf,bG,aQ]
  have hall:xs.filter (λx=>!p x)=xs:=List.filter_eq_self.2 λx hx=>by
   cases hp:p x with
   |true=>exact absurd (List.findIdx_lt_length.2 ⟨x,hx,hp⟩) hf
   |false=>rfl
  unfold zW
  rw[hall,Iq]
  simp
abbrev kOp(i b:Nat):K:=.st (.pair (.int .i64) (.pair .str (.pair .str (.pair (.sl i (.int .i64)) (.pair (.int .i64) (.pair (.int .i64) (.pair (.int .i64) (.pair (.sl b (.int .u8)) .unit))))))))
abbrev OpC:=Int×List Int×List Int×List Int×Int×Int×Int×List Int×Unit
abbrev MW:=TI (.int .i64)
abbrev MX:=TO (.int .i64) (.int .u8)
def Dm(n:Nat)(xs:List MX)(op:OpC):Option (Int×List MX×Unit):=
 if xs.length<=140737488355328/\xs.length<n/\op.2.2.2.1.length<=140737488355328/\op.2.2.2.1.length<n then some (zW (0,0,0,[],()) (λx=>op.2.2.2.1.contains x.1) xs)else none
theorem alx[Fr]{e t i b cl:Nat}{P:Program}{n:Nat}{f:FuncId}{ow wt eG:List TypeId}
  {FI:Nat->List MW->OpC->Option (Int×List MW×Unit)}
  (hown:∀i∈(K.sl t (vv (.int .i64) e (.int .u8))).tys,ah i ow=true) (hown':∀i∈(K.sl t (vo (.int .i64) e)).tys,ah i ow=true) (sP:∀t∈(K.sl e (.int .u8)).tys,ah t ow=true)
  (hE:∀fr:Fr,@aA fr P n ⟨f,[.bO (.sl t (vo (.int .i64) e)) ow eG,.fn cl [kOp i b]],[.into 0 []],λn c=>FI n c.1 c.2.1⟩) (hwt:iM eG wt=true)
  (hI:∀xs op,xs.length<=140737488355328->xs.length<n->op.2.2.2.1.length<=140737488355328->op.2.2.2.1.length<n->FI n xs op=some (zW (0,0,0,0,()) (λx=>op.2.2.2.1.contains x.1) xs)) :
  aA P n ⟨f,[.bO (.sl t (vv (.int .i64) e (.int .u8))) ow wt,.fn cl [kOp i b]],[.into 0 []],λn c=>Dm n c.1 c.2.1⟩:=by
 refine ZM (d0:=(0:Int)) rfl hown hown' sP hE hwt (λ_ _ _=>⟨rfl,rfl,rfl⟩) ?_
 rintro xs ⟨op,u⟩ r ys out h
 have h:Dm n xs op=some (r,ys,out):=h
 unfold Dm at h
 split at h
 case isFalse=>exact absurd h (by simp)
 case isTrue hc=>
 have h:=jc h
 have ha:=congrArg Prod.fst h
 have hb:=congrArg (λq=>q.2.1) h
 unfold zW at ha hb
 dsimp only at ha hb
 subst ha hb
 clear h
 have e1:(xs.zipIdx 1).map (λq:MX×Nat=>q.1)=xs:=J5 xs
 have e2:xs.filter (λx=>!op.2.2.2.1.contains x.1)=((xs.zipIdx 1).filter λq=>!op.2.2.2.1.contains q.1.1).map (λq:MX×Nat=>q.1):=by
  conv=>lhs;rw[<-e1,zw]
  rfl
 have e3:((xs.zipIdx 1).map num).filter (λx:MW=>!op.2.2.2.1.contains x.1)=((xs.zipIdx 1).filter λq=>!op.2.2.2.1.contains q.1.1).map num:=by
  rw[zw];rfl
 have hl:((xs.zipIdx 1).map (num (k0:=.int .i64) (kk:=.int .u8))).length=xs.length:=by simp
 refine⟨(xs.zipIdx 1).filter λq=>!op.2.2.2.1.contains q.1.1,xs.length-(xs.filter λx=>!op.2.2.2.1.contains x.1).length,List.filter_sublist,?_,?_⟩
 ·show FI n ((xs.zipIdx 1).map num) op=_
  rw[hI _ op (by rw[hl];exact hc.1) (by rw[hl];exact hc.2.1) hc.2.2.1 hc.2.2.2]
  unfold zW
  rw[hl,e3,e2,nP,nP]
  rfl
 ·rw[e2]
end Go.Proofs.YtplpeegfeajkkaaGreatDoor.nA

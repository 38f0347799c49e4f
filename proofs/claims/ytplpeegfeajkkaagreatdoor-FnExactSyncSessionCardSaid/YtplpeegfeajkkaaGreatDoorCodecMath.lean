/- Packing and reading of ops, on both sides. -/
import Derived.Test.YtplpeegfeajkkaaGreatDoorGoodMath
set_option linter.unusedVariables false
set_option linter.unusedSimpArgs false
namespace Go.Proofs.YtplpeegfeajkkaaGreatDoor.tK
open Go Ow nE nQ BH oI nS xV
def dX(l:List Int):Prop:=∀x∈l,0<=x/\x<=255
theorem Fu{l:List Int}(h:dX l)(k:Nat):dX (l.take k):=λx hx=>h x (MU hx)
theorem Fq{l:List Int}(h:dX l)(k:Nat):dX (l.drop k):=λx hx=>h x (List.mem_of_mem_drop hx)
theorem Fp{l m:List Int}(h:dX l)(h':dX m):dX (l++m):=λx hx=>(dD.1 hx).elim (h x) (h' x)
theorem yL{x:Int}{m:List Int}(h:0<=x/\x<=255)(h':dX m):dX (x :: m):=λy hy=>(bW.1 hy).elim (λe=>e▸h) (h' y)
theorem apr(k:Nat):dX (List.replicate k 0):=λx hx=>by rw[(List.mem_replicate.1 hx).2];omega
theorem Og{n:Int}(h0:0<=n)(h1:n<=65535):dX (two n):=yL (by omega) (yL (by omega) (λx hx=>absurd hx (x9)))
theorem CK{l:List Int}(h:dX l)(i:Nat):0<=l.getD i 0/\l.getD i 0<=255:=by
 by_cases hi:i<l.length
 ·rw[getD_lt hi];exact h _ (iC hi)
 ·rw[iR,uO (by omega)]
  exact⟨Ie _,by show(0:Int)<=255;omega⟩
theorem wrap_u8{x:Int}(h1:0<=x)(h2:x<=255):IntKind.u8.wrap x=x:=by
 simp[IntKind.wrap,IntKind.bits,IntKind.signed]
 omega
theorem F8{n:Nat}{x:Int}(h0:0<=x)(h1:x<=65535):zi n x=some (two x,()):=by
 unfold zi two
 rw[Yi h0,Qi h0,wrap_i64 (by omega) (by omega),wrap_u8 (by omega) (by omega),wrap_u8 (by omega) (by omega)]
 rfl
theorem Kw{n:Nat}{x:Int}(h0:0<=x)(h1:x<=65535):Bw n x=some (two x,()):=F8 (n:=n) h0 h1
theorem aew(l:List Int)(x:Int):pR (l++[x])=(pR l*31+x)%65521:=by simp[pR]
theorem Vj:∀(l:List Int),0<=pR l/\pR l<=65520:=λl=>by
 rcases List.eq_nil_or_concat l with rfl|⟨m,x,rfl⟩
 ·exact⟨by decide,by decide⟩
 ·rw[List.concat_eq_append,aew];omega
theorem aey{l:List Int}(h:dX l){i:Nat}(hi:i<l.length):(IntKind.i64.wrap ((IntKind.i64.wrap (pR (l.take i)*(31:Int)))+(IntKind.i64.wrap l[i]))).tmod (65521:Int)=pR (l.take (i+1)):=by
 have h1:=Vj (l.take i)
 have h2:=h _ (iC hi)
 rw[D5 hi,aew,wrap_i64 (x:=pR (l.take i)*31) (by omega) (by omega),wrap_i64 (x:=l[i]) (by omega) (by omega),wrap_i64 (by omega) (by omega),Qi (by omega)]
theorem as1{n:Nat}{l:List Int}(h:dX l)(hb:l.length<=big)(hn:big<n):Le n l=some (pR l,()):=by
 have hb':l.length<=1048576:=hb
 unfold Le
 refine(gp (λi=>(pR (l.take i),l,(l.length:Int),(i:Int),())) (λ_=>none) (some (pR l,())) (m:=l.length) rfl (by omega) ?_ ?_).trans (ko (λ_ _ _=>rfl))
 ·intro L i hi _
  simp only[eB,hi,bG,aQ,bU hi,ku hi,dL hi (by omega),aey h hi]
  rfl
 ·intro L _
  simp
theorem as2{n:Nat}{l:List Int}(h:dX l)(hb:l.length<=big)(hn:big<n):Mt n l=some (pR l,()):=by
 have hb':l.length<=1048576:=hb
 unfold Mt
 refine(gp (λi=>(l,pR (l.take i),(i:Int),())) (λ_=>none) (some (pR l,())) (m:=l.length) rfl (by omega) ?_ ?_).trans (ko (λ_ _ _=>rfl))
 ·intro L i hi _
  simp only[eB,hi,bG,aQ,bU hi,ku hi,dL hi (by omega),aey h hi]
  rfl
 ·intro L _
  simp
theorem Sj{R:Type}{p:Nat->Bool}{r fin:R}(hne:r≠fin):∀{m i:Nat},fJ (λj=>if p j=true then some r else none) fin m i=fin->∀j,i<=j->j<i+m->p j=false
 |0,i,_,j,h1,h2=>by omega
 |m+1,i,h,j,h1,h2=>by
  rw[fJ]at h
  cases hp:p i with
  |true=>rw[hp]at h;exact absurd h hne
  |false=>
   rw[hp]at h
   by_cases e:j=i
   ·rw[e];exact hp
   ·exact Sj hne h j (by omega) (by omega)
theorem Vx{us:List Int}(h:tF us=true):∀u∈us,1<=u/\u<=999:=by
 intro u hu
 obtain⟨j,hj,rfl⟩:=qC.1 hu
 have h1:=F_ us
 rw[h]at h1
 have h2:=Sj (by simp) h1 j (fQ _) (by omega)
 unfold sD at h2
 rw[getD_lt hj]at h2
 have:=(za.1 h2).1
 simpa using this
structure qD(o:OpC):Prop where
 ro:RO o
 data:dX o.2.2.2.2.2.2.2.1
theorem qD.mode{o:OpC}(h:qD o):0<=o.2.2.2.2.1/\o.2.2.2.2.1<=3:=by
 by_cases h4:o.1=4
 ·have:=h.ro.mode h4;omega
 ·have:=h.ro.form
  unfold vV at this
  simp only[bB,oD,dW,h4,false_or]at this
  have:=this.2.2.1
  omega
theorem qD.box{o:OpC}(h:qD o):o.2.1.length<=8/\dX o.2.1:=⟨h.ro.box.1.2,λc hc=>by have:=h.ro.box.2 c hc;omega⟩
theorem qD.to'{o:OpC}(h:qD o):o.2.2.1.length<=8/\dX o.2.2.1:=by
 by_cases h4:o.1=5\/o.1=6
 ·have:=h.ro.to' h4
  exact⟨this.1.2,λc hc=>by have:=this.2 c hc;omega⟩
 ·have h5:o.1≠5:=λe=>h4 (.inl e)
  have h6:o.1≠6:=λe=>h4 (.inr e)
  have:=h.ro.form
  unfold vV at this
  simp only[bB,oD,dW,h5,h6,false_or]at this
  rw[this.1]
  exact⟨fQ _,λx hx=>absurd hx (x9)⟩
theorem apq{us:List Int}(h:∀u∈us,1<=u/\u<=999):dX (us.flatMap two):=λx hx=>by
 obtain⟨u,hu,hx⟩:=jZ.1 hx
 have:=h u hu
 exact Og (by omega) (by omega) x hx
theorem qD.body{o:OpC}(h:qD o):dX (jL o)/\(jL o).length<=500:=by
 have h1:=h.box
 have h2:=h.to'
 have h3:=h.mode
 have h4:=h.ro
 have h5:=h4.kind
 have h6:=h4.few
 have h7:=h4.flags
 have h8:=h4.date
 have h9:=h4.data
 refine⟨?_,by rw[JN];omega⟩
 unfold jL
 exact yL (by omega) (yL (by omega) (Fp h1.2 (yL (by omega) (Fp h2.2 (yL (by omega) (Fp (apq (Vx h4.Vv)) (yL (by omega) (yL (by omega) (Fp (Og h8.1 (by omega)) (Fp (Og (by omega) (by omega)) h.data))))))))))
theorem qD.head{o:OpC}(h:qD o):dX (sQ o)/\(sQ o).length<=502:=by
 have:=h.body
 exact⟨Fp (Og (by omega) (by omega)) this.1,by rw[abP];omega⟩
def qJ(o:OpC):List Int:=o.1 :: (o.2.1.length:Int) :: (o.2.1++(o.2.2.1.length:Int) :: (o.2.2.1++[(o.2.2.2.1.length:Int)]))
def Ng(o:OpC):List Int:=o.2.2.2.2.1 :: o.2.2.2.2.2.1 :: (two o.2.2.2.2.2.2.1++(two (o.2.2.2.2.2.2.2.1.length:Int)++o.2.2.2.2.2.2.2.1))
theorem Zj(o:OpC):jL o=qJ o++(o.2.2.2.1.flatMap two++Ng o):=by simp[jL,qJ,Ng]
theorem aeI(us:List Int){i:Nat}(hi:i<us.length):(us.take (i+1)).flatMap two=(us.take i).flatMap two++two us[i]:=by
 rw[D5 hi,YE,mP,DU,iq]
theorem aqV{n:Nat}{o:OpC}(h:qD o)(hn:big<n):Lc n o=some (h_ o,()):=by
 have h1:=h.box
 have h2:=h.to'
 have h3:=h.mode
 have h4:=h.ro
 have h5:=h4.kind
 have h6:=h4.few
 have h7:=h4.flags
 have h8:=h4.date
 have h9:=h4.data
 have hb:=h.body
 have hh:=h.head
 have hu:=Vx h4.Vv
 have hs:=Vj (sQ o)
 unfold big at hn
 unfold Lc
 rw[wrap_u8 (x:=o.1) (by omega) (by omega),wrap_u8 (x:=(o.2.1.length:Int)) (by omega) (by omega),wrap_u8 (x:=(o.2.2.1.length:Int)) (by omega) (by omega),wrap_u8 (x:=(o.2.2.2.1.length:Int)) (by omega) (by omega)]
 rw[aj (by simp only[dN,gF,kK];omega),aj (by simp only[dN,gF,kK];omega),aj (by simp only[dN,gF,kK];omega),aj (by simp only[dN,gF,kK];omega)]
 have ef:((([o.1,(o.2.1.length:Int)]++o.2.1)++[(o.2.2.1.length:Int)])++o.2.2.1)++[(o.2.2.2.1.length:Int)]=qJ o:=by simp[qJ]
 have lf:(qJ o).length<=100:=by simp only[qJ,dN,gF,kK];omega
 rw[ef]
 refine(gp (λi=>(o.2.2.2.1,(o.2.2.2.1.length:Int),(i:Int),o,qJ o++(o.2.2.2.1.take i).flatMap two,())) (λ_=>none) (some (h_ o,())) (m:=o.2.2.2.1.length) (by simp) (by omega) ?_ ?_).trans (ko (λ_ _ _=>rfl))
 ·intro L i hi _
  have hr:=hu _ (iC hi)
  simp only[eB,hi,bG,aQ,bU hi,ku hi,dL hi (by omega),F8 (n:=n) (show 0<=o.2.2.2.1[i] by omega) (by omega),aG,aeI _ hi,gD]
  rw[aj (by simp only[dN,JP,qP,pX];omega)]
 ·intro L _
  have lb:((qJ o++o.2.2.2.1.flatMap two).length:Nat)<=200:=by simp only[dN,JP];omega
  simp only[qz,cO,bg,aZ,pY]
  rw[aj (by simp only[gF,kK];omega),F8 h8.1 (by omega)]
  simp only[aG]
  rw[aj (by simp only[dN,gF,kK,qP]at lb ⊢;omega)]
  unfold vG
  simp only[aG]
  rw[F8 (by omega) (by omega)]
  simp only[aG]
  rw[aj (by simp only[dN,gF,kK,qP]at lb ⊢;omega),aj (by simp only[dN,gF,kK,qP]at lb ⊢;omega)]
  rw[wrap_u8 (x:=o.2.2.2.2.1) (by omega) (by omega),wrap_u8 (x:=o.2.2.2.2.2.1) (by omega) (by omega)]
  have eb:((((qJ o++o.2.2.2.1.flatMap two)++[o.2.2.2.2.1,o.2.2.2.2.2.1])++two o.2.2.2.2.2.2.1)++two (o.2.2.2.2.2.2.2.1.length:Int))++o.2.2.2.2.2.2.2.1=jL o:=by rw[Zj];simp[Ng]
  rw[eb,wrap_i64 (x:=((jL o).length:Int)+4) (by omega) (by omega),F8 (by omega) (by omega)]
  simp only[aG]
  rw[aj (by rw[qP];omega)]
  have eh:two (((jL o).length:Int)+4)++jL o=sQ o:=rfl
  rw[eh,as1 hh.1 (by unfold big;omega) (by unfold big;omega)]
  simp only[aG]
  rw[F8 hs.1 (by omega)]
  simp only[aG]
  rw[aj (by rw[qP];omega)]
  rfl
theorem acE{n:Nat}{o:OpC}(h:qD o)(hn:big<n):Mr n o=some (h_ o,()):=by
 have h1:=h.box
 have h2:=h.to'
 have h3:=h.mode
 have h4:=h.ro
 have h5:=h4.kind
 have h6:=h4.few
 have h7:=h4.flags
 have h8:=h4.date
 have h9:=h4.data
 have hb:=h.body
 have hh:=h.head
 have hu:=Vx h4.Vv
 have hs:=Vj (sQ o)
 unfold big at hn
 unfold Mr
 rw[wrap_u8 (x:=o.1) (by omega) (by omega),wrap_u8 (x:=(o.2.1.length:Int)) (by omega) (by omega),wrap_u8 (x:=(o.2.2.1.length:Int)) (by omega) (by omega),wrap_u8 (x:=(o.2.2.2.1.length:Int)) (by omega) (by omega)]
 rw[aj (by simp only[dN,gF,kK];omega),aj (by simp only[dN,gF,kK];omega),aj (by simp only[dN,gF,kK];omega),aj (by simp only[dN,gF,kK];omega)]
 have ef:((([(0:Int),(0:Int),o.1,(o.2.1.length:Int)]++o.2.1)++[(o.2.2.1.length:Int)])++o.2.2.1)++[(o.2.2.2.1.length:Int)]=0 :: 0 :: qJ o:=by simp[qJ]
 have lf:(0 :: 0 :: qJ o).length<=100:=by simp only[qJ,dN,gF,kK];omega
 rw[ef]
 refine(gp (λi=>(o,(i:Int),(0 :: 0 :: qJ o)++(o.2.2.2.1.take i).flatMap two,())) (λ_=>none) (some (h_ o,())) (m:=o.2.2.2.1.length) (by simp) (by omega) ?_ ?_).trans (ko (λ_ _ _=>rfl))
 ·intro L i hi _
  have hr:=hu _ (iC hi)
  simp only[eB,hi,bG,aQ,bU hi,ku hi,dL hi (by omega),Kw (n:=n) (show 0<=o.2.2.2.1[i] by omega) (by omega),aG,aeI _ hi,gD]
  rw[aj (by simp only[dN,JP,qP,pX]at lf ⊢;omega)]
 ·intro L _
  have lb:((0 :: 0 :: qJ o)++o.2.2.2.1.flatMap two).length<=200:=by rw[dN,JP];omega
  simp only[qz,cO,bg,aZ,pY]
  rw[aj (by simp only[gF,kK]at lb ⊢;omega),Kw h8.1 (by omega)]
  simp only[aG]
  rw[aj (by simp only[dN,gF,kK,qP]at lb ⊢;omega),Kw (by omega) (by omega)]
  simp only[aG]
  rw[aj (by simp only[dN,gF,kK,qP]at lb ⊢;omega),aj (by simp only[dN,gF,kK,qP]at lb ⊢;omega)]
  rw[wrap_u8 (x:=o.2.2.2.2.1) (by omega) (by omega),wrap_u8 (x:=o.2.2.2.2.2.1) (by omega) (by omega)]
  have eb:(((((0 :: 0 :: qJ o)++o.2.2.2.1.flatMap two)++[o.2.2.2.2.1,o.2.2.2.2.2.1])++two o.2.2.2.2.2.2.1)++two (o.2.2.2.2.2.2.2.1.length:Int))++o.2.2.2.2.2.2.2.1=0 :: 0 :: jL o:=by rw[Zj];simp[Ng]
  have el:((0 :: 0 :: jL o).length:Int)+2=((jL o).length:Int)+4:=by simp only[gF];omega
  rw[eb,el,wrap_i64 (x:=((jL o).length:Int)+4) (by omega) (by omega),Kw (by omega) (by omega)]
  simp only[aG]
  rw[aj (by rw[qP];simp only[gF];omega)]
  have eh:two (((jL o).length:Int)+4)++(0 :: 0 :: jL o).drop (two (((jL o).length:Int)+4)).length=sQ o:=rfl
  rw[eh,as2 hh.1 (by unfold big;omega) (by unfold big;omega)]
  simp only[aG]
  rw[Kw hs.1 (by omega)]
  simp only[aG]
  rw[aj (by rw[qP];omega)]
  rfl
end Go.Proofs.YtplpeegfeajkkaaGreatDoor.tK

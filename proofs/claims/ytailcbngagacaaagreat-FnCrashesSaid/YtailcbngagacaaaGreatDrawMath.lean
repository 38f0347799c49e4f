/- The draws: each comes to its end, and what it gives is small. -/
import Derived.Test.YtailcbngagacaaaGreatTellFMath
namespace Go.Proofs.YtailcbngagacaaaGreat.Kk
open Go Ow nJ oh
abbrev gP:=List Int×Int×Unit
def fF (l:List Int):Prop:=∀x∈l,0<=x/\x<=255
structure iT (s:gP) (m:Int):Prop where
 b:fF s.1
 l:s.1.length<=big
 lo:0<=s.2.1
 hi:s.2.1<=m
theorem iT.up {s:gP} {m m':Int} (h:iT s m) (hm:m<=m'):iT s m':=⟨h.b,h.l,h.lo,by have:=h.hi; omega⟩
def Y {A:Type} (o:Option (A×gP×Unit)) (m:Int) (Q:A->Prop):Prop:=∃a s,o=some (a,s,())/\iT s m/\Q a
def G {A:Type} (o:Option A) (Q:A->Prop):Prop:=∃a,o=some a/\Q a
theorem Y.ret {A:Type} {a:A} {s:gP} {m:Int} {Q:A->Prop} (h:iT s m) (q:Q a):Y (some (a,s,())) m Q:=⟨a,s,rfl,h,q⟩
theorem Y.bind {A B:Type} {o:Option (A×gP×Unit)} {f:A×gP×Unit->Option (B×gP×Unit)} {m m':Int} {Q:A->Prop} {Q':B->Prop} (h:Y o m Q) (k:∀a s,iT s m->Q a->Y (f (a,s,())) m' Q'):Y (o.bind f) m' Q':=by
 obtain ⟨a,s,rfl,h1,h2⟩:=h
 exact k a s h1 h2
theorem Y.tK {A B:Type} {o:Option A} {f:A->Option (B×gP×Unit)} {m':Int} {Q:A->Prop} {Q':B->Prop} (h:G o Q) (k:∀a,Q a->Y (f a) m' Q'):Y (o.bind f) m' Q':=by
 obtain ⟨a,rfl,h2⟩:=h
 exact k a h2
theorem Y.yes {A:Type} {c:Prop} [Decidable c] {o p:Option (A×gP×Unit)} {m:Int} {Q:A->Prop} (h:c) (k:Y o m Q):Y (if c then o else p) m Q:=by rw [aj h]; exact k
theorem Y.ite {A:Type} {c:Prop} [Decidable c] {o p:Option (A×gP×Unit)} {m:Int} {Q:A->Prop} (h:c->Y o m Q) (k:¬c->Y p m Q):Y (if c then o else p) m Q:=by
 by_cases hc:c
 ·rw [aj hc]; exact h hc
 ·rw [aA hc]; exact k hc
theorem Y.mono {A:Type} {o:Option (A×gP×Unit)} {m m':Int} {Q Q':A->Prop} (h:Y o m Q) (hm:m<=m') (hq:∀a,Q a->Q' a):Y o m' Q':=by
 obtain ⟨a,s,e,h1,h2⟩:=h
 exact ⟨a,s,e,h1.up hm,hq a h2⟩
theorem G.ret {A:Type} {a:A} {Q:A->Prop} (q:Q a):G (some a) Q:=⟨a,rfl,q⟩
theorem G.bind {A B:Type} {o:Option A} {f:A->Option B} {Q:A->Prop} {Q':B->Prop} (h:G o Q) (k:∀a,Q a->G (f a) Q'):G (o.bind f) Q':=by
 obtain ⟨a,rfl,h2⟩:=h
 exact k a h2
theorem G.yes {A:Type} {c:Prop} [Decidable c] {o p:Option A} {Q:A->Prop} (h:c) (k:G o Q):G (if c then o else p) Q:=by rw [aj h]; exact k
theorem G.ite {A:Type} {c:Prop} [Decidable c] {o p:Option A} {Q:A->Prop} (h:c->G o Q) (k:¬c->G p Q):G (if c then o else p) Q:=by
 by_cases hc:c
 ·rw [aj hc]; exact h hc
 ·rw [aA hc]; exact k hc
theorem cnt {V X:Type} {B:(V->Option X)->V->Option X} (P:Nat->V->Prop) (Q:Option X->Prop)
  (h:∀k L v,P k v->(∀v' k',k'<k->P k' v'->Q (L v'))->Q (B L v)):∀{N k:Nat} {v:V},k<N->P k v->Q (rounds B N v):=by
 intro N
 induction N with
 | zero=>intro k v hk; omega
 | succ N ih=>intro k v hk hP; exact h k _ v hP fun v' k' hk' hP'=>ih (by omega) hP'
theorem lY {a b:List Int} (h:fF a) (h':fF b):fF (a++b):=fun x hx=>(bW.1 hx).elim (h x) (h' x)
theorem pU:fF []:=fun x hx=>by simp at hx
theorem qW {x:Int} {l:List Int} (h:0<=x/\x<=255) (h':fF l):fF (x :: l):=fun y hy=>(bT.1 hy).elim (fun e=>e▸h) (h' y)
theorem Ep {l:List Int} (h:fF l) (i:Nat):0<=l.getD i 0/\l.getD i 0<=255:=by
 rw [ig]
 cases hi:l[i]? with
 | none=>simp
 | some x=>exact h x (qo hi)
theorem MK {l:List Int} (h:fF l) (i:Nat) {x:Int} (hx:0<=x/\x<=255):fF (l.set i x):=fun y hy=>(Xg hy).elim (h y) (fun e=>e▸hx)
theorem ny {l:List Int} (h:l.all (fun x=>decide (0<=x) && decide (x<=255))=true):fF l:=fun x hx=>by simpa using eH.1 h x hx
theorem Dj (x:Int):0<=IntKind.u8.wrap x/\IntKind.u8.wrap x<=255:=by
 have e:IntKind.u8.wrap x=x % 256:=by simp [IntKind.wrap,IntKind.bits,IntKind.signed]
 rw [e]; omega
theorem next {n:Nat} {s:gP} {m k:Int} (hs:iT s m) (hm:m<=1099511627776) (hk:1<=k) (hk2:k<=1048576):Y (dN n s k) (m+1) (fun r=>0<=r/\r<k):=by
 obtain ⟨xs,a,u⟩:=s
 obtain ⟨h1,h2,h3,h4⟩:=hs
 simp only at h1 h2 h3 h4
 have hb:xs.length<=1048576:=h2
 have hso:iT (xs,a+1,u) (m+1):=⟨h1,h2,by show 0<=a+1; omega,by show a+1<=m+1; omega⟩
 have hv:∀v:Int,0<=v->0<=v.tmod k/\v.tmod k<k:=fun v hv=>⟨Int.tmod_nonneg k hv,Int.tmod_lt_of_pos v (by omega)⟩
 unfold dN
 have e1:IntKind.i64.wrap (a+1)=a+1:=wrap_i64 (by omega) (by omega)
 have e2:IntKind.i64.wrap (a+1 - 1)=a:=by rw [wrap_i64 (by omega) (by omega)]; omega
 simp only [e1,e2]
 rw [aA (by simp; omega)]
 by_cases h0:xs.length=0
 ·rw [aj (by simp [h0]),aj (by omega),wrap_i64 (by omega) (by omega)]
  exact Y.ret hso (hv _ (by omega))
 ·have hl:(0:Int)<(xs.length:Int):=by omega
  have t1:=Int.tmod_nonneg (xs.length:Int) h3
  have t2:=Int.tmod_lt_of_pos a hl
  have t3:=Int.tmod_nonneg (xs.length:Int) (show 0<=a+1 by omega)
  have t4:=Int.tmod_lt_of_pos (a+1) hl
  have t5:0<=a.tdiv (xs.length:Int):=Int.tdiv_nonneg h3 (by omega)
  have t6:a.tdiv (xs.length:Int)<=a:=by
   rw [DT h3]
   exact Int.ediv_le_self _ h3
  have c1:=Ep h1 (a.tmod (xs.length:Int)).toNat
  have c2:=Ep h1 ((a+1).tmod (xs.length:Int)).toNat
  rw [aA (by simp [h0]),aj (by omega),aj ⟨t1,t2⟩,aj (by omega)]
  generalize xs.getD (a.tmod (xs.length:Int)).toNat 0=x0 at *
  generalize xs.getD ((a+1).tmod (xs.length:Int)).toNat 0=x1 at *
  generalize a.tdiv (xs.length:Int)=q at *
  have f1:IntKind.i64.wrap x0=x0:=wrap_i64 (by omega) (by omega)
  have f2:IntKind.i64.wrap x1=x1:=wrap_i64 (by omega) (by omega)
  have f3:IntKind.i64.wrap q=q:=wrap_i64 (by omega) (by omega)
  have f4:IntKind.i64.wrap (q * 37)=q * 37:=wrap_i64 (by omega) (by omega)
  have f5:IntKind.i64.wrap (x0+q * 37)=x0+q * 37:=wrap_i64 (by omega) (by omega)
  have f6:IntKind.i64.wrap ((x0+q * 37) * 251)=(x0+q * 37) * 251:=wrap_i64 (by omega) (by omega)
  have f7:IntKind.i64.wrap (x1 * 13)=x1 * 13:=wrap_i64 (by omega) (by omega)
  have f8:IntKind.i64.wrap ((x0+q * 37) * 251+x1 * 13)=(x0+q * 37) * 251+x1 * 13:=wrap_i64 (by omega) (by omega)
  have f9:IntKind.i64.wrap ((x0+q * 37) * 251+x1 * 13+a)=(x0+q * 37) * 251+x1 * 13+a:=wrap_i64 (by omega) (by omega)
  simp only [f1,f2,f3,f4,f5,f6,f7,f8,f9]
  refine Y.ite (fun _=>Y.yes (by omega) (Y.yes ⟨t3,t4⟩ (Y.yes (by omega) (Y.ret hso (hv _ (by omega)))))) (fun _=>Y.yes (by omega) (Y.ret hso (hv _ (by omega))))
theorem Iq {n:Nat} {s:gP} {m k:Int} (hs:iT s m) (hm:m<=1099511627776) (hk:1<=k) (hk2:k<=1048576):Y (A_ n s k) (m+1) (fun _=>True):=
 (next hs hm hk hk2).bind fun _ _ h _=>Y.ret h trivial
theorem pick {n:Nat} {s:gP} {m:Int} {l:List Int} (hs:iT s m) (hm:m<=1099511627776) (hk:1<=l.length) (hk2:l.length<=1048576):Y (xN n s l) (m+1) (fun r=>r∈l):=
 (next hs hm (k:=(l.length:Int)) (by omega) (by omega)).bind fun r _ h hr=>Y.yes hr (Y.ret h (by
  have hi:r.toNat<l.length:=by omega
  rw [ig,jd hi]
  exact jY hi))
theorem anI {n:Nat} {s:gP} {m:Int} {k:Nat} (hs:iT s m) (hm:m<=549755813888) (hk:k<=100) (hn:big<n):Y (Lb n s (k:Int)) (m+200) (fun r=>fF r/\r.length<=k):=by
 unfold Lb
 refine cnt (N:=n) (k:=k) (fun j (v:Int×gP×List Int×Unit)=>v.1=(j:Int)/\j<=k/\iT v.2.1 (m+2 * (k - j))/\fF v.2.2.1/\v.2.2.1.length+j=k) (fun o:Option (List Int×gP×Unit)=>Y o (m+200) (fun r=>fF r/\r.length<=k)) ?_ (by unfold big at hn; omega) ⟨rfl,bN _,hs.up (by omega),pU,by simp⟩
 intro j L v ⟨e1,e2,e3,e4,e5⟩ hL
 refine Y.ite (fun hc=>?_) (fun hc=>Y.ret (e3.up (by omega)) ⟨e4,by omega⟩)
 have hc:v.1>0:=by simpa using hc
 refine (next e3 (by omega) (by omega) (by omega)).bind fun r s1 h1 _=>?_
 refine (pick h1 (by omega) (by simp) (by simp)).bind fun x s2 h2 _=>?_
 refine Y.yes (by simp; omega) ?_
 refine hL _ (j - 1) (by omega) ⟨?_,by omega,h2.up (by omega),lY e4 (qW (Dj _) pU), ?_⟩
 ·show IntKind.i64.wrap (v.1 - 1)=_
  rw [wrap_i64 (by omega) (by omega)]; omega
 ·show (v.2.2.1++[_]).length+(j - 1)=k
  simp; omega
def b64:List Int:=[65,66,67,68,69,70,71,72,73,74,75,76,77,78,79,80,81,82,83,84,85,86,87,88,89,90,97,98,99,100,101,102,103,104,105,106,107,108,109,110,111,112,113,114,115,116,117,118,119,120,121,122,48,49,50,51,52,53,54,55,56,57,43,47]
theorem base {n:Nat} {i:Int} (h1:0<=i) (h2:i<64):nK n i=some (b64.getD i.toNat 0,()):=by
 unfold nK
 rw [aj ⟨h1,h2⟩]
 rfl
theorem qz {n:Nat} {i:Int} (h:0<=i/\i<64):G (nK n i) (fun r=>∃a:Nat,r=(b64.getD a 0,())):=⟨_,base h.1 h.2,_,rfl⟩
theorem MH (i:Nat):0<=b64.getD i 0/\b64.getD i 0<=255:=Ep (ny (by decide)) i
theorem encode {n:Nat} {xs:List Int} (hb:fF xs) (hl:xs.length<=2000) (hn:big<n):G (GU n xs) (fun r=>fF r.1/\r.1.length<=4 * xs.length):=by
 unfold GU
 refine cnt (N:=n) (k:=xs.length) (fun j (v:List Int×Int×List Int×Unit)=>v.1=xs/\0<=v.2.1/\v.2.1<=10000/\(xs.length:Int)<=v.2.1+3 * j/\j<=xs.length/\fF v.2.2.1/\v.2.2.1.length+4 * j<=4 * xs.length) (fun o:Option (List Int×Unit)=>G o (fun r=>fF r.1/\r.1.length<=4 * xs.length)) ?_ (by unfold big at hn; omega) ⟨rfl,by simp,by simp,by simp; omega,bN _,pU,by simp⟩
 intro j L v ⟨e1,e2,e3,e4,e5,e6,e7⟩ hL
 obtain ⟨ys,i,out,u⟩:=v
 simp only at e1 e2 e3 e4 e6 e7
 subst e1
 simp only
 have hx:=fun i:Nat=>Ep hb i
 have x0:=hx i.toNat
 have x1:=hx (i+1).toNat
 have x2:=hx (i+2).toNat
 have w1:IntKind.i64.wrap (i+1)=i+1:=wrap_i64 (by omega) (by omega)
 have w2:IntKind.i64.wrap (i+2)=i+2:=wrap_i64 (by omega) (by omega)
 have w3:IntKind.i64.wrap (i+3)=i+3:=wrap_i64 (by omega) (by omega)
 simp only [w1,w2,w3]
 generalize ys.getD i.toNat 0=y0 at *
 generalize ys.getD (i+1).toNat 0=y1 at *
 generalize ys.getD (i+2).toNat 0=y2 at *
 have next:∀l:List Int,i<(ys.length:Int)->fF l->l.length=4->G (if (out.length+l.length) * 1<=140737488355328 then L (ys,i+3,out++l,()) else none) (fun r=>fF r.1/\r.1.length<=4 * ys.length):=fun l h1 h2 h3=>
  G.yes (by omega) (hL _ (j - 1) (by omega) ⟨rfl,by show 0<=i+3; omega,by show i+3<=10000; omega,by show (ys.length:Int)<=i+3+3 * ((j - 1:Nat):Int); omega,by omega,lY e6 h2,by show (out++l).length+4 * (j - 1)<=4 * ys.length; simp [h3]; omega⟩)
 have four:∀a b c d:Nat,fF [b64.getD a 0,b64.getD b 0,b64.getD c 0,b64.getD d 0]:=fun a b c d=>qW (MH a) (qW (MH b) (qW (MH c) (qW (MH d) pU)))
 have tails:∀a b c d:Nat,i<(ys.length:Int)->G (if decide (i+2>=(ys.length:Int))=true then (if aM (3:Int) [b64.getD a 0,b64.getD b 0,b64.getD c 0,b64.getD d 0].length then (if decide (i+1>=(ys.length:Int))=true then (if aM (2:Int) ([b64.getD a 0,b64.getD b 0,b64.getD c 0,b64.getD d 0].set (3:Int).toNat (61:Int)).length then (if (out.length+(([b64.getD a 0,b64.getD b 0,b64.getD c 0,b64.getD d 0].set (3:Int).toNat (61:Int)).set (2:Int).toNat (61:Int)).length) * 1<=140737488355328 then L (ys,i+3,out++(([b64.getD a 0,b64.getD b 0,b64.getD c 0,b64.getD d 0].set (3:Int).toNat (61:Int)).set (2:Int).toNat (61:Int)),()) else none) else none) else (if (out.length+([b64.getD a 0,b64.getD b 0,b64.getD c 0,b64.getD d 0].set (3:Int).toNat (61:Int)).length) * 1<=140737488355328 then L (ys,i+3,out++([b64.getD a 0,b64.getD b 0,b64.getD c 0,b64.getD d 0].set (3:Int).toNat (61:Int)),()) else none)) else none) else (if decide (i+1>=(ys.length:Int))=true then (if aM (2:Int) [b64.getD a 0,b64.getD b 0,b64.getD c 0,b64.getD d 0].length then (if (out.length+([b64.getD a 0,b64.getD b 0,b64.getD c 0,b64.getD d 0].set (2:Int).toNat (61:Int)).length) * 1<=140737488355328 then L (ys,i+3,out++([b64.getD a 0,b64.getD b 0,b64.getD c 0,b64.getD d 0].set (2:Int).toNat (61:Int)),()) else none) else none) else (if (out.length+[b64.getD a 0,b64.getD b 0,b64.getD c 0,b64.getD d 0].length) * 1<=140737488355328 then L (ys,i+3,out++[b64.getD a 0,b64.getD b 0,b64.getD c 0,b64.getD d 0],()) else none))) (fun r=>fF r.1/\r.1.length<=4 * ys.length):=by
  intro a b c d hi
  have h4:=four a b c d
  refine G.ite (fun _=>G.yes ⟨by omega,by simp⟩ (G.ite (fun _=>G.yes ⟨by omega,by simp⟩ (next _ hi (MK (MK h4 _ (by omega)) _ (by omega)) (by simp))) (fun _=>next _ hi (MK h4 _ (by omega)) (by simp)))) (fun _=>G.ite (fun _=>G.yes ⟨by omega,by simp⟩ (next _ hi (MK h4 _ (by omega)) (by simp))) (fun _=>next _ hi h4 rfl))
 refine G.ite (fun hc=>?_) (fun hc=>G.ret ⟨e6,by show out.length<=4 * ys.length; omega⟩)
 have hc:i<(ys.length:Int):=by simpa using hc
 refine G.yes ⟨e2,hc⟩ ?_
 refine G.ite (fun h1=>?_) (fun h1=>?_)
 ·have h1:i+1<(ys.length:Int):=by simpa using h1
  refine G.yes ⟨by omega,h1⟩ (G.ite (fun h2=>?_) (fun h2=>?_))
  ·have h2:i+2<(ys.length:Int):=by simpa using h2
   refine G.yes ⟨by omega,h2⟩ ?_
   refine G.yes (by decide) ((qz (n:=n) ?_).bind fun r2 ⟨a,ea⟩=>G.yes (by decide) (G.yes (by decide) ((qz (n:=n) ?_).bind fun r3 ⟨b,eb⟩=>G.yes (by decide) (G.yes (by decide) ((qz (n:=n) ?_).bind fun r4 ⟨c,ec⟩=>G.yes (by decide) ((qz (n:=n) ?_).bind fun r5 ⟨d,ed⟩=>by subst ea eb ec ed; exact tails a b c d hc))))))
   all_goals (simp (disch:=omega) only [wrap_i64,DT,Bp]; omega)
  ·refine G.yes (by decide) ((qz (n:=n) ?_).bind fun r2 ⟨a,ea⟩=>G.yes (by decide) (G.yes (by decide) ((qz (n:=n) ?_).bind fun r3 ⟨b,eb⟩=>G.yes (by decide) (G.yes (by decide) ((qz (n:=n) ?_).bind fun r4 ⟨c,ec⟩=>G.yes (by decide) ((qz (n:=n) ?_).bind fun r5 ⟨d,ed⟩=>by subst ea eb ec ed; exact tails a b c d hc))))))
   all_goals (simp (disch:=omega) only [wrap_i64,DT,Bp]; omega)
 ·refine G.ite (fun h2=>?_) (fun h2=>?_)
  ·have h2:i+2<(ys.length:Int):=by simpa using h2
   refine G.yes ⟨by omega,h2⟩ ?_
   refine G.yes (by decide) ((qz (n:=n) ?_).bind fun r2 ⟨a,ea⟩=>G.yes (by decide) (G.yes (by decide) ((qz (n:=n) ?_).bind fun r3 ⟨b,eb⟩=>G.yes (by decide) (G.yes (by decide) ((qz (n:=n) ?_).bind fun r4 ⟨c,ec⟩=>G.yes (by decide) ((qz (n:=n) ?_).bind fun r5 ⟨d,ed⟩=>by subst ea eb ec ed; exact tails a b c d hc))))))
   all_goals (simp (disch:=omega) only [wrap_i64,DT,Bp]; omega)
  ·refine G.yes (by decide) ((qz (n:=n) ?_).bind fun r2 ⟨a,ea⟩=>G.yes (by decide) (G.yes (by decide) ((qz (n:=n) ?_).bind fun r3 ⟨b,eb⟩=>G.yes (by decide) (G.yes (by decide) ((qz (n:=n) ?_).bind fun r4 ⟨c,ec⟩=>G.yes (by decide) ((qz (n:=n) ?_).bind fun r5 ⟨d,ed⟩=>by subst ea eb ec ed; exact tails a b c d hc))))))
   all_goals (simp (disch:=omega) only [wrap_i64,DT,Bp]; omega)
theorem Zh {n:Nat} {i:Int} (h:0<=i/\i<16):G (jf n i) (fun r=>0<=r.1/\r.1<=255):=by
 unfold jf
 exact G.yes h (G.ret (Ep (ny (by decide)) _))
theorem quoted {n:Nat} {xs:List Int} (hb:fF xs) (hl:xs.length<=2000) (hn:big<n):G (La n xs) (fun r=>fF r.1/\r.1.length<=3 * xs.length):=by
 unfold La
 refine cnt (N:=n) (k:=xs.length) (fun j (v:List Int×Int×List Int×Unit)=>v.1=xs/\0<=v.2.1/\v.2.1+j=(xs.length:Int)/\fF v.2.2.1/\v.2.2.1.length+3 * j<=3 * xs.length) (fun o:Option (List Int×Unit)=>G o (fun r=>fF r.1/\r.1.length<=3 * xs.length)) ?_ (by unfold big at hn; omega) ⟨rfl,by simp,by simp,pU,by simp⟩
 intro j L v ⟨e1,e2,e3,e4,e5⟩ hL
 obtain ⟨ys,i,out,u⟩:=v
 simp only at e1 e2 e3 e4 e5
 subst e1
 have x0:=Ep hb i.toNat
 have w1:IntKind.i64.wrap (i+1)=i+1:=wrap_i64 (by omega) (by omega)
 simp only [w1,dH,lC,decide_eq_false_iff_not]
 generalize ys.getD i.toNat 0=y0 at *
 have leaf:∀l:List Int,i<(ys.length:Int)->fF l->l.length<=3->G (if (out.length+l.length) * 1<=140737488355328 then L (ys,i+1,out++l,()) else none) (fun r=>fF r.1/\r.1.length<=3 * ys.length):=fun l h1 h2 h3=>
  G.yes (by omega) (hL _ (j - 1) (by omega) ⟨rfl,by show 0<=i+1; omega,by show i+1+((j - 1:Nat):Int)=_; omega,lY e4 h2,by show (out++l).length+3 * (j - 1)<=3 * ys.length; simp; omega⟩)
 refine G.ite (fun hc=>G.yes ⟨e2,hc⟩ ?_) (fun hc=>G.ret ⟨e4,by show out.length<=3 * ys.length; omega⟩)
 have one:G (if (out.length+[y0].length) * 1<=140737488355328 then L (ys,i+1,out++[y0],()) else none) (fun r=>fF r.1/\r.1.length<=3 * ys.length):=leaf _ hc (qW x0 pU) (by simp)
 have three:G (if (16:Int)≠0 then ((jf n (IntKind.u8.wrap (y0.tdiv (16:Int)))).bind fun r2=>(if (16:Int)≠0 then ((jf n (y0.tmod (16:Int))).bind fun r3=>(if (out.length+[(61:Int),r2.1,r3.1].length) * 1<=140737488355328 then L (ys,i+1,out++[(61:Int),r2.1,r3.1],()) else none)) else none)) else none) (fun r=>fF r.1/\r.1.length<=3 * ys.length):=by
  have h16:(0:Int)<16:=by decide
  have q1:IntKind.u8.wrap (y0.tdiv 16)=y0 / 16:=by
   rw [DT x0.1]
   have e:IntKind.u8.wrap (y0 / 16)=(y0 / 16) % 256:=by simp [IntKind.wrap,IntKind.bits,IntKind.signed]
   rw [e]; omega
  rw [q1,Bp x0.1]
  exact G.yes (by decide) ((Zh ⟨by omega,by omega⟩).bind fun r2 h2=>G.yes (by decide) ((Zh ⟨by omega,by omega⟩).bind fun r3 h3=>leaf _ hc (qW (by omega) (qW h2 (qW h3 pU))) (by simp)))
 repeat' (first
  | exact one
  | exact three
  | refine G.yes ⟨by omega,by omega⟩ ?_
  | refine G.ite (fun _=>?_) (fun _=>?_))
theorem NH {n:Nat} (a b c:Int):G (jL n a b c) (fun _=>True):=by
 unfold jL
 exact G.ite (fun _=>G.ret trivial) (fun _=>G.ret trivial)
theorem Ym {n:Nat} (c:Int):G (DK n c) (fun _=>True):=by
 unfold DK
 refine (NH _ _ _).bind fun r1 _=>?_
 repeat' (first
  | exact G.ret trivial
  | refine (NH _ _ _).bind fun _ _=>?_
  | refine G.ite (fun _=>?_) (fun _=>?_))
theorem has {n:Nat} (cs c:Int):G (Le n cs c) (fun _=>True):=by
 unfold Le
 repeat' (first
  | exact G.ret trivial
  | refine (NH _ _ _).bind fun _ _=>?_
  | refine (Ym _).bind fun _ _=>?_
  | refine G.ite (fun _=>?_) (fun _=>?_))
theorem bytes {n:Nat} (cs c:Int):G (Lc n cs c) (fun r=>fF r.1/\r.1.length<=3):=by
 unfold Lc
 repeat' (first
  | exact G.ret ⟨qW (Dj _) pU,by simp⟩
  | exact G.ret ⟨qW (Dj _) (qW (Dj _) pU),by simp⟩
  | exact G.ret ⟨qW (Dj _) (qW (Dj _) (qW (Dj _) pU)),by simp⟩
  | refine (Ym _).bind fun _ _=>?_
  | refine G.yes (by decide) ?_
  | refine G.ite (fun _=>?_) (fun _=>?_))
theorem text {n:Nat} {cs:Int} {xs:List Int} (hl:xs.length<=2000) (hn:big<n):G (GV n cs xs) (fun r=>fF r.1/\r.1.length<=400):=by
 unfold GV
 refine cnt (N:=n) (k:=xs.length) (fun j (v:Int×List Int×Int×List Int×Unit)=>v.2.1=xs/\0<=v.2.2.1/\v.2.2.1+j=(xs.length:Int)/\fF v.2.2.2.1/\v.2.2.2.1.length+3 * j<=3 * xs.length) (fun o:Option (List Int×Int×Unit)=>G o (fun r=>fF r.1/\r.1.length<=400)) ?_ (by unfold big at hn; omega) ⟨rfl,by simp,by simp,pU,by simp⟩
 intro j L v ⟨e1,e2,e3,e4,e5⟩ hL
 obtain ⟨q,ys,i,out,u⟩:=v
 simp only at e1 e2 e3 e4 e5
 subst e1
 have w1:IntKind.i64.wrap (i+1)=i+1:=wrap_i64 (by omega) (by omega)
 simp only [w1,dH]
 refine G.ite (fun hc=>G.yes ⟨e2,hc⟩ ((has _ _).bind fun r2 _=>G.ite (fun _=>G.ret ⟨pU,by simp⟩) (fun _=>G.yes ⟨e2,hc⟩ ((bytes _ _).bind fun r3 h3=>G.yes (by omega) (hL _ (j - 1) (by omega) ⟨rfl,by show 0<=i+1; omega,by show i+1+((j - 1:Nat):Int)=_; omega,lY e4 h3.1,by show (out++r3.1).length+3 * (j - 1)<=3 * ys.length; simp; omega⟩))))) (fun hc=>G.ite (fun _=>G.ret ⟨pU,by simp⟩) (fun h=>G.ret ⟨e4,by show out.length<=400; omega⟩))
theorem codes {n:Nat} {s:gP} {m:Int} (hs:iT s m) (hm:m<=549755813888) (hn:big<n):Y (Ld n s) (m+7) (fun r=>r.length<=5):=by
 unfold Ld
 refine (next hs (by omega) (by omega) (by omega)).bind fun r s1 h1 hr=>?_
 obtain ⟨k,rfl⟩:=Bn hr.1
 refine cnt (N:=n) (k:=k) (fun j (v:Int×gP×List Int×Unit)=>v.1=(j:Int)/\j<=k/\iT v.2.1 (m+1+(k - j))/\v.2.2.1.length+j=k) (fun o:Option (List Int×gP×Unit)=>Y o (m+7) (fun r=>r.length<=5)) ?_ (by unfold big at hn; omega) ⟨rfl,bN _,h1.up (by omega),by simp⟩
 intro j L v ⟨e1,e2,e3,e4⟩ hL
 refine Y.ite (fun hc=>?_) (fun hc=>Y.ret (e3.up (by omega)) (by omega))
 have hc:v.1>0:=by simpa using hc
 refine (pick e3 (by omega) (by simp) (by simp)).bind fun x s2 h2 _=>?_
 refine Y.yes (by simp; omega) ?_
 refine hL _ (j - 1) (by omega) ⟨?_,by omega,h2.up (by omega), ?_⟩
 ·show IntKind.i64.wrap (v.1 - 1)=_
  rw [wrap_i64 (by omega) (by omega)]; omega
 ·show (v.2.2.1++[_]).length+(j - 1)=k
  simp; omega
theorem self {n:Nat} {xs:List Int} (hl:xs.length<=2000) (hn:big<n):G (Lg n xs) (fun _=>True):=by
 unfold Lg
 refine cnt (N:=n) (k:=xs.length) (fun j (v:List Int×Int×Unit)=>v.1=xs/\0<=v.2.1/\v.2.1+j=(xs.length:Int)) (fun o:Option (Bool×Unit)=>G o (fun _=>True)) ?_ (by unfold big at hn; omega) ⟨rfl,by simp,by simp⟩
 intro j L v ⟨e1,e2,e3⟩ hL
 obtain ⟨ys,i,u⟩:=v
 simp only at e1 e2 e3
 subst e1
 have w1:IntKind.i64.wrap (i+1)=i+1:=wrap_i64 (by omega) (by omega)
 have w2:IntKind.i64.wrap (i - 1)=i - 1:=wrap_i64 (by omega) (by omega)
 simp only [w1,w2,dH]
 refine G.ite (fun hc=>G.yes ⟨e2,hc⟩ ?_) (fun hc=>G.ret trivial)
 have go:G (L (ys,i+1,())) (fun _=>True):=hL _ (j - 1) (by omega) ⟨rfl,by show 0<=i+1; omega,by show i+1+((j - 1:Nat):Int)=_; omega⟩
 repeat' (first
  | exact go
  | exact G.ret trivial
  | refine (NH _ _ _).bind fun _ _=>?_
  | refine G.yes ⟨by omega,by omega⟩ ?_
  | refine G.ite (fun _=>?_) (fun _=>?_))
theorem words {n:Nat} {xs:List Int} (hl:xs.length<=2000) (hn:big<n):G (Lf n xs) (fun r=>fF r.1/\r.1.length<=400):=by
 unfold Lf
 refine (text hl hn).bind fun r1 h1=>G.ite (fun _=>G.ret ⟨pU,by simp⟩) (fun _=>(self hl hn).bind fun r2 _=>G.ite (fun _=>G.ret h1) (fun _=>(encode h1.1 (by omega) hn).bind fun r3 h3=>G.yes (by simp; omega) (G.yes (by simp; omega) (G.ite (fun _=>G.ret ⟨pU,by simp⟩) (fun h=>G.ret ⟨lY (lY (ny (by decide)) h3.1) (ny (by decide)), ?_⟩)))))
 have h:=h
 simp only [dH] at h
 show (([61,63,117,116,102,45,56,63,66,63]++r3.1)++[63,61]).length<=400
 omega
theorem leaf {n:Nat} {s:gP} {m:Int} (hs:iT s m) (hm:m<=274877906944) (hn:big<n):Y (nL n s) (m+1000) (fun r=>fF r/\r.length<=1000):=by
 unfold nL
 refine (next hs (by omega) (by omega) (by omega)).bind fun r s1 h1 hr=>?_
 obtain ⟨k,rfl⟩:=Bn hr.1
 refine (anI h1 (by omega) (by omega) hn).bind fun body s2 h2 hb=>?_
 refine (next h2 (by omega) (by omega) (by omega)).bind fun r s3 h3 hr3=>?_
 have hbl:body.length<=7:=by omega
 dsimp only
 refine Y.ite (fun _=>Y.yes (by decide) (Y.tK (encode hb.1 (by omega) hn) fun r4 h4=>Y.yes (by simp; omega) (Y.ret (h3.up (by omega)) ⟨lY (ny (by decide)) h4.1,by simp; omega⟩))) (fun _=>?_)
 refine Y.ite (fun _=>Y.yes (by decide) (Y.tK (quoted hb.1 (by omega) hn) fun r4 h4=>Y.yes (by simp; omega) (Y.ret (h3.up (by omega)) ⟨lY (ny (by decide)) h4.1,by simp; omega⟩))) (fun _=>?_)
 refine Y.ite (fun _=>Y.tK (text (by simp) hn) fun r4 h4=>Y.yes (by decide) (Y.yes (by simp; omega) (Y.ret (h3.up (by omega)) ⟨lY (ny (by decide)) h4.1,by simp; omega⟩))) (fun _=>?_)
 refine Y.ite (fun _=>Y.yes (by decide) (Y.yes (by simp; omega) (Y.ret (h3.up (by omega)) ⟨lY (ny (by decide)) hb.1,by simp; omega⟩))) (fun _=>?_)
 refine Y.ite (fun _=>Y.yes (by decide) (Y.yes (by decide) (Y.yes (by decide) (Y.ret (h3.up (by omega)) ⟨ny (by decide),by decide⟩)))) (fun _=>?_)
 refine (codes h3 (by omega) hn).bind fun cs s4 h4 hcs=>?_
 dsimp only
 exact Y.tK (words (by omega) hn) fun r8 h8=>Y.yes (by simp; omega) (Y.yes (by simp; omega) (Y.yes (by simp; omega) (Y.ret (h4.up (by omega)) ⟨lY (lY (lY (ny (by decide)) h8.1) (ny (by decide))) hb.1,by simp; omega⟩)))
theorem build {n:Nat} (M:Nat) (hM:M<=100000) {mk:List Int} {bs:List (List Int)} (hm:fF mk) (hml:mk.length<=10) (hb:∀b∈bs,fF b/\b.length<=M) (hl:bs.length<=10) (hn:big<n):G (DL n mk bs) (fun r=>fF r.1/\r.1.length<=100+(M+100) * bs.length):=by
 unfold DL
 refine G.yes (by simp; omega) (G.yes (by simp; omega) ?_)
 refine cnt (N:=n) (k:=bs.length) (fun j (v:List Int×List (List Int)×Int×List Int×Unit)=>v.1=mk/\v.2.1=bs/\0<=v.2.2.1/\v.2.2.1+j=(bs.length:Int)/\fF v.2.2.2.1/\v.2.2.2.1.length+(M+100) * j<=80+(M+100) * bs.length) (fun o:Option (List Int×Unit)=>G o (fun r=>fF r.1/\r.1.length<=100+(M+100) * bs.length)) ?_ (by unfold big at hn; omega) ⟨rfl,rfl,by simp,by simp,lY (lY (ny (by decide)) hm) (ny (by decide)),by simp; omega⟩
 intro j L v ⟨e0,e1,e2,e3,e4,e5⟩ hL
 obtain ⟨mk',ys,i,out,u⟩:=v
 simp only at e0 e1 e2 e3 e4 e5
 subst e0 e1
 have w1:IntKind.i64.wrap (i+1)=i+1:=wrap_i64 (by omega) (by omega)
 simp only [w1,dH]
 refine G.ite (fun hc=>?_) (fun hc=>?_)
 ·have hi:i.toNat<ys.length:=by omega
  have hbi:fF (ys.getD i.toNat [])/\(ys.getD i.toNat []).length<=M:=by
   rw [ig,jd hi]
   exact hb _ (jY hi)
  generalize ys.getD i.toNat []=y at *
  have hmj:(M+100) * j=(M+100) * (j - 1)+(M+100):=by
   obtain ⟨q,rfl⟩:∃q,j=q+1:=⟨j - 1,by omega⟩
   rw [Nat.add_sub_cancel,Nat.mul_succ]
  have hmb:(M+100) * ys.length<=100100 * 10:=Nat.mul_le_mul (by omega) (by omega)
  refine G.yes (by simp; omega) (G.yes (by simp; omega) (G.yes (by simp; omega) (G.yes ⟨e2,hc⟩ (G.yes (by simp; omega) (G.yes (by simp; omega) (hL _ (j - 1) (by omega) ⟨rfl,rfl,by show 0<=i+1; omega,by show i+1+((j - 1:Nat):Int)=_; omega,lY (lY (lY e4 (lY (lY (ny (by decide)) hm) (ny (by decide)))) hbi.1) (ny (by decide)), ?_⟩))))))
  show (((out++(([45,45]++mk')++[10]))++y)++[(10:Int)]).length+(M+100) * (j - 1)<=_
  generalize (M+100) * (j - 1)=pj at *
  generalize (M+100) * j=pk at *
  generalize (M+100) * ys.length=pl at *
  simp; omega
 ·have hmb:(M+100) * ys.length<=100100 * 10:=Nat.mul_le_mul (by omega) (by omega)
  generalize (M+100) * j=pk at *
  generalize (M+100) * ys.length=pl at *
  exact G.yes (by simp; omega) (G.yes (by simp; omega) (G.yes (by simp; omega) (G.ret ⟨lY e4 (lY (lY (ny (by decide)) hm) (ny (by decide))),by simp; omega⟩)))
theorem draw {n:Nat} {s:gP} {m:Int} (hs:iT s m) (hm:m<=137438953472) (hn:big<n):Y (Lh n s) (m+5000) (fun r=>fF r/\r.length<=1000):=by
 unfold Lh
 refine (Iq hs (by omega) (by omega) (by omega)).bind fun r s1 h1 _=>Y.ite (fun _=>((leaf h1 (by omega) hn).bind fun r s2 h2 hr=>Y.ret (h2.up (by omega)) hr)) (fun _=>?_)
 refine (next h1 (by omega) (by omega) (by omega)).bind fun r s2 h2 hr=>?_
 obtain ⟨k,rfl⟩:=Bn hr.1
 refine cnt (N:=n) (k:=k) (fun j (v:Int×gP×List (List Int)×Unit)=>v.1=(j:Int)/\j<=k/\iT v.2.1 (m+2+1000 * (k - j))/\(∀b∈v.2.2.1,fF b/\b.length<=1000)/\v.2.2.1.length+j=k) (fun o:Option (List Int×gP×Unit)=>Y o (m+5000) (fun r=>fF r/\r.length<=1000)) ?_ (by unfold big at hn; omega) ⟨rfl,bN _,h2.up (by omega),fun b hb=>by simp at hb,by simp⟩
 intro j L v ⟨e1,e2,e3,e4,e5⟩ hL
 have e4':∀b∈v.2.2.1,fF b/\b.length<=1000:=fun b hb=>⟨(e4 b hb).1,by have:=(e4 b hb).2; omega⟩
 refine Y.ite (fun hc=>?_) (fun hc=>?_)
 ·have hc:v.1>0:=by simpa using hc
  refine (leaf e3 (by omega) hn).bind fun x s3 h3 hx=>Y.yes (by simp; omega) (hL _ (j - 1) (by omega) ⟨?_,by omega,h3.up (by omega),fun b hb=>?_, ?_⟩)
  ·show IntKind.i64.wrap (v.1 - 1)=_
   rw [wrap_i64 (by omega) (by omega)]; omega
  ·rcases bW.1 hb with hb | hb
   ·exact e4 b hb
   ·simp only [gI] at hb; subst hb; exact hx
  ·show (v.2.2.1++[_]).length+(j - 1)=k
   simp; omega
 ·refine Y.tK (build 1000 (by decide) (ny (by decide)) (by decide) e4' (by omega) hn) fun r6 h6=>(Iq e3 (by omega) (by omega) (by omega)).bind fun _ s4 h4 _=>Y.ite (fun _=>?_) (fun _=>?_)
  ·refine (leaf h4 (by omega) hn).bind fun r8 s5 h5 hr8=>Y.tK (build 1000 (by decide) (ny (by decide)) (by decide) e4' (by omega) hn) fun r9 h9=>?_
   dsimp only
   refine Y.tK (build 20000 (by decide) (mk:=[99]) (ny (by decide)) (by decide) (fun b hb=>?_) (by simp) hn) fun gV h10=>?_
   ·rcases bT.1 hb with e | hb
    ·subst e; exact ⟨hr8.1,by omega⟩
    ·simp only [gI] at hb
     subst hb
     exact ⟨h9.1,by omega⟩
   ·refine Y.ite (fun _=>(leaf h5 (by omega) hn).bind fun r s6 h6 hr=>Y.ret (h6.up (by omega)) hr) (fun hc=>Y.ret (h5.up (by omega)) ⟨h10.1, ?_⟩)
    simp only [dH] at hc
    omega
  ·refine Y.ite (fun _=>(leaf h4 (by omega) hn).bind fun r s6 h6 hr=>Y.ret (h6.up (by omega)) hr) (fun hc=>Y.ret (h4.up (by omega)) ⟨h6.1, ?_⟩)
   simp only [dH] at hc
   omega
end Go.Proofs.YtailcbngagacaaaGreat.Kk

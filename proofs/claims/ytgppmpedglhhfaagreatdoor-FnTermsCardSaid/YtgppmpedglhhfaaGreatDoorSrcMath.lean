/- The draws' source: numbers out of bytes. -/
import Derived.Test.YtgppmpedglhhfaaGreatDoorDigMath
namespace Go.Proofs.YtgppmpedglhhfaaGreatDoor.FO
open Go Ow nL nM
abbrev j_:=List Int×Int×Unit
def jR(l:List Int):Prop:=∀x∈l,0<=x/\x<=255
structure jQ(s:j_)(m:Int):Prop where
 b:jR s.1
 l:s.1.length<=big
 lo:0<=s.2.1
 hi:s.2.1<=m
theorem jQ.up{s:j_}{m m':Int}(h:jQ s m)(hm:m<=m'):jQ s m':=⟨h.b,h.l,h.lo,by have:=h.hi;omega⟩
def Y{A:Type}(o:Option (A×j_×Unit))(m:Int)(Q:A->Prop):Prop:=∃a s,o=some (a,s,())/\jQ s m/\Q a
def G{A:Type}(o:Option A)(Q:A->Prop):Prop:=∃a,o=some a/\Q a
theorem Y.ret{A:Type}{a:A}{s:j_}{m:Int}{Q:A->Prop}(h:jQ s m)(q:Q a):Y (some (a,s,())) m Q:=⟨a,s,rfl,h,q⟩
theorem Y.bind{A B:Type}{o:Option (A×j_×Unit)}{f:A×j_×Unit->Option (B×j_×Unit)}{m m':Int}{Q:A->Prop}{Q':B->Prop}(h:Y o m Q)(k:∀a s,jQ s m->Q a->Y (f (a,s,())) m' Q'):Y (o.bind f) m' Q':=by
 obtain⟨a,s,rfl,h1,h2⟩:=h
 exact k a s h1 h2
theorem Y.yes{A:Type}{c:Prop}[Decidable c]{o p:Option (A×j_×Unit)}{m:Int}{Q:A->Prop}(h:c)(k:Y o m Q):Y (if c then o else p) m Q:=by rw[aj h];exact k
theorem Y.ite{A:Type}{c:Prop}[Decidable c]{o p:Option (A×j_×Unit)}{m:Int}{Q:A->Prop}(h:c->Y o m Q)(k:¬c->Y p m Q):Y (if c then o else p) m Q:=by
 by_cases hc:c
 ·rw[aj hc];exact h hc
 ·rw[ah hc];exact k hc
theorem Y.mono{A:Type}{o:Option (A×j_×Unit)}{m m':Int}{Q Q':A->Prop}(h:Y o m Q)(hm:m<=m')(hq:∀a,Q a->Q' a):Y o m' Q':=by
 obtain⟨a,s,e,h1,h2⟩:=h
 exact⟨a,s,e,h1.up hm,hq a h2⟩
theorem G.ret{A:Type}{a:A}{Q:A->Prop}(q:Q a):G (some a) Q:=⟨a,rfl,q⟩
theorem G.bind{A B:Type}{o:Option A}{f:A->Option B}{Q:A->Prop}{Q':B->Prop}(h:G o Q)(k:∀a,Q a->G (f a) Q'):G (o.bind f) Q':=by
 obtain⟨a,rfl,h2⟩:=h
 exact k a h2
theorem G.yes{A:Type}{c:Prop}[Decidable c]{o p:Option A}{Q:A->Prop}(h:c)(k:G o Q):G (if c then o else p) Q:=by rw[aj h];exact k
theorem G.ite{A:Type}{c:Prop}[Decidable c]{o p:Option A}{Q:A->Prop}(h:c->G o Q)(k:¬c->G p Q):G (if c then o else p) Q:=by
 by_cases hc:c
 ·rw[aj hc];exact h hc
 ·rw[ah hc];exact k hc
theorem cnt{V X:Type}{B:(V->Option X)->V->Option X}(P:Nat->V->Prop)(Q:Option X->Prop)
  (h:∀k L v,P k v->(∀v' k',k'<k->P k' v'->Q (L v'))->Q (B L v)):∀{N k:Nat} {v:V},k<N->P k v->Q (rounds B N v):=by
 intro N
 induction N with
 |zero=>intro k v hk;omega
 |succ N ih=>intro k v hk hP;exact h k _ v hP λv' k' hk' hP'=>ih (by omega) hP'
theorem mG{a b:List Int}(h:jR a)(h':jR b):jR (a++b):=λx hx=>(dh.1 hx).elim (h x) (h' x)
theorem yD:jR []:=λx hx=>by simp at hx
theorem C_{x:Int}{l:List Int}(h:0<=x/\x<=255)(h':jR l):jR (x :: l):=λy hy=>(bM.1 hy).elim (λe=>e▸h) (h' y)
theorem aab{l:List Int}(h:jR l)(i:Nat):0<=l.getD i 0/\l.getD i 0<=255:=by
 rw[eP]
 cases hi:l[i]? with
 |none=>simp
 |some x=>exact h x (p9 hi)
theorem amk{l:List Int}(h:jR l)(i:Nat){x:Int}(hx:0<=x/\x<=255):jR (l.set i x):=λy hy=>(List.mem_or_eq_of_mem_set hy).elim (h y) (λe=>e▸hx)
theorem aml{l:List Int}(h:jR l)(i:Nat):jR (l.take i):=λx hx=>h x (La hx)
theorem sG{l:List Int}(h:l.all (λx=>decide (0<=x)&&decide (x<=255))=true):jR l:=λx hx=>by simpa using dV.1 h x hx
theorem B_(x:Int):0<=IntKind.u8.wrap x/\IntKind.u8.wrap x<=255:=by
 have e:IntKind.u8.wrap x=x%256:=by simp[IntKind.wrap,IntKind.bits,IntKind.signed]
 rw[e];omega
theorem next{n:Nat}{s:j_}{m k:Int}(hs:jQ s m)(hm:m<=1099511627776)(hk:1<=k)(hk2:k<=1048576):Y (iT n s k) (m+1) (λr=>0<=r/\r<k):=by
 obtain⟨xs,a,u⟩:=s
 obtain⟨h1,h2,h3,h4⟩:=hs
 simp only at h1 h2 h3 h4
 have hb:xs.length<=1048576:=h2
 have hso:jQ (xs,a+1,u) (m+1):=⟨h1,h2,by show 0<=a+1;omega,by show a+1<=m+1;omega⟩
 have hv:∀v:Int,0<=v->0<=v.tmod k/\v.tmod k<k:=λv hv=>⟨Int.tmod_nonneg k hv,Int.tmod_lt_of_pos v (by omega)⟩
 unfold iT
 have e1:IntKind.i64.wrap (a+1)=a+1:=wrap_i64 (by omega) (by omega)
 have e2:IntKind.i64.wrap (a+1-1)=a:=by rw[wrap_i64 (by omega) (by omega)];omega
 simp only[e1,e2]
 rw[ah (by simp;omega)]
 by_cases h0:xs.length=0
 ·rw[aj (by simp[h0]),aj (by omega),wrap_i64 (by omega) (by omega)]
  exact Y.ret hso (hv _ (by omega))
 ·have hl:(0:Int)<(xs.length:Int):=by omega
  have t1:=Int.tmod_nonneg (xs.length:Int) h3
  have t2:=Int.tmod_lt_of_pos a hl
  have t3:=Int.tmod_nonneg (xs.length:Int) (show 0<=a+1 by omega)
  have t4:=Int.tmod_lt_of_pos (a+1) hl
  have t5:0<=a.tdiv (xs.length:Int):=Int.tdiv_nonneg h3 (by omega)
  have t6:a.tdiv (xs.length:Int)<=a:=by
   rw[YS h3]
   exact Int.ediv_le_self _ h3
  have c1:=aab h1 (a.tmod (xs.length:Int)).toNat
  have c2:=aab h1 ((a+1).tmod (xs.length:Int)).toNat
  rw[ah (by simp[h0]),aj (by omega),aj ⟨t1,t2⟩,aj (by omega)]
  generalize xs.getD (a.tmod (xs.length:Int)).toNat 0=x0 at *
  generalize xs.getD ((a+1).tmod (xs.length:Int)).toNat 0=x1 at *
  generalize a.tdiv (xs.length:Int)=q at *
  have f1:IntKind.i64.wrap x0=x0:=wrap_i64 (by omega) (by omega)
  have f2:IntKind.i64.wrap x1=x1:=wrap_i64 (by omega) (by omega)
  have f3:IntKind.i64.wrap q=q:=wrap_i64 (by omega) (by omega)
  have f4:IntKind.i64.wrap (q*37)=q*37:=wrap_i64 (by omega) (by omega)
  have f5:IntKind.i64.wrap (x0+q*37)=x0+q*37:=wrap_i64 (by omega) (by omega)
  have f6:IntKind.i64.wrap ((x0+q*37)*251)=(x0+q*37)*251:=wrap_i64 (by omega) (by omega)
  have f7:IntKind.i64.wrap (x1*13)=x1*13:=wrap_i64 (by omega) (by omega)
  have f8:IntKind.i64.wrap ((x0+q*37)*251+x1*13)=(x0+q*37)*251+x1*13:=wrap_i64 (by omega) (by omega)
  have f9:IntKind.i64.wrap ((x0+q*37)*251+x1*13+a)=(x0+q*37)*251+x1*13+a:=wrap_i64 (by omega) (by omega)
  simp only[f1,f2,f3,f4,f5,f6,f7,f8,f9]
  refine Y.ite (λ_=>Y.yes (by omega) (Y.yes ⟨t3,t4⟩ (Y.yes (by omega) (Y.ret hso (hv _ (by omega)))))) (λ_=>Y.yes (by omega) (Y.ret hso (hv _ (by omega))))
theorem pick{n:Nat}{s:j_}{m:Int}{l:List Int}(hs:jQ s m)(hm:m<=1099511627776)(hk:1<=l.length)(hk2:l.length<=1048576):Y (mh n s l) (m+1) (λr=>r∈l):=
 (next hs hm (k:=(l.length:Int)) (by omega) (by omega)).bind λr _ h hr=>Y.yes hr (Y.ret h (by
  have hi:r.toNat<l.length:=by omega
  rw[eP,fG hi]
  exact om hi))
end Go.Proofs.YtgppmpedglhhfaaGreatDoor.FO

/- The draws of stores and ops. -/
import Derived.Test.YtailcbngagacaabGreatDrawMath
namespace Go.Proofs.YtailcbngagacaabGreat.Gi
open Go Ow ni nM oQ mP Gh
def dD (l:List Int):Prop:=fG l/\l.length<=1000
def MS (m:dm):Prop:=dD m.2.2.2.1
def BN (b:Bx):Prop:=b.1.length<=12/\b.2.2.2.1.length<=7/\∀m∈b.2.2.2.1,MS m
def EC (s:bQ):Prop:=s.2.1.length<=4/\∀b∈s.2.1,BN b
def Io (o:OpC):Prop:=o.2.1.length<=12/\o.2.2.1.length<=12/\o.2.2.2.1.length<=7/\dD o.2.2.2.2.2.2.2.1
theorem MS.ok {m:dm} (h:MS m):rz m:=by show m.2.2.2.1.length<=big; have:=h.2; unfold big; omega
theorem BN.ok {b:Bx} (h:BN b):okB b:=⟨by have:=h.1; unfold big; omega,by have:=h.2.1; unfold big; omega,fun m hm=>(h.2.2 m hm).ok⟩
theorem EC.ok {s:bQ} (h:EC s):gW s:=⟨by have:=h.1; unfold big; omega,fun b hb=>(h.2 b hb).ok⟩
theorem Io.ok {o:OpC} (h:Io o):okO o:=⟨by have:=h.1; unfold big; omega,by have:=h.2.1; unfold big; omega,by have:=h.2.2.1; unfold big; omega,by have:=h.2.2.2.2; unfold big; omega⟩
theorem JH {L:List (List Int)} (h:L.all (fun l=>decide (l.length<=12))=true) (i:Nat):(L.getD i []).length<=12:=by
 rw [h_]
 cases hi:L[i]? with
 | none=>simp
 | some x=>simpa using eO.1 h x (qm hi)
theorem NH {A:Type} {P:A->Prop} {l:List A} {x:A} (h:∀y∈l,P y) (hx:P x):∀y∈l++[x],P y:=fun y hy=>by
 rcases bW.1 hy with hy | hy
 ·exact h y hy
 ·simp only [fV] at hy; subst hy; exact hx
theorem aaJ {A:Type} {P:A->Prop} {k:Nat} {x:A} (hx:P x):∀y∈List.replicate k x,P y:=fun y hy=>by rw [(List.mem_replicate.1 hy).2]; exact hx
theorem message {n:Nat} {s:gL} {m u:Int} (hs:iO s m) (hm:m<=68719476736) (hn:big<n):Y (GM n s u) (m+6000) MS:=by
 unfold GM
 refine (next hs (by omega) (by omega) (by omega)).bind fun r s1 h1 _=>(next h1 (by omega) (by omega) (by omega)).bind fun r s2 h2 _=>(draw h2 (by omega) hn).bind fun r s3 h3 hr=>Y.ret (h3.up (by omega)) hr
theorem box {n:Nat} {s:gL} {m v:Int} {nm:List Int} (hs:iO s m) (hm:m<=34359738368) (hnm:nm.length<=12) (hn:big<n):Y (GL n s nm v) (m+20000) (fun b=>BN b/\b.2.2.2.1.length<=3):=by
 unfold GL
 refine (next hs (by omega) (by omega) (by omega)).bind fun r s1 h1 hr=>?_
 obtain ⟨k,rfl⟩:=Bl hr.1
 refine cnt (N:=n) (k:=k) (fun j (v:Int×gL×Bx×Bx×Unit)=>v.1=(j:Int)/\j<=k/\iO v.2.1 (m+1+6001 * (k - j))/\BN v.2.2.2.1/\v.2.2.2.1.2.2.2.1.length+j=k) (fun o:Option (Bx×gL×Unit)=>Y o (m+20000) (fun b=>BN b/\b.2.2.2.1.length<=3)) ?_ (by unfold big at hn; omega) ⟨rfl,bP _,h1.up (by omega),⟨hnm,by simp,fun m hm=>by simp at hm⟩,by simp⟩
 intro j L v ⟨e1,e2,e3,e4,e5⟩ hL
 refine Y.ite (fun hc=>?_) (fun hc=>Y.ret (e3.up (by omega)) ⟨e4,by omega⟩)
 have hc:v.1>0:=by simpa using hc
 refine (message e3 (by omega) hn).bind fun x s2 h2 hx=>Y.yes (by simp; omega) ((next h2 (by omega) (by omega) (by omega)).bind fun r s3 h3 _=>hL _ (j - 1) (by omega) ⟨?_,by omega,h3.up (by omega),⟨e4.1, ?_,NH e4.2.2 hx⟩, ?_⟩)
 ·show IntKind.i64.wrap (v.1 - 1)=_
  rw [wrap_i64 (by omega) (by omega)]; omega
 ·show (v.2.2.2.1.2.2.2.1++[x]).length<=7
  simp; omega
 ·show (v.2.2.2.1.2.2.2.1++[x]).length+(j - 1)=k
  simp; omega
theorem store {n:Nat} {s:gL} {m:Int} (hs:iO s m) (hm:m<=17179869184) (hn:big<n):Y (Lu n s) (m+100000) (fun t=>EC t/\t.2.1.length<=3):=by
 unfold Lu
 refine (next hs (by omega) (by omega) (by omega)).bind fun r s1 h1 hr=>?_
 obtain ⟨k,rfl⟩:=Bl hr.1
 refine cnt (N:=n) (k:=k) (fun j (v:Int×gL×bQ×bQ×Unit)=>v.1=(j:Int)/\j<=k/\iO v.2.1 (m+1+20000 * (k - j))/\EC v.2.2.2.1/\v.2.2.2.1.2.1.length+j=k) (fun o:Option (bQ×gL×Unit)=>Y o (m+100000) (fun t=>EC t/\t.2.1.length<=3)) ?_ (by unfold big at hn; omega) ⟨rfl,bP _,h1.up (by omega),⟨by simp,fun m hm=>by simp at hm⟩,by simp⟩
 intro j L v ⟨e1,e2,e3,e4,e5⟩ hL
 refine Y.ite (fun hc=>?_) (fun hc=>Y.ret (e3.up (by omega)) ⟨e4,by omega⟩)
 have hc:v.1>0:=by simpa using hc
 refine Y.yes ⟨by omega,by simp; omega⟩ ((box e3 (by omega) (JH (by decide) _) hn).bind fun x s2 h2 hx=>Y.yes (by simp; omega) (hL _ (j - 1) (by omega) ⟨?_,by omega,h2.up (by omega),⟨?_,NH e4.2 hx.1⟩, ?_⟩))
 ·show IntKind.i64.wrap (v.1 - 1)=_
  rw [wrap_i64 (by omega) (by omega)]; omega
 ·show (v.2.2.2.1.2.1++[x]).length<=4
  simp; omega
 ·show (v.2.2.2.1.2.1++[x]).length+(j - 1)=k
  simp; omega
theorem ahq {n:Nat} {s:gL} {m:Int} (hs:iO s m) (hm:m<=17179869184) (hn:big<n):Y (Lt n s) (m+40000) BN:=by
 unfold Lt
 refine (box hs (by omega) (by decide) hn).bind fun b s1 h1 hb=>(next h1 (by omega) (by omega) (by omega)).bind fun r s2 h2 _=>?_
 refine Y.ite (fun _=>(next h2 (by omega) (by omega) (by omega)).bind fun r s3 h3 hr=>Y.yes hr (Y.ret (h3.up (by omega)) ⟨JH (by decide) _,hb.1.2⟩)) (fun _=>?_)
 refine Y.ite (fun _=>(pick h2 (by omega) (by simp) (by simp)).bind fun r s3 h3 _=>Y.ret (h3.up (by omega)) hb.1) (fun _=>?_)
 refine Y.ite (fun _=>(pick h2 (by omega) (by simp) (by simp)).bind fun r s3 h3 _=>(message h3 (by omega) hn).bind fun x s4 h4 hx=>Y.yes (by simp; omega) (Y.ret (h4.up (by omega)) ⟨hb.1.1, ?_,NH hb.1.2.2 hx⟩)) (fun _=>?_)
 ·show (b.2.2.2.1++[x]).length<=7
  simp; omega
 refine Y.ite (fun _=>Y.yes (by decide) (Y.ret (h2.up (by omega)) ⟨hb.1.1, ?_,aaJ ⟨pV,by show ([]:List Int).length<=1000; simp⟩⟩)) (fun _=>Y.ret (h2.up (by omega)) hb.1)
 show (List.replicate _ _).length<=7
 simp
theorem ahs {n:Nat} {s:gL} {m:Int} (hs:iO s m) (hm:m<=8589934592) (hn:big<n):Y (Ls n s) (m+200000) EC:=by
 unfold Ls
 refine (store hs (by omega) hn).bind fun b s1 h1 hb=>(next h1 (by omega) (by omega) (by omega)).bind fun r s2 h2 _=>?_
 refine Y.ite (fun _=>(pick h2 (by omega) (by simp) (by simp)).bind fun r s3 h3 _=>Y.ret (h3.up (by omega)) hb.1) (fun _=>?_)
 refine Y.ite (fun _=>(ahq h2 (by omega) hn).bind fun x s3 h3 hx=>Y.yes (by simp; omega) (Y.ret (h3.up (by omega)) ⟨?_,NH hb.1.2 hx⟩)) (fun _=>?_)
 ·show (b.2.1++[x]).length<=4
  simp; omega
 refine Y.ite (fun _=>Y.yes (by decide) (Y.ret (h2.up (by omega)) ⟨?_,aaJ ⟨?_, ?_,fun m hm=>by simp at hm⟩⟩)) (fun _=>Y.ret (h2.up (by omega)) hb.1)
 ·show (List.replicate _ _).length<=4
  simp
 ·show ([]:List Int).length<=12
  simp
 ·show ([]:List dm).length<=7
  simp
theorem ahX {n:Nat} (k:Int):G (u7 n k) (fun _=>True):=⟨_,copies k,trivial⟩
theorem Ke {n:Nat} {s:gL} {m:Int} (hs:iO s m) (hm:m<=549755813888) (hn:big<n):Y (Be n s) (m+5) (fun r=>r.length<=5):=by
 unfold Be
 refine cnt (N:=n) (k:=5) (fun j (v:Int×gL×List Int×Unit)=>v.1+j=6/\j<=5/\iO v.2.1 (m+(5 - j))/\v.2.2.1.length+j<=5) (fun o:Option (List Int×gL×Unit)=>Y o (m+5) (fun r=>r.length<=5)) ?_ (by unfold big at hn; omega) ⟨by simp,bP _,hs.up (by omega),by simp⟩
 intro j L v ⟨e1,e2,e3,e4⟩ hL
 refine Y.ite (fun hc=>?_) (fun hc=>Y.ret (e3.up (by omega)) (by omega))
 have hc:v.1<6:=by simpa using hc
 have hw:IntKind.i64.wrap (v.1+1)+((j - 1:Nat):Int)=6:=by rw [wrap_i64 (by omega) (by omega)]; omega
 refine (Ey e3 (by omega) (by omega) (by omega)).bind fun _ s2 h2 _=>Y.ite (fun _=>Y.yes (by simp; omega) (hL _ (j - 1) (by omega) ⟨hw,by omega,h2.up (by omega), ?_⟩)) (fun _=>hL _ (j - 1) (by omega) ⟨hw,by omega,h2.up (by omega), ?_⟩)
 ·show (v.2.2.1++[_]).length+(j - 1)<=5
  simp; omega
 ·show v.2.2.1.length+(j - 1)<=5
  omega
theorem op {n:Nat} {s:gL} {m:Int} (hs:iO s m) (hm:m<=68719476736) (hn:big<n):Y (DU n s) (m+2000) Io:=by
 unfold DU
 refine (pick hs (by omega) (by simp) (by simp)).bind fun r s1 h1 _=>(next h1 (by omega) (by omega) (by omega)).bind fun r s2 h2 hr=>Y.yes hr ?_
 repeat' (first
  | refine Y.tC (ahX _) fun _ _=>?_
  | refine (next (by assumption) (by omega) (by decide) (by decide)).bind fun _ _ _ _=>?_
  | refine (Ke (by assumption) (by omega) hn).bind fun _ _ _ _=>?_
  | refine (leaf (by assumption) (by omega) hn).bind fun _ _ _ _=>?_
  | refine Y.yes (by assumption) ?_
  | refine Y.ret (iO.up (by assumption) (by omega)) ⟨JH (by decide) _, ?_, ?_, ?_⟩
  | refine Y.ite (fun _=>?_) (fun _=>?_)
  | exact JH (by decide) _
  | exact (by simp:([]:List Int).length<=12)
  | exact (by simp:([]:List Int).length<=7)
  | exact lY (by assumption) (by decide)
  | exact ⟨pV,by show ([]:List Int).length<=1000; simp⟩
  | assumption)
end Go.Proofs.YtailcbngagacaabGreat.Gi

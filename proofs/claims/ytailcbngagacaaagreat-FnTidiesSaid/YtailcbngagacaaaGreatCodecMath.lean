/- Packing and reading of ops, on both sides. -/
import Derived.Test.YtailcbngagacaaaGreatGoodMath
set_option linter.unusedVariables false
set_option linter.unusedSimpArgs false
namespace Go.Proofs.YtailcbngagacaaaGreat.kK
open Go Ow JO kF qc iw gU tK
def pR (l:List Int):Prop:=∀x∈l,0<=x/\x<=255
theorem vH {l:List Int} (h:pR l) (k:Nat):pR (l.take k):=fun x hx=>h x (an6 hx)
theorem xu {l:List Int} (h:pR l) (k:Nat):pR (l.drop k):=fun x hx=>h x (List.mem_of_mem_drop hx)
theorem rq {l m:List Int} (h:pR l) (h':pR m):pR (l++m):=fun x hx=>(ann.1 hx).elim (h x) (h' x)
theorem ou {x:Int} {m:List Int} (h:0<=x/\x<=255) (h':pR m):pR (x :: m):=fun y hy=>(anq.1 hy).elim (fun e=>e▸h) (h' y)
theorem Ms (k:Nat):pR (List.replicate k 0):=fun x hx=>by rw [(List.mem_replicate.1 hx).2]; omega
theorem BL {n:Int} (h0:0<=n) (h1:n<=65535):pR (two n):=ou (by omega) (ou (by omega) (fun x hx=>absurd hx (aot)))
theorem vG {l:List Int} (h:pR l) (i:Nat):0<=l.getD i 0/\l.getD i 0<=255:=by
 by_cases hi:i<l.length
 ·rw [getD_lt hi]; exact h _ (anI hi)
 ·rw [anr,aoQ (by omega)]
  exact ⟨ao3 _,by show (0:Int)<=255; omega⟩
theorem wrap_u8 {x:Int} (h1:0<=x) (h2:x<=255):IntKind.u8.wrap x=x:=by
 simp [IntKind.wrap,IntKind.bits,IntKind.signed]
 omega
theorem xG {n:Nat} {x:Int} (h0:0<=x) (h1:x<=65535):nY n x=some (two x,()):=by
 unfold nY two
 rw [ao7 h0,ao8 h0,wrap_i64 (by omega) (by omega),wrap_u8 (by omega) (by omega),wrap_u8 (by omega) (by omega)]
 rfl
theorem zD {n:Nat} {x:Int} (h0:0<=x) (h1:x<=65535):mU n x=some (two x,()):=xG (n:=n) h0 h1
theorem Ju (l:List Int) (x:Int):yJ (l++[x])=(yJ l * 31+x) % 65521:=by simp [yJ]
theorem yu:∀(l:List Int),0<=yJ l/\yJ l<=65520:=fun l=>by
 rcases List.eq_nil_or_concat l with rfl | ⟨m,x,rfl⟩
 ·exact ⟨by decide,by decide⟩
 ·rw [List.concat_eq_append,Ju]; omega
theorem Na {l:List Int} (h:pR l) {i:Nat} (hi:i<l.length):(IntKind.i64.wrap ((IntKind.i64.wrap (yJ (l.take i) * (31:Int)))+(IntKind.i64.wrap l[i]))).tmod (65521:Int)=yJ (l.take (i+1)):=by
 have h1:=yu (l.take i)
 have h2:=h _ (anI hi)
 rw [apj hi,Ju,wrap_i64 (x:=yJ (l.take i) * 31) (by omega) (by omega),wrap_i64 (x:=l[i]) (by omega) (by omega),wrap_i64 (by omega) (by omega),ao8 (by omega)]
theorem WE {n:Nat} {l:List Int} (h:pR l) (hb:l.length<=big) (hn:big<n):uF n l=some (yJ l,()):=by
 have hb':l.length<=1048576:=hb
 unfold uF
 refine (aT (fun i=>(yJ (l.take i),l,(l.length:Int),(i:Int),())) (fun _=>none) (some (yJ l,())) (m:=l.length) rfl (by omega) ?_ ?_).trans (dn (fun _ _ _=>rfl))
 ·intro L i hi _
  simp only [anG,hi,aox,aof,aJ hi,fV hi,aX hi (by omega),Na h hi]
  rfl
 ·intro L _
  simp
theorem WH {n:Nat} {l:List Int} (h:pR l) (hb:l.length<=big) (hn:big<n):uJ n l=some (yJ l,()):=by
 have hb':l.length<=1048576:=hb
 unfold uJ
 refine (aT (fun i=>(l,yJ (l.take i),(i:Int),())) (fun _=>none) (some (yJ l,())) (m:=l.length) rfl (by omega) ?_ ?_).trans (dn (fun _ _ _=>rfl))
 ·intro L i hi _
  simp only [anG,hi,aox,aof,aJ hi,fV hi,aX hi (by omega),Na h hi]
  rfl
 ·intro L _
  simp
theorem yT {R:Type} {p:Nat->Bool} {r fin:R} (hne:r≠fin):∀{m i:Nat},dI (fun j=>if p j=true then some r else none) fin m i=fin->∀j,i<=j->j<i+m->p j=false
 | 0,i,_,j,h1,h2=>by omega
 | m+1,i,h,j,h1,h2=>by
  rw [dI] at h
  cases hp:p i with
  | true=>rw [hp] at h; exact absurd h hne
  | false=>
   rw [hp] at h
   by_cases e:j=i
   ·rw [e]; exact hp
   ·exact yT hne h j (by omega) (by omega)
theorem Bd {us:List Int} (h:Cn us=true):∀u∈us,1<=u/\u<=999:=by
 intro u hu
 obtain ⟨j,hj,rfl⟩:=aoc.1 hu
 have h1:=Hu us
 rw [h] at h1
 have h2:=yT (by simp) h1 j (anO _) (by omega)
 unfold Fq at h2
 rw [getD_lt hj] at h2
 have:=(aor.1 h2).1
 simpa using this
structure ES (o:OpC):Prop where
 ro:RO o
 data:pR o.2.2.2.2.2.2.2.1
theorem ES.mode {o:OpC} (h:ES o):0<=o.2.2.2.2.1/\o.2.2.2.2.1<=3:=by
 by_cases h4:o.1=4
 ·have:=h.ro.mode h4; omega
 ·have:=h.ro.form
  unfold yV at this
  simp only [ank,aol,ao1,h4,false_or] at this
  have:=this.2.2.1
  omega
theorem ES.box {o:OpC} (h:ES o):o.2.1.length<=8/\pR o.2.1:=⟨h.ro.box.1.2,fun c hc=>by have:=h.ro.box.2 c hc; omega⟩
theorem ES.to' {o:OpC} (h:ES o):o.2.2.1.length<=8/\pR o.2.2.1:=by
 by_cases h4:o.1=5\/o.1=6
 ·have:=h.ro.to' h4
  exact ⟨this.1.2,fun c hc=>by have:=this.2 c hc; omega⟩
 ·have h5:o.1≠5:=fun e=>h4 (.inl e)
  have h6:o.1≠6:=fun e=>h4 (.inr e)
  have:=h.ro.form
  unfold yV at this
  simp only [ank,aol,ao1,h5,h6,false_or] at this
  rw [this.1]
  exact ⟨anO _,fun x hx=>absurd hx (aot)⟩
theorem Vy {us:List Int} (h:∀u∈us,1<=u/\u<=999):pR (us.flatMap two):=fun x hx=>by
 obtain ⟨u,hu,hx⟩:=anR.1 hx
 have:=h u hu
 exact BL (by omega) (by omega) x hx
theorem ES.body {o:OpC} (h:ES o):pR (j6 o)/\(j6 o).length<=500:=by
 have h1:=h.box
 have h2:=h.to'
 have h3:=h.mode
 have h4:=h.ro
 have h5:=h4.kind
 have h6:=h4.few
 have h7:=h4.flags
 have h8:=h4.date
 have h9:=h4.data
 refine ⟨?_,by rw [y9]; omega⟩
 unfold j6
 exact ou (by omega) (ou (by omega) (rq h1.2 (ou (by omega) (rq h2.2 (ou (by omega) (rq (Vy (Bd h4.WN)) (ou (by omega) (ou (by omega) (rq (BL h8.1 (by omega)) (rq (BL (by omega) (by omega)) h.data))))))))))
theorem ES.head {o:OpC} (h:ES o):pR (vD o)/\(vD o).length<=502:=by
 have:=h.body
 exact ⟨rq (BL (by omega) (by omega)) this.1,by rw [Mw]; omega⟩
def pE (o:OpC):List Int:=o.1 :: (o.2.1.length:Int) :: (o.2.1++(o.2.2.1.length:Int) :: (o.2.2.1++[(o.2.2.2.1.length:Int)]))
def JZ (o:OpC):List Int:=o.2.2.2.2.1 :: o.2.2.2.2.2.1 :: (two o.2.2.2.2.2.2.1++(two (o.2.2.2.2.2.2.2.1.length:Int)++o.2.2.2.2.2.2.2.1))
theorem Fw (o:OpC):j6 o=pE o++(o.2.2.2.1.flatMap two++JZ o):=by simp [j6,pE,JZ]
theorem JB (us:List Int) {i:Nat} (hi:i<us.length):(us.take (i+1)).flatMap two=(us.take i).flatMap two++two us[i]:=by
 rw [apj hi,apk,anT,apl,anJ]
theorem Jj {n:Nat} {o:OpC} (h:ES o) (hn:big<n):pI n o=some (bK o,()):=by
 have h1:=h.box
 have h2:=h.to'
 have h3:=h.mode
 have h4:=h.ro
 have h5:=h4.kind
 have h6:=h4.few
 have h7:=h4.flags
 have h8:=h4.date
 have h9:=h4.data
 have hb:=h.body
 have hh:=h.head
 have hu:=Bd h4.WN
 have hs:=yu (vD o)
 unfold big at hn
 unfold pI
 rw [wrap_u8 (x:=o.1) (by omega) (by omega),wrap_u8 (x:=(o.2.1.length:Int)) (by omega) (by omega),wrap_u8 (x:=(o.2.2.1.length:Int)) (by omega) (by omega),wrap_u8 (x:=(o.2.2.2.1.length:Int)) (by omega) (by omega)]
 rw [aoi (by simp only [anm,anD,ao6]; omega),aoi (by simp only [anm,anD,ao6]; omega),aoi (by simp only [anm,anD,ao6]; omega),aoi (by simp only [anm,anD,ao6]; omega)]
 have ef:((([o.1,(o.2.1.length:Int)]++o.2.1)++[(o.2.2.1.length:Int)])++o.2.2.1)++[(o.2.2.2.1.length:Int)]=pE o:=by simp [pE]
 have lf:(pE o).length<=100:=by simp only [pE,anm,anD,ao6]; omega
 rw [ef]
 refine (aT (fun i=>(o.2.2.2.1,(o.2.2.2.1.length:Int),(i:Int),o,pE o++(o.2.2.2.1.take i).flatMap two,())) (fun _=>none) (some (bK o,())) (m:=o.2.2.2.1.length) (by simp) (by omega) ?_ ?_).trans (dn (fun _ _ _=>rfl))
 ·intro L i hi _
  have hr:=hu _ (anI hi)
  simp only [anG,hi,aox,aof,aJ hi,fV hi,aX hi (by omega),xG (n:=n) (show 0<=o.2.2.2.1[i] by omega) (by omega),anf,JB _ hi,anB]
  rw [aoi (by simp only [anm,za,lW,aoX]; omega)]
 ·intro L _
  have lb:((pE o++o.2.2.2.1.flatMap two).length:Nat)<=200:=by simp only [anm,za]; omega
  simp only [apc,apd,anh,aog,ape]
  rw [aoi (by simp only [anD,ao6]; omega),xG h8.1 (by omega)]
  simp only [anf]
  rw [aoi (by simp only [anm,anD,ao6,lW] at lb ⊢; omega)]
  unfold dA
  simp only [anf]
  rw [xG (by omega) (by omega)]
  simp only [anf]
  rw [aoi (by simp only [anm,anD,ao6,lW] at lb ⊢; omega),aoi (by simp only [anm,anD,ao6,lW] at lb ⊢; omega)]
  rw [wrap_u8 (x:=o.2.2.2.2.1) (by omega) (by omega),wrap_u8 (x:=o.2.2.2.2.2.1) (by omega) (by omega)]
  have eb:((((pE o++o.2.2.2.1.flatMap two)++[o.2.2.2.2.1,o.2.2.2.2.2.1])++two o.2.2.2.2.2.2.1)++two (o.2.2.2.2.2.2.2.1.length:Int))++o.2.2.2.2.2.2.2.1=j6 o:=by rw [Fw]; simp [JZ]
  rw [eb,wrap_i64 (x:=((j6 o).length:Int)+4) (by omega) (by omega),xG (by omega) (by omega)]
  simp only [anf]
  rw [aoi (by rw [lW]; omega)]
  have eh:two (((j6 o).length:Int)+4)++j6 o=vD o:=rfl
  rw [eh,WE hh.1 (by unfold big; omega) (by unfold big; omega)]
  simp only [anf]
  rw [xG hs.1 (by omega)]
  simp only [anf]
  rw [aoi (by rw [lW]; omega)]
  rfl
theorem zS {n:Nat} {o:OpC} (h:ES o) (hn:big<n):lC n o=some (bK o,()):=by
 have h1:=h.box
 have h2:=h.to'
 have h3:=h.mode
 have h4:=h.ro
 have h5:=h4.kind
 have h6:=h4.few
 have h7:=h4.flags
 have h8:=h4.date
 have h9:=h4.data
 have hb:=h.body
 have hh:=h.head
 have hu:=Bd h4.WN
 have hs:=yu (vD o)
 unfold big at hn
 unfold lC
 rw [wrap_u8 (x:=o.1) (by omega) (by omega),wrap_u8 (x:=(o.2.1.length:Int)) (by omega) (by omega),wrap_u8 (x:=(o.2.2.1.length:Int)) (by omega) (by omega),wrap_u8 (x:=(o.2.2.2.1.length:Int)) (by omega) (by omega)]
 rw [aoi (by simp only [anm,anD,ao6]; omega),aoi (by simp only [anm,anD,ao6]; omega),aoi (by simp only [anm,anD,ao6]; omega),aoi (by simp only [anm,anD,ao6]; omega)]
 have ef:((([(0:Int),(0:Int),o.1,(o.2.1.length:Int)]++o.2.1)++[(o.2.2.1.length:Int)])++o.2.2.1)++[(o.2.2.2.1.length:Int)]=0 :: 0 :: pE o:=by simp [pE]
 have lf:(0 :: 0 :: pE o).length<=100:=by simp only [pE,anm,anD,ao6]; omega
 rw [ef]
 refine (aT (fun i=>(o,(i:Int),(0 :: 0 :: pE o)++(o.2.2.2.1.take i).flatMap two,())) (fun _=>none) (some (bK o,())) (m:=o.2.2.2.1.length) (by simp) (by omega) ?_ ?_).trans (dn (fun _ _ _=>rfl))
 ·intro L i hi _
  have hr:=hu _ (anI hi)
  simp only [anG,hi,aox,aof,aJ hi,fV hi,aX hi (by omega),zD (n:=n) (show 0<=o.2.2.2.1[i] by omega) (by omega),anf,JB _ hi,anB]
  rw [aoi (by simp only [anm,za,lW,aoX] at lf ⊢; omega)]
 ·intro L _
  have lb:((0 :: 0 :: pE o)++o.2.2.2.1.flatMap two).length<=200:=by rw [anm,za]; omega
  simp only [apc,apd,anh,aog,ape]
  rw [aoi (by simp only [anD,ao6] at lb ⊢; omega),zD h8.1 (by omega)]
  simp only [anf]
  rw [aoi (by simp only [anm,anD,ao6,lW] at lb ⊢; omega),zD (by omega) (by omega)]
  simp only [anf]
  rw [aoi (by simp only [anm,anD,ao6,lW] at lb ⊢; omega),aoi (by simp only [anm,anD,ao6,lW] at lb ⊢; omega)]
  rw [wrap_u8 (x:=o.2.2.2.2.1) (by omega) (by omega),wrap_u8 (x:=o.2.2.2.2.2.1) (by omega) (by omega)]
  have eb:(((((0 :: 0 :: pE o)++o.2.2.2.1.flatMap two)++[o.2.2.2.2.1,o.2.2.2.2.2.1])++two o.2.2.2.2.2.2.1)++two (o.2.2.2.2.2.2.2.1.length:Int))++o.2.2.2.2.2.2.2.1=0 :: 0 :: j6 o:=by rw [Fw]; simp [JZ]
  have el:((0 :: 0 :: j6 o).length:Int)+2=((j6 o).length:Int)+4:=by simp only [anD]; omega
  rw [eb,el,wrap_i64 (x:=((j6 o).length:Int)+4) (by omega) (by omega),zD (by omega) (by omega)]
  simp only [anf]
  rw [aoi (by rw [lW]; simp only [anD]; omega)]
  have eh:two (((j6 o).length:Int)+4)++(0 :: 0 :: j6 o).drop (two (((j6 o).length:Int)+4)).length=vD o:=rfl
  rw [eh,WH hh.1 (by unfold big; omega) (by unfold big; omega)]
  simp only [anf]
  rw [zD hs.1 (by omega)]
  simp only [anf]
  rw [aoi (by rw [lW]; omega)]
  rfl
end Go.Proofs.YtailcbngagacaaaGreat.kK

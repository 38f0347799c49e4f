/- slices.Grow of the nil slice of bytes, by the library's contract. -/
import Derived.Test.YtailcbngagacaaaGreatCutLib
import Derived.Shelf.Spec.SlicesGrow
set_option linter.unusedVariables false
set_option linter.unusedSimpArgs false
namespace Go.Proofs.YtailcbngagacaaaGreat.WA
open Go Ow
theorem acP (z:Array Value):∀k,(Builtin.zeroCells z k).size=k * z.size
 | 0=>by simp [Builtin.zeroCells]
 | k+1=>by
  have:=acP z k
  simp [Builtin.zeroCells,iR] at this ⊢
theorem aju [Fr] {P:Program} {ρ:Go.Shelf.Ren} (L:Go.Proofs.Lays8.n4 P ρ) {f:FuncId} {t e:TypeId} {T:bH} (hf:ρ.f 4=f) (he:ρ.t 25=e) (ht:dn P T t (.sl e (.int .u8))) (hTb:T.bytes e=1)
  (hcall:∀args w,(callFunc f args).run P w=.ok (.enter f args) w) {n:Nat} :
  aD P n ⟨f,[.into 0 [], .val (.int .i64) []],[.own (.sl e (.int .u8)) [e] [] []],fun _ (c:Cont [.int .i64])=>if 0<=(show Int from c.1)/\(show Int from c.1)<=1073741824 then some ([],()) else none⟩:=by
 subst hf he
 obtain ⟨_,_,hte,_,i0,hi,hb,_⟩:=ht
 rw [hTb] at hb
 obtain ⟨_,i1,g1,g2,g3⟩:=hte
 rw [hi] at g1
 simp only [au] at g1
 subst g1
 have hs:i0.size=1:=g2
 have hz:i0.zero=some (.int .u8 0):=g3
 refine ahL (k:=.int .u8) rfl rfl ?_
 intro c out hout args w _ hA
 have hlen:(0<=(show Int from c.1)/\(show Int from c.1)<=1073741824)/\out=([],()):=by
  split at hout
  ·rename_i h; exact ⟨h,(j4 hout).symm⟩
  ·simp at hout
 obtain ⟨hl,rfl⟩:=hlen
 obtain ⟨a⟩:=args
 match a,hA with
 | [v1,v2],⟨⟨b,hv1⟩,⟨cs,h1,h2⟩,_⟩=>
  subst hv1
  obtain ⟨h2,_⟩:=h2
  obtain ⟨e1,_⟩:=h1
  rw [h2] at e1
  simp only [jw,eX] at e1
  subst e1
  obtain ⟨m,hm⟩:∃m:Nat,(show Int from c.1)=(m:Int):=⟨(show Int from c.1).toNat,by omega⟩
  have hm':c.1=(m:Int):=hm
  rw [hm] at hl
  rw [hm']
  refine .inl ⟨hcall _ _, ?_⟩
  by_cases h0:m=0
  ·subst h0
   refine (Go.Proofs.Any8.slices_Grow_room L b 0 0 0 w (bN _) (by omega) (by omega) (by omega)).mono ?_
   rintro e' w' ⟨rfl,rfl⟩
   exact ⟨_,rfl,⟨rfl,rfl,bN _,fun _ _=>rfl⟩,rfl, .inl ⟨b,rfl,rfl⟩⟩
  ·refine (Go.Proofs.Any8.slices_Grow_grow L i0 (.int .u8 0) hi hz (by omega) b 0 0 m [] w (bN _) (by omega) (by rw [hb]; omega) (by omega) (by simp) (fun _=>rfl) (fun _ _ j v hj=>by simp at hj)).mono ?_
   rintro e' w' ⟨rfl,rfl⟩
   have hg:0+m<=grownCap w (0+m) 0 (ρ.t 25):=grownCap_ge w _ _ _
   refine ⟨_,rfl,⟨rfl,rfl,by simp [World.alloc],fun b hb=>?_⟩,rfl, .inr ⟨w.heap.size,grownCap w (0+m) 0 (ρ.t 25),([]:List Value).toArray++Builtin.zeroCells (Value.int .u8 0).cells (0+m - 0)++Builtin.zeroCells (Value.int .u8 0).cells (grownCap w (0+m) 0 (ρ.t 25) - (0+m)),rfl,bN _, ?_,fT _, ?_,fun i hi=>absurd hi (Nat.not_lt_zero i)⟩⟩
   ·simp [hp,World.alloc,Array.getElem?_push,Nat.ne_of_lt hb]
    rfl
   ·have hd:w.drew.heap=w.heap:=rfl
    simp [hp,World.alloc,hd]
   ·simp only [Array.size_append,acP,K.size]
    simp [Value.cells]
    omega
end Go.Proofs.YtailcbngagacaaaGreat.WA

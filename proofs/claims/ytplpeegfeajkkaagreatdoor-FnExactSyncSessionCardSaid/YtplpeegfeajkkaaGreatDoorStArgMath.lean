/- Stores among a law's arguments: read through, held against each other, measured. -/
import Derived.Test.YtplpeegfeajkkaaGreatDoorStoreMath
namespace Go.Proofs.YtplpeegfeajkkaaGreatDoor.oI
open Go Ow nE nQ
theorem Vp{n:Nat}{bs:List Int}(hb:bs.length<=big)(hn:big<n):DF n bs=some (bs,()):=by
 have hb':=hb
 unfold big at hb
 unfold DF
 rw[aj (by omega)]
 exact IQ (f:=λx=>some (x,())) (d:=(0:Int)) (λL v=>rfl) (λ_ _=>rfl) hb' hn
theorem toMessage{n:Nat}{m:cK}(h:lG m)(hn:big<n):Ht n m=some (m,()):=by
 unfold Ht
 rw[Vp h hn]
 rfl
theorem ati{n:Nat}{ms:List cK}(hb:ms.length<=big)(h:∀m∈ms,lG m)(hn:big<n):LH n ms=some (ms,()):=by
 have hb':=hb
 unfold big at hb
 unfold LH
 rw[aj (by omega)]
 exact IQ (f:=Ht n) (λL v=>rfl) (λm hm=>toMessage (h m hm) hn) hb' hn
theorem atf{n:Nat}{b:Bx}(h:okB b)(hn:big<n):Hr n b=some (b,()):=by
 unfold Hr
 rw[ati h.2.1 h.2.2 hn]
 rfl
theorem atg{n:Nat}{bs:List Bx}(hb:bs.length<=big)(h:∀b∈bs,okB b)(hn:big<n):LF n bs=some (bs,()):=by
 have hb':=hb
 unfold big at hb
 unfold LF
 rw[aj (by omega)]
 exact IQ (f:=Hr n) (λL v=>rfl) (λm hm=>atf (h m hm) hn) hb' hn
theorem atj{n:Nat}{s:cu}(h:iK s)(hn:big<n):LK n s=some (s,()):=by
 unfold LK
 rw[atg h.1 h.2 hn]
 rfl
theorem IW{n:Nat}{bs:List Int}(hb:bs.length<=big)(hn:big<n):Dv n bs bs=some (true,()):=by
 unfold Dv
 rw[aC (by simp)]
 refine z8 (f:=λx y=>some (decide (x=y),())) (d:=(0:Int)) (λL v=>rfl) (λ_ _=>by simp) hb hn
theorem amw{n:Nat}{m:cK}(h:lG m)(hn:big<n):GX n m m=some (true,()):=by
 unfold GX
 simp[IW h hn]
theorem amx{n:Nat}{ms:List cK}(hb:ms.length<=big)(h:∀m∈ms,lG m)(hn:big<n):Lg n ms ms=some (true,()):=by
 unfold Lg
 rw[aC (by simp)]
 exact z8 (f:=GX n) (λL v=>rfl) (λm hm=>amw (h m hm) hn) hb hn
theorem amt{n:Nat}{b:Bx}(h:okB b)(hn:big<n):GV n b b=some (true,()):=by
 unfold GV
 simp[amx h.2.1 h.2.2 hn]
theorem amu{n:Nat}{bs:List Bx}(hb:bs.length<=big)(h:∀b∈bs,okB b)(hn:big<n):Lf n bs bs=some (true,()):=by
 unfold Lf
 rw[aC (by simp)]
 exact z8 (f:=GV n) (λL v=>rfl) (λm hm=>amt (h m hm) hn) hb hn
theorem Z4{n:Nat}{s:cu}(h:iK s)(hn:big<n):Lh n s s=some (true,()):=by
 unfold Lh
 simp[amu h.1 h.2 hn]
def lM(m:cK):Prop:=m.2.2.2.1.length<=9223372036854775807
def lB(b:Bx):Prop:=b.1.length<=9223372036854775807/\b.2.2.2.1.length<=9223372036854775807/\∀m∈b.2.2.2.1,lM m
def lS(s:cu):Prop:=s.2.1.length<=9223372036854775807/\∀b∈s.2.1,lB b
theorem O0{n:Nat}{bs:List Int}(hl:bs.length<=9223372036854775807){k:Int}(h1:0<=k)(h2:k<=1048576):∃r,DD n bs k=some (r,())/\(r<0\/(r<=k/\bs.length<=big)):=by
 unfold DD big
 rw[wrap_i64 (by omega) (by omega)]
 by_cases h:k-(bs.length:Int)<0
 ·exact⟨-1,by simp[h],.inl (by omega)⟩
 ·exact⟨k-bs.length,by simp[h],.inr ⟨by omega,by omega⟩⟩
theorem as5{n:Nat}{m:cK}(hl:lM m){k:Int}(h1:0<=k)(h2:k<=1048576):∃r,Ho n m k=some (r,())/\(r<0\/(r<=k/\lG m)):=by
 unfold Ho
 obtain⟨r,g1,g2⟩:=O0 (n:=n) hl h1 h2
 rw[g1]
 simp only[aG]
 by_cases hr:r<0
 ·exact⟨-1,by simp[hr],.inl (by omega)⟩
 ·exact⟨r,by simp[hr],g2⟩
theorem as6{n:Nat}{ms:List cK}(hl:ms.length<=9223372036854775807)(hm:∀m∈ms,lM m){k:Int}(h1:0<=k)(h2:k<=1048576)(hn:big<n) :
  ∃r,LB n ms k=some (r,())/\(r<0\/(r<=k/\ms.length<=big/\∀m∈ms,lG m)):=by
 unfold LB
 rw[wrap_i64 (by omega) (by omega)]
 by_cases h:k-(ms.length:Int)<0
 ·exact⟨-1,by simp[h],.inl (by omega)⟩
 ·have hb:ms.length<=big:=by unfold big;omega
  obtain⟨r,g1,g2⟩:=Vk (f:=Ho n) (ok:=lG) (d:=((0:Int),(0:Int),(0:Int),([]:List Int),())) (xs:=ms) (λL v=>rfl) (λx hx k h1 h2=>as5 (hm x hx) h1 h2) hb ms.length 0 n (k-ms.length) (by omega) (by unfold big at hb hn;omega) (by omega) (by omega)
  refine⟨r,by simp only[h,cO,bg,aZ];exact g1,g2.imp id λg=>⟨by omega,hb,λm hm=>?_⟩⟩
  obtain⟨i,hi,rfl⟩:=qC.1 hm
  exact g.2 i hi (fQ _)
theorem as3{n:Nat}{b:Bx}(hl:lB b){k:Int}(h1:0<=k)(h2:k<=1048576)(hn:big<n):∃r,Hg n b k=some (r,())/\(r<0\/(r<=k/\okB b)):=by
 unfold Hg
 obtain⟨l1,l2,l3⟩:=hl
 rw[wrap_i64 (by omega) (by omega)]
 by_cases h:k-(b.1.length:Int)<0
 ·exact⟨-1,by simp[h],.inl (by omega)⟩
 ·obtain⟨r,g1,g2⟩:=as6 (n:=n) l2 l3 (k:=k-(b.1.length:Int)) (by omega) (by omega) hn
  simp only[h,cO,bg,aZ,g1,aG]
  by_cases hr:r<0
  ·exact⟨-1,by simp[hr],.inl (by omega)⟩
  ·exact⟨r,by simp[hr],.inr ⟨by have:=(g2.resolve_left hr).1;omega,by unfold big;omega,(g2.resolve_left hr).2⟩⟩
theorem as4{n:Nat}{bs:List Bx}(hl:bs.length<=9223372036854775807)(hm:∀b∈bs,lB b){k:Int}(h1:0<=k)(h2:k<=1048576)(hn:big<n) :
  ∃r,LA n bs k=some (r,())/\(r<0\/(r<=k/\bs.length<=big/\∀m∈bs,okB m)):=by
 unfold LA
 rw[wrap_i64 (by omega) (by omega)]
 by_cases h:k-(bs.length:Int)<0
 ·exact⟨-1,by simp[h],.inl (by omega)⟩
 ·have hb:bs.length<=big:=by unfold big;omega
  obtain⟨r,g1,g2⟩:=Vk (f:=Hg n) (ok:=okB) (d:=(([]:List Int),(0:Int),(0:Int),([]:List cK),())) (xs:=bs) (λL v=>rfl) (λx hx k h1 h2=>as3 (hm x hx) h1 h2 hn) hb bs.length 0 n (k-bs.length) (by omega) (by unfold big at hb hn;omega) (by omega) (by omega)
  refine⟨r,by simp only[h,cO,bg,aZ];exact g1,g2.imp id λg=>⟨by omega,hb,λm hm=>?_⟩⟩
  obtain⟨i,hi,rfl⟩:=qC.1 hm
  exact g.2 i hi (fQ _)
end Go.Proofs.YtplpeegfeajkkaaGreatDoor.oI

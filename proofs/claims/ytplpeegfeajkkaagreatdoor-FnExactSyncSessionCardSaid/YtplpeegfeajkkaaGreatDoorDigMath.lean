/- Numbers in digits, as the reference writes them. -/
import Derived.Test.YtplpeegfeajkkaaGreatDoorWMarkMath
namespace Go.Proofs.YtplpeegfeajkkaaGreatDoor.VM
open Go Ow nE nQ aI YJ
theorem aln(n:Int):nX n=ints (Lib.itoa n):=by
 unfold nX bytesOf ints
 simp
theorem RX(v:Nat):nX v=ints (Lib.decDigits v):=by rw[aln,apx]
theorem alo{v:Nat}(h:¬v<10):nX v=nX ((v / 10:Nat):Int)++[((48+v%10:Nat):Int)]:=by
 rw[RX,RX]
 conv=>lhs;rw[Lib.decDigits,dif_neg h]
 unfold ints
 rw[q9]
 congr 1
 show [((UInt8.ofNat (48+v%10)).toNat:Int)]=_
 rw[aeG (by omega)]
theorem ZO{v:Nat}(h:v<10):nX v=[((48+v:Nat):Int)]:=by
 rw[RX,Lib.decDigits_one h]
 show [((UInt8.ofNat (48+v)).toNat:Int)]=_
 rw[aeG h]
theorem VF{x:Int}(h0:0<=x)(h1:x<10):IntKind.u8.wrap (IntKind.i64.wrap (48+x))=48+x:=by
 rw[wrap_i64 (by omega) (by omega)]
 unfold IntKind.wrap
 simp[IntKind.bits,IntKind.signed]
 omega
theorem digits:∀(k n:Nat) (v:Nat),k+1<=n->v<10 ^ (k+1)->k<=17->vI n v=some (nX v,())/\(nX v).length<=k+1:=by
 intro k
 induction k with
 |zero=>
  intro n v hn hv _
  have hv:v<10:=by simpa using hv
  cases n with
  |zero=>omega
  |succ n=>
   rw[ZO hv]
   refine⟨?_,by simp⟩
   unfold vI
   rw[aj (by rw[dW];omega),VF (by omega) (by omega)]
   simp
 |succ k ih=>
  intro n v hn hv hk
  cases n with
  |zero=>omega
  |succ n=>
   by_cases h:v<10
   ·rw[ZO h]
    refine⟨?_,by simp⟩
    unfold vI
    rw[aj (by rw[dW];omega),VF (by omega) (by omega)]
    simp
   ·rw[Nat.pow_succ]at hv
    obtain⟨h1,h2⟩:=ih n (v / 10) (by omega) (by omega) (by omega)
    have hb:(10:Nat) ^ (k+1)<=10 ^ 17:=Nat.pow_le_pow_right (by decide) (by omega)
    have hb2:(10:Nat) ^ 17=100000000000000000:=by decide
    have e1:(v:Int).tdiv 10=((v / 10:Nat):Int):=by rw[Yi (by omega)];omega
    have e2:(v:Int).tmod 10=((v%10:Nat):Int):=by rw[Qi (by omega)];omega
    rw[alo h]
    refine⟨?_,by rw[dN,gL];omega⟩
    unfold vI
    rw[aC (by rw[dW];omega),aj (by omega),e1,wrap_i64 (by omega) (by omega),h1]
    simp only[aG]
    rw[aj (by omega),aj (by rw[gL];omega),e2,VF (by omega) (by omega)]
    simp
theorem digit{n:Nat}(hn:4<=n){v:Int}(h0:0<=v)(h1:v<10000):vI n v=some (nX v,())/\(nX v).length<=4:=by
 obtain⟨m,rfl⟩:∃m:Nat,v=m:=⟨v.toNat,by omega⟩
 exact digits 3 n m (by omega) (by omega) (by omega)
theorem ZN{v:Int}(h0:0<=v)(h1:v<10000):Ew v=some (nX v,()):=by
 unfold Ew
 rw[aj (by omega)]
end Go.Proofs.YtplpeegfeajkkaaGreatDoor.VM

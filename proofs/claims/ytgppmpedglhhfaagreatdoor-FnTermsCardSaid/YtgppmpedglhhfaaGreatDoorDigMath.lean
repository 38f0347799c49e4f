/- Numbers in digits, as the reference writes them. -/
import Derived.Test.YtgppmpedglhhfaaGreatDoorBackMath
namespace Go.Proofs.YtgppmpedglhhfaaGreatDoor.PM
open Go Ow nL nM aI uo
theorem amU(n:Int):kD n=ints (Lib.itoa n):=by
 unfold kD bytesOf ints
 simp
theorem RV(v:Nat):kD v=ints (Lib.decDigits v):=by rw[amU,Io]
theorem amV{v:Nat}(h:¬v<10):kD v=kD ((v / 10:Nat):Int)++[((48+v%10:Nat):Int)]:=by
 rw[RV,RV]
 conv=>lhs;rw[Lib.decDigits,dif_neg h]
 unfold ints
 rw[Aa]
 congr 1
 show [((UInt8.ofNat (48+v%10)).toNat:Int)]=_
 rw[FD (by omega)]
theorem aay{v:Nat}(h:v<10):kD v=[((48+v:Nat):Int)]:=by
 rw[RV,Lib.decDigits_one h]
 show [((UInt8.ofNat (48+v)).toNat:Int)]=_
 rw[FD h]
theorem XF{x:Int}(h0:0<=x)(h1:x<10):IntKind.u8.wrap (IntKind.i64.wrap (48+x))=48+x:=by
 rw[wrap_i64 (by omega) (by omega)]
 unfold IntKind.wrap
 simp[IntKind.bits,IntKind.signed]
 omega
theorem digits:∀(k n:Nat) (v:Nat),k+1<=n->v<10 ^ (k+1)->k<=17->rq n v=some (kD v,())/\(kD v).length<=k+1:=by
 intro k
 induction k with
 |zero=>
  intro n v hn hv _
  have hv:v<10:=by simpa using hv
  cases n with
  |zero=>omega
  |succ n=>
   rw[aay hv]
   refine⟨?_,by simp⟩
   unfold rq
   rw[aj (by rw[bF];omega),XF (by omega) (by omega)]
   simp
 |succ k ih=>
  intro n v hn hv hk
  cases n with
  |zero=>omega
  |succ n=>
   by_cases h:v<10
   ·rw[aay h]
    refine⟨?_,by simp⟩
    unfold rq
    rw[aj (by rw[bF];omega),XF (by omega) (by omega)]
    simp
   ·rw[Nat.pow_succ]at hv
    obtain⟨h1,h2⟩:=ih n (v / 10) (by omega) (by omega) (by omega)
    have hb:(10:Nat) ^ (k+1)<=10 ^ 17:=Nat.pow_le_pow_right (by decide) (by omega)
    have hb2:(10:Nat) ^ 17=100000000000000000:=by decide
    have e1:(v:Int).tdiv 10=((v / 10:Nat):Int):=by rw[YS (by omega)];omega
    have e2:(v:Int).tmod 10=((v%10:Nat):Int):=by rw[YT (by omega)];omega
    rw[amV h]
    refine⟨?_,by rw[dI,Zo];omega⟩
    unfold rq
    rw[ah (by rw[bF];omega),aj (by omega),e1,wrap_i64 (by omega) (by omega),h1]
    simp only[aQ]
    rw[aj (by omega),aj (by rw[Zo];omega),e2,XF (by omega) (by omega)]
    simp
theorem digit{n:Nat}(hn:4<=n){v:Int}(h0:0<=v)(h1:v<10000):rq n v=some (kD v,())/\(kD v).length<=4:=by
 obtain⟨m,rfl⟩:∃m:Nat,v=m:=⟨v.toNat,by omega⟩
 exact digits 3 n m (by omega) (by omega) (by omega)
end Go.Proofs.YtgppmpedglhhfaaGreatDoor.PM

/- Vaults: sizes, copies, equalities. -/
import Derived.Test.YtplpeegfeajkkaaGreatDoorVaultMath
namespace Go.Proofs.YtplpeegfeajkkaaGreatDoor.w9
open Go Ow nE nQ BH oI nS xV tK Iw M8 Qk
theorem atl{n:Nat}{v:l_}(h:yc v)(hn:big<n):LM n v=some (v,()):=by
 unfold LM
 rw[Vp h.s1 hn,Vp h.s2 hn,atj h.st hn]
 rfl
theorem amA{n:Nat}{v:l_}(h:yc v)(hn:big<n):GZ n v v=some (true,()):=by
 unfold GZ
 rw[IW h.s1 hn,IW h.s2 hn,Z4 h.st hn]
 simp
def lV(v:l_):Prop:=(v.2.1.length<=9223372036854775807/\dX v.2.1)/\(v.2.2.1.length<=9223372036854775807/\dX v.2.2.1)/\lS v.2.2.2.1
theorem as8{n:Nat}{v:l_}(hl:lV v)(hn:big<n):∃r,LC n v 1048576=some (r,())/\(r<0\/(r<=1048576/\yc v)):=by
 unfold LC
 obtain⟨r1,g1,g2⟩:=O0 (n:=n) hl.1.1 (k:=1048576) (by omega) (by omega)
 simp only[g1,aG]
 by_cases c1:r1<0
 ·exact⟨-1,by simp[c1],.inl (by omega)⟩
 have g2:=g2.resolve_left c1
 obtain⟨r2,e1,e2⟩:=O0 (n:=n) hl.2.1.1 (k:=r1) (by omega) (by omega)
 simp only[c1,cO,bg,aZ,e1,aG]
 by_cases c2:r2<0
 ·exact⟨-1,by simp[c2],.inl (by omega)⟩
 have e2:=e2.resolve_left c2
 unfold P5
 obtain⟨r3,f1,f2⟩:=as4 (n:=n) hl.2.2.1 hl.2.2.2 (k:=r2) (by omega) (by omega) hn
 simp only[c2,cO,bg,aZ,f1,aG]
 by_cases c3:r3<0
 ·exact⟨-1,by simp[c3],.inl (by omega)⟩
 rcases f2 with h|⟨h6,h4,h5⟩
 ·exact absurd h c3
 ·exact⟨r3,by simp[c3],.inr ⟨by omega,g2.2,hl.1.2,e2.2,hl.2.1.2,h4,h5⟩⟩
end Go.Proofs.YtplpeegfeajkkaaGreatDoor.w9

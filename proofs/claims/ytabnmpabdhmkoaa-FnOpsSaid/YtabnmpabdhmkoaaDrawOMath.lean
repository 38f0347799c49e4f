/- A store and an op, drawn. -/
import Derived.Test.YtabnmpabdhmkoaaOwF
import Derived.Test.YtabnmpabdhmkoaaLoopLib
import Derived.Test.YtabnmpabdhmkoaaStoreMath
import Derived.Test.YtabnmpabdhmkoaaOpsMath
import Derived.Test.YtabnmpabdhmkoaaDrawMath
import Derived.Test.YtabnmpabdhmkoaaDrawSMath
import Derived.Test.YtabnmpabdhmkoaaFoF
set_option linter.unusedSectionVars false
set_option linter.unusedVariables false
set_option linter.unusedSimpArgs false
namespace Go.Proofs.Ytabnmpabdhmkoaa.Dz
open Go Go.Proofs.Ytabnmpabdhmkoaa.Ow Go.Proofs.Ytabnmpabdhmkoaa.Nl Go.Proofs.Ytabnmpabdhmkoaa.pY Go.Proofs.Ytabnmpabdhmkoaa.nN Go.Proofs.Ytabnmpabdhmkoaa.nu Go.Proofs.Ytabnmpabdhmkoaa.xK Go.Proofs.Ytabnmpabdhmkoaa.tK
theorem source {code:List Int} (hb:qC code) (hl:code.length≤big):gY (code,(0:Int),()) 0:=⟨hb,hl,Int.le_refl _,Int.le_refl _⟩
theorem drawn {n:Nat} {code:List Int} (hb:qC code) (hl:code.length≤big) (hn:big<n):∃s o,kg n code=some (s,o,())∧Uf s∧Xr o:=by
 unfold kg
 have hs:=source hb hl
 have e:qz n code=some ((code,(0:Int),()),()):=rfl
 rw [e]
 obtain ⟨t,s1,e1,h1,_⟩:=ET (n:=n) hs (k:=8) (by omega) (by omega) (by omega)
 simp only [agc,e1]
 cases t with
 | true=>
  obtain ⟨s,s2,e2,h2,hd⟩:=Lx (n:=n) h1 (by omega) hn
  obtain ⟨o,s3,e3,h3,ho⟩:=Ub (n:=n) h2 (by omega) hn
  simp only [if_true,e2,e3,agc]
  exact ⟨s,o,rfl,hd,ho⟩
 | false=>
  obtain ⟨s,s2,e2,h2,hd⟩:=tK.store (n:=n) h1 (by omega) hn
  obtain ⟨o,s3,e3,h3,ho⟩:=tK.op (n:=n) h2 (by omega) hn
  simp only [age,if_false,e2,e3,agc]
  exact ⟨s,o,rfl,hd.1,ho⟩
theorem codeOf {c:List Int} (h:c.length≤9223372036854775807∧∀x∈c,0≤x∧x<256):qC c:=fun x hx=>by have:=h.2 x hx; omega
end Go.Proofs.Ytabnmpabdhmkoaa.Dz

/- A store and an op, drawn. -/
import Derived.Test.YtabnmpabdhmkoaaOwF
import Derived.Test.YtabnmpabdhmkoaaLoopLib
import Derived.Test.YtabnmpabdhmkoaaStoreMath
import Derived.Test.YtabnmpabdhmkoaaOpsMath
import Derived.Test.YtabnmpabdhmkoaaDrawMath
import Derived.Test.YtabnmpabdhmkoaaDrawSMath
import Derived.Test.YtabnmpabdhmkoaaFlF
set_option linter.unusedSectionVars false
set_option linter.unusedVariables false
set_option linter.unusedSimpArgs false
namespace Go.Proofs.Ytabnmpabdhmkoaa.Bh
open Go Go.Proofs.Ytabnmpabdhmkoaa.Ow Go.Proofs.Ytabnmpabdhmkoaa.MV Go.Proofs.Ytabnmpabdhmkoaa.qb Go.Proofs.Ytabnmpabdhmkoaa.oF Go.Proofs.Ytabnmpabdhmkoaa.vO Go.Proofs.Ytabnmpabdhmkoaa.vL Go.Proofs.Ytabnmpabdhmkoaa.qJ
theorem source {code:List Int} (hb:mV code) (hl:code.length≤big):gD (code,(0:Int),()) 0:=⟨hb,hl,Int.le_refl _,Int.le_refl _⟩
theorem drawn {n:Nat} {code:List Int} (hb:mV code) (hl:code.length≤big) (hn:big<n):∃s o,oP n code=some (s,o,())∧OO s∧TL o:=by
 unfold oP
 have hs:=source hb hl
 have e:dG n code=some ((code,(0:Int),()),()):=rfl
 rw [e]
 obtain ⟨t,s1,e1,h1,_⟩:=Ct (n:=n) hs (k:=8) (by omega) (by omega) (by omega)
 simp only [abt,e1]
 cases t with
 | true=>
  obtain ⟨s,s2,e2,h2,hd⟩:=Bv (n:=n) h1 (by omega) hn
  obtain ⟨o,s3,e3,h3,ho⟩:=P7 (n:=n) h2 (by omega) hn
  simp only [if_true,e2,e3,abt]
  exact ⟨s,o,rfl,hd,ho⟩
 | false=>
  obtain ⟨s,s2,e2,h2,hd⟩:=qJ.store (n:=n) h1 (by omega) hn
  obtain ⟨o,s3,e3,h3,ho⟩:=qJ.op (n:=n) h2 (by omega) hn
  simp only [abv,if_false,e2,e3,abt]
  exact ⟨s,o,rfl,hd.1,ho⟩
theorem codeOf {c:List Int} (h:c.length≤9223372036854775807∧∀x∈c,0≤x∧x<256):mV c:=fun x hx=>by have:=h.2 x hx; omega
end Go.Proofs.Ytabnmpabdhmkoaa.Bh

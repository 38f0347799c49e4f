/- A store and an op, drawn. -/
import Derived.Test.YtabnmpabdhmkoaaOwF
import Derived.Test.YtabnmpabdhmkoaaLoopLib
import Derived.Test.YtabnmpabdhmkoaaStoreMath
import Derived.Test.YtabnmpabdhmkoaaOpsMath
import Derived.Test.YtabnmpabdhmkoaaDrawMath
import Derived.Test.YtabnmpabdhmkoaaDrawSMath
import Derived.Test.YtabnmpabdhmkoaaFgF
set_option linter.unusedSectionVars false
set_option linter.unusedVariables false
set_option linter.unusedSimpArgs false
namespace Go.Proofs.Ytabnmpabdhmkoaa.Dx
open Go Go.Proofs.Ytabnmpabdhmkoaa.Ow Go.Proofs.Ytabnmpabdhmkoaa.P9 Go.Proofs.Ytabnmpabdhmkoaa.qF Go.Proofs.Ytabnmpabdhmkoaa.oP Go.Proofs.Ytabnmpabdhmkoaa.lW Go.Proofs.Ytabnmpabdhmkoaa.xI Go.Proofs.Ytabnmpabdhmkoaa.tC
theorem source {code:List Int} (hb:qo code) (hl:code.length≤big):gY (code,(0:Int),()) 0:=⟨hb,hl,Int.le_refl _,Int.le_refl _⟩
theorem drawn {n:Nat} {code:List Int} (hb:qo code) (hl:code.length≤big) (hn:big<n):∃s o,j5 n code=some (s,o,())∧TU s∧WZ o:=by
 unfold j5
 have hs:=source hb hl
 have e:ql n code=some ((code,(0:Int),()),()):=rfl
 rw [e]
 obtain ⟨t,s1,e1,h1,_⟩:=EP (n:=n) hs (k:=8) (by omega) (by omega) (by omega)
 simp only [afR,e1]
 cases t with
 | true=>
  obtain ⟨s,s2,e2,h2,hd⟩:=Lt (n:=n) h1 (by omega) hn
  obtain ⟨o,s3,e3,h3,ho⟩:=TQ (n:=n) h2 (by omega) hn
  simp only [if_true,e2,e3,afR]
  exact ⟨s,o,rfl,hd,ho⟩
 | false=>
  obtain ⟨s,s2,e2,h2,hd⟩:=tC.store (n:=n) h1 (by omega) hn
  obtain ⟨o,s3,e3,h3,ho⟩:=tC.op (n:=n) h2 (by omega) hn
  simp only [afT,if_false,e2,e3,afR]
  exact ⟨s,o,rfl,hd.1,ho⟩
theorem codeOf {c:List Int} (h:c.length≤9223372036854775807∧∀x∈c,0≤x∧x<256):qo c:=fun x hx=>by have:=h.2 x hx; omega
end Go.Proofs.Ytabnmpabdhmkoaa.Dx

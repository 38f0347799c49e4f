/- The draws' characters: texts of codes. -/
import Derived.Test.YtgppmpedglhhfaaGreatDoorSrcMath
namespace Go.Proofs.YtgppmpedglhhfaaGreatDoor.FO
open Go Ow nL nM
theorem Wi{n:Nat}(a b c:Int):G (lS n a b c) (λ_=>True):=by
 unfold lS
 exact G.ite (λ_=>G.ret trivial) (λ_=>G.ret trivial)
theorem cyr{n:Nat}(c:Int):G (Cz n c) (λ_=>True):=by
 unfold Cz
 refine(Wi _ _ _).bind λr1 _=>?_
 repeat' (first
  |exact G.ret trivial
  |refine(Wi _ _ _).bind λ_ _=>?_
  |refine G.ite (λ_=>?_) (λ_=>?_))
theorem has{n:Nat}(cs c:Int):G (mo n cs c) (λ_=>True):=by
 unfold mo
 repeat' (first
  |exact G.ret trivial
  |refine(Wi _ _ _).bind λ_ _=>?_
  |refine(cyr _).bind λ_ _=>?_
  |refine G.ite (λ_=>?_) (λ_=>?_))
theorem bytes{n:Nat}(cs c:Int):G (KV n cs c) (λr=>jR r.1/\r.1.length<=3):=by
 unfold KV
 repeat' (first
  |exact G.ret ⟨C_ (B_ _) yD,by simp⟩
  |exact G.ret ⟨C_ (B_ _) (C_ (B_ _) yD),by simp⟩
  |exact G.ret ⟨C_ (B_ _) (C_ (B_ _) (C_ (B_ _) yD)),by simp⟩
  |refine(cyr _).bind λ_ _=>?_
  |refine G.yes (by decide) ?_
  |refine G.ite (λ_=>?_) (λ_=>?_))
theorem text{n:Nat}{cs:Int}{xs:List Int}(hl:xs.length<=2000)(hn:big<n):G (F_ n cs xs) (λr=>jR r.1/\r.1.length<=400):=by
 unfold F_
 refine cnt (N:=n) (k:=xs.length) (λj (v:Int×List Int×Int×List Int×Unit)=>v.2.1=xs/\0<=v.2.2.1/\v.2.2.1+j=(xs.length:Int)/\jR v.2.2.2.1/\v.2.2.2.1.length+3*j<=3*xs.length) (λo:Option (List Int×Int×Unit)=>G o (λr=>jR r.1/\r.1.length<=400)) ?_ (by unfold big at hn;omega) ⟨rfl,by simp,by simp,yD,by simp⟩
 intro j L v ⟨e1,e2,e3,e4,e5⟩ hL
 obtain⟨q,ys,i,out,u⟩:=v
 simp only at e1 e2 e3 e4 e5
 subst e1
 have w1:IntKind.i64.wrap (i+1)=i+1:=wrap_i64 (by omega) (by omega)
 simp only[w1,bF]
 refine G.ite (λhc=>G.yes ⟨e2,hc⟩ ((has _ _).bind λr2 _=>G.ite (λ_=>G.ret ⟨yD,by simp⟩) (λ_=>G.yes ⟨e2,hc⟩ ((bytes _ _).bind λr3 h3=>G.yes (by omega) (hL _ (j-1) (by omega) ⟨rfl,by show 0<=i+1;omega,by show i+1+((j-1:Nat):Int)=_;omega,mG e4 h3.1,by show(out++r3.1).length+3*(j-1)<=3*ys.length;simp;omega⟩))))) (λhc=>G.ite (λ_=>G.ret ⟨yD,by simp⟩) (λh=>G.ret ⟨e4,by show out.length<=400;omega⟩))
end Go.Proofs.YtgppmpedglhhfaaGreatDoor.FO

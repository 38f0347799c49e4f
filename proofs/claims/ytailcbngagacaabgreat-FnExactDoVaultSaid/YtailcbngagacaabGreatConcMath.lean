/- slices.Concat of bytes. -/
import Derived.Test.YtailcbngagacaabGreatOwF
import Derived.Test.YtailcbngagacaabGreatLoopLib
import Derived.Test.YtailcbngagacaabGreatStoreMath
import Derived.Test.YtailcbngagacaabGreatDoF
set_option linter.unusedSectionVars false
set_option linter.unusedVariables false
set_option linter.unusedSimpArgs false
namespace Go.Proofs.YtailcbngagacaabGreat.OY
open Go Go.Proofs.YtailcbngagacaabGreat.Ow Go.Proofs.YtailcbngagacaabGreat.Nr Go.Proofs.YtailcbngagacaabGreat.jO Go.Proofs.YtailcbngagacaabGreat.gp
theorem MF (ls:List (List Int)) {i:Nat} (hi:i<ls.length):(ls.take (i+1)).flatten=(ls.take i).flatten++ls[i]:=by
 rw [List.take_succ_eq_append_getElem hi,List.flatten_append,List.flatten_cons,List.flatten_nil,aoq]
theorem TR (ls:List (List Int)) (i:Nat):(ls.take i).flatten.length≤ls.flatten.length:=by
 conv=>rhs; rw [←List.take_append_drop i ls]
 rw [List.flatten_append,an5]
 omega
theorem concat {n:Nat} {ls:List (List Int)} (h1:ls.length≤8) (h2:ls.flatten.length≤1073741824) (hn:big<n):gP n ls=some (ls.flatten,()):=by
 have hn':1048576<n:=hn
 unfold gP
 refine (aQ (fun i=>(ls,((ls.take i).flatten.length:Int),ls,(ls.length:Int),(i:Int),())) (fun _=>none) (some (ls.flatten,())) (m:=ls.length) (by simp) (by omega) ?_ ?_).trans (bL (fun _ _ _=>rfl))
 ·intro L i hi _
  have h3:=TR ls (i+1)
  have h4:=MF ls hi
  have h5:(((ls.take i).flatten.length:Int)+(ls[i].length:Int))=((ls.take (i+1)).flatten.length:Int):=by rw [h4,an5]; omega
  simp only [aon,hi,decide_true,if_true,aH hi,dW hi,aR hi (by omega),h5]
  rw [wrap_i64 (by omega) (by omega),if_neg (by rw [decide_eq_true_eq]; omega)]
 ·intro L _
  simp only [Int.lt_irrefl,decide_false,an0,if_false,List.take_length]
  unfold rA
  rw [if_pos ⟨by omega,by omega⟩]
  simp only [anY]
  refine (aQ (fun i=>(ls,(ls.length:Int),(i:Int),(ls.take i).flatten,())) (fun _=>none) (some (ls.flatten,())) (m:=ls.length) (by simp) (by omega) ?_ ?_).trans (bL (fun _ _ _=>rfl))
  ·intro L i hi _
   have h3:=TR ls (i+1)
   have h4:=MF ls hi
   have h5:(ls.take i).flatten.length+ls[i].length=(ls.take (i+1)).flatten.length:=by rw [h4,an5]
   simp only [aon,hi,decide_true,if_true,aH hi,dW hi,aR hi (by omega),h5, ←h4]
   rw [if_pos (by omega)]
  ·intro L _
   simp
end Go.Proofs.YtailcbngagacaabGreat.OY

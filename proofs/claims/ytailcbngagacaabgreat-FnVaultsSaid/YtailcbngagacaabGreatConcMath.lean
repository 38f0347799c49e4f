/- slices.Concat of bytes. -/
import Derived.Test.YtailcbngagacaabGreatUpMath
namespace Go.Proofs.YtailcbngagacaabGreat.Vb
open Go Ow ni nM oQ
theorem YO (ls:List (List Int)) {i:Nat} (hi:i<ls.length):(ls.take (i+1)).flatten=(ls.take i).flatten++ls[i]:=by
 rw [Qd hi,Hy,lX,Bp,gT]
theorem YN (ls:List (List Int)) (i:Nat):(ls.take i).flatten.length<=ls.flatten.length:=by
 conv=>rhs; rw [<-D9 i ls]
 rw [Hy,bX]
 omega
theorem concat {n:Nat} {ls:List (List Int)} (h1:ls.length<=8) (h2:ls.flatten.length<=1073741824) (hn:big<n):K5 n ls=some (ls.flatten,()):=by
 have hn':1048576<n:=hn
 unfold K5
 refine (iy (fun i=>(ls,((ls.take i).flatten.length:Int),ls,(ls.length:Int),(i:Int),())) (fun _=>none) (some (ls.flatten,())) (m:=ls.length) (by simp) (by omega) ?_ ?_).trans (mh (fun _ _ _=>rfl))
 ·intro L i hi _
  have h3:=YN ls (i+1)
  have h4:=YO ls hi
  have h5:(((ls.take i).flatten.length:Int)+(ls[i].length:Int))=((ls.take (i+1)).flatten.length:Int):=by rw [h4,bX]; omega
  simp only [gZ,hi,bL,a_,dA hi,oD hi,gp hi (by omega),h5]
  rw [wrap_i64 (by omega) (by omega),aA (by rw [dS]; omega)]
 ·intro L _
  simp only [pJ,eB,bG,bE,rP]
  unfold Pk
  rw [ak ⟨by omega,by omega⟩]
  simp only [aJ]
  refine (iy (fun i=>(ls,(ls.length:Int),(i:Int),(ls.take i).flatten,())) (fun _=>none) (some (ls.flatten,())) (m:=ls.length) (by simp) (by omega) ?_ ?_).trans (mh (fun _ _ _=>rfl))
  ·intro L i hi _
   have h3:=YN ls (i+1)
   have h4:=YO ls hi
   have h5:(ls.take i).flatten.length+ls[i].length=(ls.take (i+1)).flatten.length:=by rw [h4,bX]
   simp only [gZ,hi,bL,a_,dA hi,oD hi,gp hi (by omega),h5, <-h4]
   rw [ak (by omega)]
  ·intro L _
   simp
end Go.Proofs.YtailcbngagacaabGreat.Vb

/- slices.Concat of bytes. -/
import Derived.Test.YtailcbngagacaaaGreatUpMath
namespace Go.Proofs.YtailcbngagacaaaGreat.U6
open Go Ow nJ oh pO
theorem YI (ls:List (List Int)) {i:Nat} (hi:i<ls.length):(ls.take (i+1)).flatten=(ls.take i).flatten++ls[i]:=by
 rw [Mh hi,HZ,lV,Bv,h_]
theorem YH (ls:List (List Int)) (i:Nat):(ls.take i).flatten.length<=ls.flatten.length:=by
 conv=>rhs; rw [<-BC i ls]
 rw [HZ,bV]
 omega
theorem concat {n:Nat} {ls:List (List Int)} (h1:ls.length<=8) (h2:ls.flatten.length<=1073741824) (hn:big<n):KU n ls=some (ls.flatten,()):=by
 have hn':1048576<n:=hn
 unfold KU
 refine (iA (fun i=>(ls,((ls.take i).flatten.length:Int),ls,(ls.length:Int),(i:Int),())) (fun _=>none) (some (ls.flatten,())) (m:=ls.length) (by simp) (by omega) ?_ ?_).trans (mQ (fun _ _ _=>rfl))
 ·intro L i hi _
  have h3:=YH ls (i+1)
  have h4:=YI ls hi
  have h5:(((ls.take i).flatten.length:Int)+(ls[i].length:Int))=((ls.take (i+1)).flatten.length:Int):=by rw [h4,bV]; omega
  simp only [g_,hi,bQ,a_,dz hi,nT hi,gu hi (by omega),h5]
  rw [wrap_i64 (by omega) (by omega),aA (by rw [dH]; omega)]
 ·intro L _
  simp only [pJ,d_,bJ,bF,rT]
  unfold Pp
  rw [aj ⟨by omega,by omega⟩]
  simp only [aL]
  refine (iA (fun i=>(ls,(ls.length:Int),(i:Int),(ls.take i).flatten,())) (fun _=>none) (some (ls.flatten,())) (m:=ls.length) (by simp) (by omega) ?_ ?_).trans (mQ (fun _ _ _=>rfl))
  ·intro L i hi _
   have h3:=YH ls (i+1)
   have h4:=YI ls hi
   have h5:(ls.take i).flatten.length+ls[i].length=(ls.take (i+1)).flatten.length:=by rw [h4,bV]
   simp only [g_,hi,bQ,a_,dz hi,nT hi,gu hi (by omega),h5, <-h4]
   rw [aj (by omega)]
  ·intro L _
   simp
end Go.Proofs.YtailcbngagacaaaGreat.U6

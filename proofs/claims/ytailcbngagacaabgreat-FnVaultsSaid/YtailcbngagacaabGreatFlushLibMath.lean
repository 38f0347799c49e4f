/- A vault of which all is sure. -/
import Derived.Test.YtailcbngagacaabGreatConcMath
namespace Go.Proofs.YtailcbngagacaabGreat.WH
open Go Ow ni nM oQ mP uu zu BA Ia Vb
def Rq (v:iq):iq:=(true,v.2.1++v.2.2.1,[],v.2.2.2.1,())
theorem ajr {n:Nat} {v:iq} (h:LV v) (hn:big<n):Dx n v=some (Rq v,()):=by
 have h1:=h.s1
 have h2:=h.s2
 unfold big at h1 h2
 unfold Dx
 rw [concat (by simp) (by simp only [lX,Bp,gT,bX]; omega) hn,own h.st hn]
 simp only [aJ,lX,Bp,gT]
 rfl
end Go.Proofs.YtailcbngagacaabGreat.WH

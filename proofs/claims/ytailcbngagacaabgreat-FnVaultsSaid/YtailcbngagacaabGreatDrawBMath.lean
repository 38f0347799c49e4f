/- The draw of a bent op. -/
import Derived.Test.YtailcbngagacaabGreatDrawSMath
namespace Go.Proofs.YtailcbngagacaabGreat.Gi
open Go Ow ni nM oQ mP Gh
theorem ahr {n:Nat} {s:gL} {m:Int} (hs:iO s m) (hm:m<=34359738368) (hn:big<n):Y (LD n s) (m+3000) Io:=by
 unfold LD
 refine (op hs (by omega) hn).bind fun o s1 h1 ho=>(next h1 (by omega) (by omega) (by omega)).bind fun r s2 h2 _=>?_
 refine Y.ite (fun _=>(pick h2 (by omega) (by simp) (by simp)).bind fun r s3 h3 _=>Y.ret (h3.up (by omega)) ho) (fun _=>?_)
 refine Y.ite (fun _=>(next h2 (by omega) (by omega) (by omega)).bind fun r s3 h3 hr=>Y.yes hr (Y.ret (h3.up (by omega)) ⟨JH (by decide) _,ho.2⟩)) (fun _=>?_)
 refine Y.ite (fun _=>(pick h2 (by omega) (by simp) (by simp)).bind fun r s3 h3 _=>Y.ret (h3.up (by omega)) ⟨ho.1,ho.2.1,by simp,ho.2.2.2⟩) (fun _=>?_)
 refine Y.ite (fun _=>(pick h2 (by omega) (by simp) (by simp)).bind fun r s3 h3 _=>Y.ret (h3.up (by omega)) ho) (fun _=>?_)
 exact Y.ite (fun _=>Y.ret (h2.up (by omega)) ⟨ho.1,ho.2.1,by simp,ho.2.2.2⟩) (fun _=>Y.ret (h2.up (by omega)) ho)
end Go.Proofs.YtailcbngagacaabGreat.Gi

/- What the functions of this law compute, as plain functions, and that the reading comes to them. No condition. -/
import Derived.Test.YtailcbngagacaabGreatProg
import Derived.Test.YtailcbngagacaabGreatOwF
import Derived.Test.YtailcbngagacaabGreatCutLib
import Derived.Test.YtailcbngagacaabGreatGrowLib
import Derived.Test.YtailcbngagacaabGreatPartLib
import Derived.Test.YtailcbngagacaabGreatPurgeLib
import Derived.Test.YtailcbngagacaabGreatTakeLib
import Derived.KernelRfl
set_option linter.unusedSectionVars false
set_option linter.unusedVariables false
set_option linter.unusedSimpArgs false
namespace Go.Proofs.YtailcbngagacaabGreat.ry
open Go Go.Proofs.YtailcbngagacaabGreat Go.Proofs.YtailcbngagacaabGreat.Ow
abbrev YW:K:=(.st (.pair .str (.pair (.int .u64) .unit)))
abbrev Zt0:Type:=(List Int)×Int×Unit
abbrev Uh:K:=(.st (.pair (.sl 5 (.int .u8)) (.pair .bool .unit)))
abbrev Zt1:Type:=(List Int)×Bool×Unit
abbrev YX:K:=(.st (.pair (.sl 5 (.int .u8)) (.pair (.int .i64) .unit)))
abbrev Ul:K:=(.st (.pair (.sl 5 (.int .u8)) (.pair (.int .i64) (.pair .bool .unit))))
abbrev Zt3:Type:=(List Int)×Int×Bool×Unit
abbrev Zk4:K:=(.st (.pair .str (.pair (.int .i64) (.pair (.int .i64) (.pair (.id 103) .unit)))))
abbrev Zt4:Type:=(List Int)×Int×Int×Nat×Unit
abbrev YY:K:=(.st (.pair (.int .i64) (.pair (.int .i64) (.pair .bool (.pair (.int .u8) .unit)))))
abbrev K3:K:=(.st (.pair (.int .i64) (.pair (.int .i64) (.pair (.int .i64) (.pair (.id 5) .unit)))))
abbrev M6:Type:=Int×Int×Int×Nat×Unit
abbrev zA:K:=(.st (.pair (.int .i64) (.pair (.int .i64) (.pair (.int .i64) (.pair (.sl 5 (.int .u8)) .unit)))))
abbrev rA:Type:=Int×Int×Int×(List Int)×Unit
abbrev Zk8:K:=(.st (.pair (.int .i64) (.pair (.sl 100 Zk4) .unit)))
abbrev Zt8:Type:=Int×(List (Zt4))×Unit
abbrev YZ:K:=(.st (.pair .str (.pair (.int .i64) (.pair (.int .i64) (.pair (.sl 199 K3) .unit)))))
abbrev Zt9:Type:=(List Int)×Int×Int×(List (M6))×Unit
abbrev Ht:K:=(.st (.pair .str (.pair (.int .i64) (.pair (.int .i64) (.pair (.sl 103 K3) .unit)))))
abbrev iG:K:=(.st (.pair (.int .i64) (.pair .str (.pair .str (.pair (.sl 2 (.int .i64)) (.pair (.int .i64) (.pair (.int .i64) (.pair (.int .i64) (.pair (.sl 5 (.int .u8)) .unit)))))))))
abbrev iw:Type:=Int×(List Int)×(List Int)×(List Int)×rA
abbrev I4:K:=(.st (.pair .str (.pair (.int .i64) (.pair (.int .i64) (.pair (.sl 199 zA) .unit)))))
abbrev dQ:Type:=(List Int)×Int×Int×(List (rA))×Unit
abbrev nL:K:=(.st (.pair .str (.pair (.int .i64) (.pair (.int .i64) (.pair (.sl 103 zA) .unit)))))
abbrev agb:K:=(.st (.pair (.int .i64) (.pair (.sl 2 (.int .i64)) (.pair Zk8 .unit))))
abbrev QG:K:=(.st (.pair (.int .i64) (.pair (.sl 134 YZ) .unit)))
abbrev OI:K:=(.st (.pair (.int .i64) (.pair (.sl 100 Ht) .unit)))
abbrev acH:K:=(.st (.pair .bool (.pair (.sl 5 (.int .u8)) (.pair (.sl 5 (.int .u8)) (.pair Zk8 .unit)))))
abbrev QH:K:=(.st (.pair (.int .i64) (.pair (.sl 134 I4) .unit)))
abbrev fI:Type:=Int×(List (dQ))×Unit
abbrev qy:K:=(.st (.pair (.int .i64) (.pair (.sl 100 nL) .unit)))
abbrev I5:K:=(.st (.pair (.int .i64) (.pair (.int .i64) (.pair iG .unit))))
abbrev akl:Type:=Int×Int×(iw)×Unit
abbrev KZ:K:=(.st (.pair (.int .i64) (.pair (.int .i64) (.pair (.sl 48 iG) .unit))))
abbrev Ui:K:=(.st (.pair (.int .i64) (.pair (.sl 2 (.int .i64)) (.pair OI .unit))))
abbrev agc:K:=(.st (.pair (.int .i64) (.pair (.sl 2 (.int .i64)) (.pair acH .unit))))
abbrev M4:K:=(.st (.pair (.int .i64) (.pair (.sl 2 (.int .i64)) (.pair qy .unit))))
abbrev FV:Type:=Int×(List Int)×(fI)×Unit
abbrev Uj:K:=(.st (.pair .bool (.pair (.sl 5 (.int .u8)) (.pair (.sl 5 (.int .u8)) (.pair QG .unit)))))
abbrev QI:K:=(.st (.pair .bool (.pair (.sl 5 (.int .u8)) (.pair (.sl 5 (.int .u8)) (.pair OI .unit)))))
abbrev QJ:K:=(.st (.pair .bool (.pair (.sl 5 (.int .u8)) (.pair (.sl 5 (.int .u8)) (.pair QH .unit)))))
abbrev vV:Type:=Bool×(List Int)×(List Int)×(fI)×Unit
abbrev xX:K:=(.st (.pair .bool (.pair (.sl 5 (.int .u8)) (.pair (.sl 5 (.int .u8)) (.pair qy .unit)))))
abbrev Uk:K:=(.st (.pair (.int .i64) (.pair (.sl 2 (.int .i64)) (.pair QI .unit))))
abbrev M5:K:=(.st (.pair (.int .i64) (.pair (.sl 2 (.int .i64)) (.pair xX .unit))))
abbrev OJ:Type:=Int×(List Int)×(vV)×Unit
abbrev Ey:iw:=((0:Int),([]:List Int),([]:List Int),([]:List Int),(0:Int),(0:Int),(0:Int),([]:List Int),())
abbrev agf:vV:=(false,([]:List Int),([]:List Int),((0:Int),([]:List dQ),()),())
abbrev acJ:FV:=((0:Int),([]:List Int),((0:Int),([]:List dQ),()),())
abbrev dF:dQ:=(([]:List Int),(0:Int),(0:Int),([]:List rA),())
abbrev kG:rA:=((0:Int),(0:Int),(0:Int),([]:List Int),())
abbrev M7:M6:=((0:Int),(0:Int),(0:Int),(0:Nat),())
abbrev OL:fI:=((0:Int),([]:List dQ),())
def tyL:VM:={ ty:=[(2,(.int .i64)),(3,(.int .i64)),(4, .bool),(5,(.int .u8)),(6,(.int .u8)),(7,YY),(8,YY),(9, .str),(10, .str),(11, .str),(12,(.int .u64)),(13,YW),(14,YW),(21,(.int .i32)),(22,(.sl 5 (.int .u8))),(23,(.sl 134 I4)),(24,QH),(25,QH),(26,QJ),(27,QJ),(29,(.sl 2 (.int .i64))),(30,(.sl 100 nL)),(31,qy),(32,qy),(33,xX),(34,xX),(35,M5),(36,M5),(47,iG),(48,iG),(52,M4),(53,M4),(55,(.sl 48 iG)),(56,KZ),(57,KZ),(65,iG),(98,(.sl 103 zA)),(99,nL),(100,nL),(102,zA),(103,zA),(109,(.sl 22 (.sl 5 (.int .u8)))),(132,(.sl 199 zA)),(133,I4),(134,I4),(141,I5),(142,I5),(145,YX),(146,YX),(150,(.sl 9 .str)),(167,Uh),(168,Uh),(199,zA),(203,Ul),(204,Ul),(226,(.int .u32)),(227,(.int .u8)),(228,(.int .u8)),(231,(.int .i32)),(232,(.int .i32))],bytes:=[(2,8),(3,8),(4,1),(5,1),(6,1),(7,24),(8,24),(9,16),(10,16),(11,16),(12,8),(13,24),(14,24),(21,4),(22,24),(23,24),(24,32),(25,32),(26,88),(27,88),(29,24),(30,24),(31,32),(32,32),(33,88),(34,88),(35,120),(36,120),(47,112),(48,112),(52,64),(53,64),(55,24),(56,40),(57,40),(65,112),(98,24),(99,56),(100,56),(102,48),(103,48),(109,24),(132,24),(133,56),(134,56),(141,128),(142,128),(145,32),(146,32),(150,24),(167,32),(168,32),(199,48),(203,40),(204,40),(226,4),(227,1),(228,1),(231,4),(232,4)],ptr:=[15,16,17,74,87,118,136,161,166,187,206,230] }
def T:jd:=tyL.tab
theorem aK:Cz Tryz.prog tyL=true:=by kernel_rfl
theorem mixed:Tryz.prog.follows .mixedOrders=true:=by kernel_rfl
def lG (n:Nat) (a0:List Int) (a1:Int):Option (Int×Unit):=(if decide ((IntKind.i64.wrap (a1 - (a0.length:Int)))<(0:Int))=true then some ((-1:Int),()) else some (IntKind.i64.wrap (a1 - (a0.length:Int)),()))
def qX:List dD:=[.val (.sl 5 (.int .u8)) [], .val (.int .i64) []]
def Bp:List mY:=[.val (.int .i64) [] []]
def oP:Entry:=⟨40,qX,Bp,fun n (c:Cont (kin qX))=>lG n c.1 c.2.1⟩
def BI:Hint:=⟨0,[],[],[],[],[],[],[],[]⟩
theorem IA:∀n (c:Cont (kin qX)),kE T BI Tryz.f40 qX Bp n c=oP.F n c:=by intro n c; kernel_rfl
theorem xq [Fr] (n:Nat):aj Tryz.prog n oP:=ak mixed aK Tryz.func40 (by kernel_rfl) (hi:=BI) aD IA
def lH (n:Nat) (a0:rA) (a1:Int):Option (Int×Unit):=((lG n a0.2.2.2.1 a1).bind fun r1=>(if decide (r1.1<(0:Int))=true then some ((-1:Int),()) else some (r1.1,())))
def oM:List dD:=[.val zA [], .val (.int .i64) []]
def yI:List mY:=[.val (.int .i64) [] []]
def uq:Entry:=⟨188,oM,yI,fun n (c:Cont (kin oM))=>lH n c.1 c.2.1⟩
def zu:Hint:=⟨0,[],[],[],[(40,some 8,oP)],[],[],[],[]⟩
theorem FH:∀n (c:Cont (kin oM)),kE T zu Tryz.f188 oM yI n c=uq.F n c:=by intro n c; kernel_rfl
theorem FP [Fr] (n:Nat):aj Tryz.prog n uq:=ak mixed aK Tryz.func188 (by kernel_rfl) (hi:=zu) (aa (xq n) aD) FH
def nY (n:Nat) (a0:List rA) (a1:Int):Option (Int×Unit):=(if decide ((IntKind.i64.wrap (a1 - (a0.length:Int)))<(0:Int))=true then some ((-1:Int),()) else (rounds (fun L1 (v1:(List rA)×Int×Int×Unit)=>(if decide (v1.2.2.1<(v1.1.length:Int))=true then (if aI v1.2.2.1 v1.1.length then ((lH n (v1.1.getD v1.2.2.1.toNat kG) v1.2.1).bind fun r2=>(if decide (r2.1<(0:Int))=true then some ((-1:Int),()) else L1 (v1.1,r2.1,IntKind.i64.wrap (v1.2.2.1+(1:Int)),()))) else none) else some (v1.2.1,()))) n (a0,IntKind.i64.wrap (a1 - (a0.length:Int)),(0:Int),())))
def ny:List dD:=[.val (.sl 199 zA) [], .val (.int .i64) []]
def xQ:List mY:=[.val (.int .i64) [] []]
def sj:Entry:=⟨156,ny,xQ,fun n (c:Cont (kin ny))=>nY n c.1 c.2.1⟩
def yj:Hint:=⟨0,[],[(0,[0,1,5],[])],[],[(188,some 23,uq)],[],[],[],[]⟩
theorem Eg:∀n (c:Cont (kin ny)),kE T yj Tryz.f156 ny xQ n c=sj.F n c:=by intro n c; kernel_rfl
theorem Er [Fr] (n:Nat):aj Tryz.prog n sj:=ak mixed aK Tryz.func156 (by kernel_rfl) (hi:=yj) (aa (FP n) aD) Eg
def sI (n:Nat) (a0:dQ) (a1:Int):Option (Int×Unit):=(if decide ((IntKind.i64.wrap (a1 - (a0.1.length:Int)))<(0:Int))=true then some ((-1:Int),()) else ((nY n a0.2.2.2.1 (IntKind.i64.wrap (a1 - (a0.1.length:Int)))).bind fun r1=>(if decide (r1.1<(0:Int))=true then some ((-1:Int),()) else some (r1.1,()))))
def vk:List dD:=[.val I4 [], .val (.int .i64) []]
def Dt:List mY:=[.val (.int .i64) [] []]
def Ac:Entry:=⟨113,vk,Dt,fun n (c:Cont (kin vk))=>sI n c.1 c.2.1⟩
def Ej:Hint:=⟨0,[],[],[],[(156,some 15,sj)],[],[],[],[]⟩
theorem MR:∀n (c:Cont (kin vk)),kE T Ej Tryz.f113 vk Dt n c=Ac.F n c:=by intro n c; kernel_rfl
theorem MV [Fr] (n:Nat):aj Tryz.prog n Ac:=ak mixed aK Tryz.func113 (by kernel_rfl) (hi:=Ej) (aa (Er n) aD) MR
def uS (n:Nat) (a0:List dQ) (a1:Int):Option (Int×Unit):=(if decide ((IntKind.i64.wrap (a1 - (a0.length:Int)))<(0:Int))=true then some ((-1:Int),()) else (rounds (fun L1 (v1:(List dQ)×Int×Int×Unit)=>(if decide (v1.2.2.1<(v1.1.length:Int))=true then (if aI v1.2.2.1 v1.1.length then ((sI n (v1.1.getD v1.2.2.1.toNat dF) v1.2.1).bind fun r2=>(if decide (r2.1<(0:Int))=true then some ((-1:Int),()) else L1 (v1.1,r2.1,IntKind.i64.wrap (v1.2.2.1+(1:Int)),()))) else none) else some (v1.2.1,()))) n (a0,IntKind.i64.wrap (a1 - (a0.length:Int)),(0:Int),())))
def tN:List dD:=[.val (.sl 134 I4) [], .val (.int .i64) []]
def Cq:List mY:=[.val (.int .i64) [] []]
def yQ:Entry:=⟨84,tN,Cq,fun n (c:Cont (kin tN))=>uS n c.1 c.2.1⟩
def Dj:Hint:=⟨0,[],[(0,[0,1,5],[])],[],[(113,some 23,Ac)],[],[],[],[]⟩
theorem KQ:∀n (c:Cont (kin tN)),kE T Dj Tryz.f84 tN Cq n c=yQ.F n c:=by intro n c; kernel_rfl
theorem KW [Fr] (n:Nat):aj Tryz.prog n yQ:=ak mixed aK Tryz.func84 (by kernel_rfl) (hi:=Dj) (aa (MV n) aD) KQ
def xg (n:Nat) (a0:fI) (a1:Int):Option (Int×Unit):=((uS n a0.2.1 a1).bind fun r1=>(if decide (r1.1<(0:Int))=true then some ((-1:Int),()) else some (r1.1,())))
def qY:List dD:=[.val QH [], .val (.int .i64) []]
def Bq:List mY:=[.val (.int .i64) [] []]
def wY:Entry:=⟨41,qY,Bq,fun n (c:Cont (kin qY))=>xg n c.1 c.2.1⟩
def BJ:Hint:=⟨0,[],[],[],[(84,some 8,yQ)],[],[],[],[]⟩
theorem IB:∀n (c:Cont (kin qY)),kE T BJ Tryz.f41 qY Bq n c=wY.F n c:=by intro n c; kernel_rfl
theorem IM [Fr] (n:Nat):aj Tryz.prog n wY:=ak mixed aK Tryz.func41 (by kernel_rfl) (hi:=BJ) (aa (KW n) aD) IB
def o7 (n:Nat) (a0:vV) (a1:Int):Option (Int×Unit):=((lG n a0.2.1 a1).bind fun r1=>(if decide (r1.1<(0:Int))=true then some ((-1:Int),()) else ((lG n a0.2.2.1 r1.1).bind fun r2=>(if decide (r2.1<(0:Int))=true then some ((-1:Int),()) else ((xg n a0.2.2.2.1 r2.1).bind fun r3=>(if decide (r3.1<(0:Int))=true then some ((-1:Int),()) else some (r3.1,())))))))
def qZ:List dD:=[.val QJ [], .val (.int .i64) []]
def Br:List mY:=[.val (.int .i64) [] []]
def wZ:Entry:=⟨9,qZ,Br,fun n (c:Cont (kin qZ))=>o7 n c.1 c.2.1⟩
def BK:Hint:=⟨0,[],[],[],[(40,some 8,oP),(40,some 14,oP),(41,some 20,wY)],[],[],[],[]⟩
theorem IC:∀n (c:Cont (kin qZ)),kE T BK Tryz.f9 qZ Br n c=wZ.F n c:=by intro n c; kernel_rfl
theorem IP [Fr] (n:Nat):aj Tryz.prog n wZ:=ak mixed aK Tryz.func9 (by kernel_rfl) (hi:=BK) (aa (xq n) (aa (xq n) (aa (IM n) aD))) IC
def lI (n:Nat) (a0:List Int):Option ((List Int)×Unit):=(if (a0.length:Int)=(a0.length:Int)∧0≤(a0.length:Int)∧(a0.length:Int) * 1≤140737488355328 then (rounds (fun L1 (v1:(List Int)×Int×(List Int)×Unit)=>(if decide (v1.2.1<(v1.1.length:Int))=true then (if aI v1.2.1 v1.1.length then (if aI v1.2.1 v1.2.2.1.length then L1 (v1.1,IntKind.i64.wrap (v1.2.1+(1:Int)),v1.2.2.1.set v1.2.1.toNat (v1.1.getD v1.2.1.toNat (0:Int)),()) else none) else none) else some (v1.2.2.1,()))) n (a0,(0:Int),List.replicate (a0.length:Int).toNat (0:Int),())) else none)
def q8:List dD:=[.val (.sl 5 (.int .u8)) []]
def Bt:List mY:=[.own (.sl 5 (.int .u8)) [5] [] []]
def oQ:Entry:=⟨46,q8,Bt,fun n (c:Cont (kin q8))=>lI n c.1⟩
def BL:Hint:=⟨0,[],[(0,[0,3,4],[226])],[],[],[],[],[],[]⟩
theorem IE:∀n (c:Cont (kin q8)),kE T BL Tryz.f46 q8 Bt n c=oQ.F n c:=by intro n c; kernel_rfl
theorem xu [Fr] (n:Nat):aj Tryz.prog n oQ:=ak mixed aK Tryz.func46 (by kernel_rfl) (hi:=BL) aD IE
def lJ (n:Nat) (a0:rA):Option (rA×Unit):=((lI n a0.2.2.2.1).bind fun r1=>some ((a0.1,a0.2.1,a0.2.2.1,r1.1,()),()))
def oN:List dD:=[.val zA []]
def yJ:List mY:=[.own zA [5] [] []]
def uu:Entry:=⟨191,oN,yJ,fun n (c:Cont (kin oN))=>lJ n c.1⟩
def zw:Hint:=⟨0,[17],[],[],[(46,some 15,oQ)],[],[],[],[]⟩
theorem FJ:∀n (c:Cont (kin oN)),kE T zw Tryz.f191 oN yJ n c=uu.F n c:=by intro n c; kernel_rfl
theorem FQ [Fr] (n:Nat):aj Tryz.prog n uu:=ak mixed aK Tryz.func191 (by kernel_rfl) (hi:=zw) (aa (xu n) aD) FJ
def nZ (n:Nat) (a0:List rA):Option ((List rA)×Unit):=(if (a0.length:Int)=(a0.length:Int)∧0≤(a0.length:Int)∧(a0.length:Int) * 48≤140737488355328 then (rounds (fun L1 (v1:(List rA)×Int×(List rA)×Unit)=>(if decide (v1.2.1<(v1.1.length:Int))=true then (if aI v1.2.1 v1.1.length then ((lJ n (v1.1.getD v1.2.1.toNat kG)).bind fun r2=>(if aI v1.2.1 v1.2.2.1.length then L1 (v1.1,IntKind.i64.wrap (v1.2.1+(1:Int)),v1.2.2.1.set v1.2.1.toNat r2.1,()) else none)) else none) else some (v1.2.2.1,()))) n (a0,(0:Int),List.replicate (a0.length:Int).toNat kG,())) else none)
def nA:List dD:=[.val (.sl 199 zA) []]
def xR:List mY:=[.own (.sl 103 zA) [5,103] [] []]
def su:Entry:=⟨159,nA,xR,fun n (c:Cont (kin nA))=>nZ n c.1⟩
def yl:Hint:=⟨0,[],[(0,[0,3,4],[226])],[],[(191,some 20,uu)],[],[],[],[]⟩
theorem Eh:∀n (c:Cont (kin nA)),kE T yl Tryz.f159 nA xR n c=su.F n c:=by intro n c; kernel_rfl
theorem Es [Fr] (n:Nat):aj Tryz.prog n su:=ak mixed aK Tryz.func159 (by kernel_rfl) (hi:=yl) (aa (FQ n) aD) Eh
def sJ (n:Nat) (a0:dQ):Option (dQ×Unit):=((nZ n a0.2.2.2.1).bind fun r1=>some ((a0.1,a0.2.1,a0.2.2.1,r1.1,()),()))
def vo:List dD:=[.val I4 []]
def Du:List mY:=[.own nL [5,103] [] []]
def Ad:Entry:=⟨118,vo,Du,fun n (c:Cont (kin vo))=>sJ n c.1⟩
def Em:Hint:=⟨0,[17],[],[],[(159,some 15,su)],[],[],[],[]⟩
theorem MS:∀n (c:Cont (kin vo)),kE T Em Tryz.f118 vo Du n c=Ad.F n c:=by intro n c; kernel_rfl
theorem MW [Fr] (n:Nat):aj Tryz.prog n Ad:=ak mixed aK Tryz.func118 (by kernel_rfl) (hi:=Em) (aa (Es n) aD) MS
def uT (n:Nat) (a0:List dQ):Option ((List dQ)×Unit):=(if (a0.length:Int)=(a0.length:Int)∧0≤(a0.length:Int)∧(a0.length:Int) * 56≤140737488355328 then (rounds (fun L1 (v1:(List dQ)×fI)=>(if decide (v1.2.1<(v1.1.length:Int))=true then (if aI v1.2.1 v1.1.length then ((sJ n (v1.1.getD v1.2.1.toNat dF)).bind fun r2=>(if aI v1.2.1 v1.2.2.1.length then L1 (v1.1,IntKind.i64.wrap (v1.2.1+(1:Int)),v1.2.2.1.set v1.2.1.toNat r2.1,()) else none)) else none) else some (v1.2.2.1,()))) n (a0,(0:Int),List.replicate (a0.length:Int).toNat dF,())) else none)
def tO:List dD:=[.val (.sl 134 I4) []]
def Cr:List mY:=[.own (.sl 100 nL) [5,100,103] [] []]
def yR:Entry:=⟨86,tO,Cr,fun n (c:Cont (kin tO))=>uT n c.1⟩
def Dk:Hint:=⟨0,[],[(0,[0,3,4],[226])],[],[(118,some 20,Ad)],[],[],[],[]⟩
theorem KS:∀n (c:Cont (kin tO)),kE T Dk Tryz.f86 tO Cr n c=yR.F n c:=by intro n c; kernel_rfl
theorem KX [Fr] (n:Nat):aj Tryz.prog n yR:=ak mixed aK Tryz.func86 (by kernel_rfl) (hi:=Dk) (aa (MW n) aD) KS
def sK (n:Nat) (a0:fI):Option (fI×Unit):=((uT n a0.2.1).bind fun r1=>some ((a0.1,r1.1,()),()))
def q9:List dD:=[.val QH []]
def Bu:List mY:=[.own qy [5,100,103] [] []]
def w9:Entry:=⟨47,q9,Bu,fun n (c:Cont (kin q9))=>sK n c.1⟩
def BM:Hint:=⟨0,[11],[],[],[(86,some 9,yR)],[],[],[],[]⟩
theorem IG:∀n (c:Cont (kin q9)),kE T BM Tryz.f47 q9 Bu n c=w9.F n c:=by intro n c; kernel_rfl
theorem IQ [Fr] (n:Nat):aj Tryz.prog n w9:=ak mixed aK Tryz.func47 (by kernel_rfl) (hi:=BM) (aa (KX n) aD) IG
def jy (n:Nat) (a0:vV):Option (vV×Unit):=((lI n a0.2.1).bind fun r1=>((lI n a0.2.2.1).bind fun r2=>((sK n a0.2.2.2.1).bind fun r3=>some ((a0.1,r1.1,r2.1,r3.1,()),()))))
def rq:List dD:=[.val QJ []]
def Bv:List mY:=[.own xX [5,100,103] [] []]
def kW:Entry:=⟨11,rq,Bv,fun n (c:Cont (kin rq))=>jy n c.1⟩
def BN:Hint:=⟨0,[19],[],[],[(46,some 9,oQ),(46,some 13,oQ),(47,some 17,w9)],[],[],[],[]⟩
theorem II:∀n (c:Cont (kin rq)),kE T BN Tryz.f11 rq Bv n c=kW.F n c:=by intro n c; kernel_rfl
theorem sZ [Fr] (n:Nat):aj Tryz.prog n kW:=ak mixed aK Tryz.func11 (by kernel_rfl) (hi:=BN) (aa (xu n) (aa (xu n) (aa (IQ n) aD))) II
def bP (n:Nat) (a0:Int) (a1:Int) (a2:Int):Option (Bool×Unit):=(if decide (a0≥a1)=true then some (decide (a0≤a2),()) else some (false,()))
def SE:Entry:=⟨44,[.val (.int .i64) [], .val (.int .i64) [], .val (.int .i64) []],[.val .bool [] []],fun n c=>bP n c.1 c.2.1 c.2.2.1⟩
def H_0:Hint:=⟨0,[],[],[],[],[],[],[],[]⟩
theorem D_0:gT T H_0 Tryz.f44 SE:=by intro n c; kernel_rfl
theorem VL [Fr] (n:Nat):aj Tryz.prog n SE:=ak mixed aK Tryz.func44 (by kernel_rfl) (hi:=H_0) aD D_0
def kC (n:Nat) (a0:List Int):Option (Bool×Unit):=(rounds (fun L1 (v1:Zt0)=>(if decide (v1.2.1<(v1.1.length:Int))=true then (if aI v1.2.1 v1.1.length then (if decide ((v1.1.getD v1.2.1.toNat 0)<(97:Int))=true then some (false,()) else (if aI v1.2.1 v1.1.length then (if decide ((v1.1.getD v1.2.1.toNat 0)>(122:Int))=true then some (false,()) else L1 (v1.1,IntKind.i64.wrap (v1.2.1+(1:Int)),())) else none)) else none) else ((bP n (v1.1.length:Int) (1:Int) (8:Int)).bind fun r2=>some (r2.1,())))) n (a0,(0:Int),()))
def E_1:Entry:=⟨180,[.val .str []],[.val .bool [] []],fun n c=>kC n c.1⟩
def H_1:Hint:=⟨0,[],[(0,[0,3],[])],[],[(44,some 22,SE)],[],[],[],[]⟩
theorem D_1:gT T H_1 Tryz.f180 E_1:=by intro n c; kernel_rfl
theorem K_1 [Fr] (n:Nat):aj Tryz.prog n E_1:=ak mixed aK Tryz.func180 (by kernel_rfl) (hi:=H_1) (aa (VL n) aD) D_1
def gL (n:Nat) (a0:rA):Option (Int×Unit):=((bP n a0.1 (1:Int) (999:Int)).bind fun r1=>(if (!r1.1)=true then some ((3:Int),()) else ((bP n a0.2.1 (0:Int) (15:Int)).bind fun r2=>(if (!r2.1)=true then some ((3:Int),()) else ((bP n a0.2.2.1 (0:Int) (9999:Int)).bind fun r3=>(if (!r3.1)=true then some ((3:Int),()) else (if decide ((a0.2.2.2.1.length:Int)>(400:Int))=true then some ((2:Int),()) else some ((0:Int),()))))))))
def E_2:Entry:=⟨189,[.ro zA],[.val (.int .i64) [] []],fun n c=>gL n c.1⟩
def H_2:Hint:=⟨0,[],[],[],[(44,some 7,SE),(44,some 14,SE),(44,some 22,SE)],[],[],[],[]⟩
theorem D_2:gT T H_2 Tryz.f189 E_2:=by intro n c; kernel_rfl
theorem K_2 [Fr] (n:Nat):aj Tryz.prog n E_2:=ak mixed aK Tryz.func189 (by kernel_rfl) (hi:=H_2) (aa (VL n) (aa (VL n) (aa (VL n) aD))) D_2
def mK (n:Nat) (a0:dQ):Option (Int×Unit):=((kC n a0.1).bind fun r1=>(if (!r1.1)=true then some ((5:Int),()) else ((bP n a0.2.1 (1:Int) (999:Int)).bind fun r2=>(if (!r2.1)=true then some ((3:Int),()) else ((bP n a0.2.2.1 (1:Int) (1000:Int)).bind fun r3=>(if (!r3.1)=true then some ((3:Int),()) else (if decide ((a0.2.2.2.1.length:Int)>(6:Int))=true then some ((2:Int),()) else (rounds (fun L4 (v4:dQ×Int×Unit)=>(if decide (v4.2.1<(v4.1.2.2.2.1.length:Int))=true then (if aI v4.2.1 v4.1.2.2.2.1.length then ((gL n (v4.1.2.2.2.1.getD v4.2.1.toNat kG)).bind fun r5=>(if (!decide (r5.1=(0:Int)))=true then some (r5.1,()) else (if decide (v4.2.1>(0:Int))=true then (if aI v4.2.1 v4.1.2.2.2.1.length then (if aI (IntKind.i64.wrap (v4.2.1 - (1:Int))) v4.1.2.2.2.1.length then (if decide (((v4.1.2.2.2.1.getD v4.2.1.toNat kG).1)≤((v4.1.2.2.2.1.getD (IntKind.i64.wrap (v4.2.1 - (1:Int))).toNat kG).1))=true then some ((1:Int),()) else (if aI v4.2.1 v4.1.2.2.2.1.length then (if decide (((v4.1.2.2.2.1.getD v4.2.1.toNat kG).1)≥v4.1.2.2.1)=true then some ((1:Int),()) else L4 (v4.1,IntKind.i64.wrap (v4.2.1+(1:Int)),())) else none)) else none) else none) else (if aI v4.2.1 v4.1.2.2.2.1.length then (if decide (((v4.1.2.2.2.1.getD v4.2.1.toNat kG).1)≥v4.1.2.2.1)=true then some ((1:Int),()) else L4 (v4.1,IntKind.i64.wrap (v4.2.1+(1:Int)),())) else none)))) else none) else some ((0:Int),()))) n (a0,(0:Int),())))))))))
def E_3:Entry:=⟨157,[.ro nL],[.val (.int .i64) [] []],fun n c=>mK n c.1⟩
def H_3:Hint:=⟨0,[],[(0,[0,3],[])],[],[(180,some 9,E_1),(44,some 15,SE),(44,some 22,SE),(189,some 46,E_2)],[],[],[],[]⟩
theorem D_3:gT T H_3 Tryz.f157 E_3:=by intro n c; kernel_rfl
theorem K_3 [Fr] (n:Nat):aj Tryz.prog n E_3:=ak mixed aK Tryz.func157 (by kernel_rfl) (hi:=H_3) (aa (K_1 n) (aa (VL n) (aa (VL n) (aa (K_2 n) aD)))) D_3
def jA (n:Nat) (a0:fI):Option (Int×Unit):=((bP n a0.1 (1:Int) (1000:Int)).bind fun r1=>(if (!r1.1)=true then some ((3:Int),()) else (if decide ((a0.2.1.length:Int)>(3:Int))=true then some ((2:Int),()) else (rounds (fun L2 (v2:fI×Int×Unit)=>(if decide (v2.2.1<(v2.1.2.1.length:Int))=true then (if aI v2.2.1 v2.1.2.1.length then ((mK n (v2.1.2.1.getD v2.2.1.toNat dF)).bind fun r3=>(if (!decide (r3.1=(0:Int)))=true then some (r3.1,()) else (if aI v2.2.1 v2.1.2.1.length then (if decide ((((v2.1.2.1.getD v2.2.1.toNat dF).2).1)≥v2.1.1)=true then some ((9:Int),()) else (rounds (fun L4 (v4:fI×Int×Int×Unit)=>(if decide (v4.2.2.1<v4.2.1)=true then (if aI v4.2.2.1 v4.1.2.1.length then (if aI v4.2.1 v4.1.2.1.length then (if decide (((v4.1.2.1.getD v4.2.2.1.toNat dF).1)=((v4.1.2.1.getD v4.2.1.toNat dF).1))=true then some ((6:Int),()) else (if aI v4.2.2.1 v4.1.2.1.length then (if aI v4.2.1 v4.1.2.1.length then (if decide ((((v4.1.2.1.getD v4.2.2.1.toNat dF).2).1)=(((v4.1.2.1.getD v4.2.1.toNat dF).2).1))=true then some ((6:Int),()) else L4 (v4.1,v4.2.1,IntKind.i64.wrap (v4.2.2.1+(1:Int)),())) else none) else none)) else none) else none) else L2 (v4.1,IntKind.i64.wrap (v4.2.1+(1:Int)),()))) n (v2.1,v2.2.1,(0:Int),()))) else none))) else none) else some ((0:Int),()))) n (a0,(0:Int),())))))
def E_4:Entry:=⟨114,[.ro qy],[.val (.int .i64) [] []],fun n c=>jA n c.1⟩
def H_4:Hint:=⟨0,[],[(0,[0,3],[]),(2,[0,3,5],[])],[],[(44,some 10,SE),(157,some 33,E_3)],[],[],[],[]⟩
theorem D_4:gT T H_4 Tryz.f114 E_4:=by intro n c; kernel_rfl
theorem K_4 [Fr] (n:Nat):aj Tryz.prog n E_4:=ak mixed aK Tryz.func114 (by kernel_rfl) (hi:=H_4) (aa (VL n) (aa (K_3 n) aD)) D_4
def dh (n:Nat) (a0:Zt3):Option (Int×Zt3×Unit):=(if decide (a0.2.1≥(a0.1.length:Int))=true then some ((0:Int),(a0.1,a0.2.1,true,a0.2.2.2),()) else (if aI (IntKind.i64.wrap ((IntKind.i64.wrap (a0.2.1+(1:Int))) - (1:Int))) a0.1.length then some (IntKind.i64.wrap (a0.1.getD (IntKind.i64.wrap ((IntKind.i64.wrap (a0.2.1+(1:Int))) - (1:Int))).toNat (0:Int)),(a0.1,IntKind.i64.wrap (a0.2.1+(1:Int)),a0.2.2),()) else none))
def V3:Entry:=⟨193,[.rw Ul [] [4294967295] []],[.val (.int .i64) [] []],fun n c=>dh n c.1⟩
def H_5:Hint:=⟨0,[],[],[],[],[],[],[],[]⟩
theorem D_5:gT T H_5 Tryz.f193 V3:=by intro n c; kernel_rfl
theorem Zj [Fr] (n:Nat):aj Tryz.prog n V3:=ak mixed aK Tryz.func193 (by kernel_rfl) (hi:=H_5) aD D_5
def iq (n:Nat) (a0:Zt3) (a1:Int):Option ((List Int)×Zt3×Unit):=(rounds (fun L1 (v1:Int×Zt3×(List Int)×Unit)=>(if decide (v1.1>(0:Int))=true then (if (!v1.2.1.2.2.1)=true then ((dh n v1.2.1).bind fun r2=>(if (v1.2.2.1.length+[IntKind.u8.wrap r2.1].length) * 1≤140737488355328 then L1 (IntKind.i64.wrap (v1.1 - (1:Int)),r2.2.1,v1.2.2.1++[IntKind.u8.wrap r2.1],()) else none)) else some (v1.2.2.1,v1.2.1,())) else some (v1.2.2.1,v1.2.1,()))) n (a1,a0,([]:List Int),()))
def E_6:Entry:=⟨194,[.rw Ul [] [4294967295] [], .val (.int .i64) []],[.own (.sl 5 (.int .u8)) [5] [] []],fun n c=>iq n c.1 c.2.1⟩
def H_6:Hint:=⟨0,[],[(0,[0,1,5],[0,194])],[],[(193,some 20,V3)],[],[],[],[]⟩
theorem D_6:gT T H_6 Tryz.f194 E_6:=by intro n c; kernel_rfl
theorem K_6 [Fr] (n:Nat):aj Tryz.prog n E_6:=ak mixed aK Tryz.func194 (by kernel_rfl) (hi:=H_6) (aa (Zj n) aD) D_6
def fT (n:Nat) (a0:Zt3):Option (Int×Zt3×Unit):=((dh n a0).bind fun r1=>((dh n r1.2.1).bind fun r2=>some (IntKind.i64.wrap ((IntKind.i64.wrap (r1.1 * (256:Int)))+r2.1),r2.2.1,())))
def E_7:Entry:=⟨195,[.rw Ul [] [4294967295] []],[.val (.int .i64) [] []],fun n c=>fT n c.1⟩
def H_7:Hint:=⟨0,[],[],[],[(193,some 5,V3),(193,some 9,V3)],[],[],[],[]⟩
theorem D_7:gT T H_7 Tryz.f195 E_7:=by intro n c; kernel_rfl
theorem K_7 [Fr] (n:Nat):aj Tryz.prog n E_7:=ak mixed aK Tryz.func195 (by kernel_rfl) (hi:=H_7) (aa (Zj n) (aa (Zj n) aD)) D_7
def u7 (n:Nat) (a0:List Int):Option (iw×Unit):=((dh n (a0,(2:Int),false,())).bind fun r1=>((dh n r1.2.1).bind fun r2=>((iq n r2.2.1 r2.1).bind fun r3=>((dh n r3.2.1).bind fun r4=>((iq n r4.2.1 r4.1).bind fun r5=>((dh n r5.2.1).bind fun r6=>(rounds (fun L7 (v7:Int×iw×Zt3×iw×Unit)=>(if decide (v7.1>(0:Int))=true then (if (!v7.2.2.1.2.2.1)=true then ((fT n v7.2.2.1).bind fun r8=>(if (v7.2.2.2.1.2.2.2.1.length+[r8.1].length) * 8≤140737488355328 then L7 (IntKind.i64.wrap (v7.1 - (1:Int)),v7.2.1,r8.2.1,(v7.2.2.2.1.1,v7.2.2.2.1.2.1,v7.2.2.2.1.2.2.1,v7.2.2.2.1.2.2.2.1++[r8.1],v7.2.2.2.1.2.2.2.2),()) else none)) else ((dh n v7.2.2.1).bind fun r9=>((dh n r9.2.1).bind fun NU=>((fT n NU.2.1).bind fun Ir=>((fT n Ir.2.1).bind fun Km=>((iq n Km.2.1 Km.1).bind fun Oj=>some ((v7.2.2.2.1.1,v7.2.2.2.1.2.1,v7.2.2.2.1.2.2.1,v7.2.2.2.1.2.2.2.1,r9.1,NU.1,Ir.1,Oj.1,v7.2.2.2.1.2.2.2.2.2.2.2.2),()))))))) else ((dh n v7.2.2.1).bind fun Yz=>((dh n Yz.2.1).bind fun TK=>((fT n TK.2.1).bind fun r16=>((fT n r16.2.1).bind fun r17=>((iq n r17.2.1 r17.1).bind fun r18=>some ((v7.2.2.2.1.1,v7.2.2.2.1.2.1,v7.2.2.2.1.2.2.1,v7.2.2.2.1.2.2.2.1,Yz.1,TK.1,r16.1,r18.1,v7.2.2.2.1.2.2.2.2.2.2.2.2),())))))))) n (r6.1,Ey,r6.2.1,(r1.1,r3.1,r5.1,([]:List Int),(0:Int),(0:Int),(0:Int),([]:List Int),()),()))))))))
def E_8:Entry:=⟨162,[.val (.sl 5 (.int .u8)) []],[.own iG [2,5] [] []],fun n c=>u7 n c.1⟩
def H_8:Hint:=⟨0,[30,45],[(0,[2,3,4,5],[66,98,130])],[],[(193,some 9,V3),(193,some 11,V3),(194,some 12,E_6),(193,some 15,V3),(194,some 16,E_6),(193,some 19,V3),(195,some 31,E_7),(193,some 35,V3),(193,some 37,V3),(195,some 39,E_7),(195,some 41,E_7),(194,some 43,E_6)],[],[],[],[]⟩
theorem D_8:gT T H_8 Tryz.f162 E_8:=by intro n c; kernel_rfl
theorem K_8 [Fr] (n:Nat):aj Tryz.prog n E_8:=ak mixed aK Tryz.func162 (by kernel_rfl) (hi:=H_8) (aa (Zj n) (aa (Zj n) (aa (K_6 n) (aa (Zj n) (aa (K_6 n) (aa (Zj n) (aa (K_7 n) (aa (Zj n) (aa (Zj n) (aa (K_7 n) (aa (K_7 n) (aa (K_6 n) aD)))))))))))) D_8
def iF (n:Nat) (a0:Int):Option (Bool×Unit):=(if decide (a0=(5:Int))=true then some (true,()) else some (decide (a0=(6:Int)),()))
def E_9:Entry:=⟨131,[.val (.int .i64) []],[.val .bool [] []],fun n c=>iF n c.1⟩
def H_9:Hint:=⟨0,[],[],[],[],[],[],[],[]⟩
theorem D_9:gT T H_9 Tryz.f131 E_9:=by intro n c; kernel_rfl
theorem K_9 [Fr] (n:Nat):aj Tryz.prog n E_9:=ak mixed aK Tryz.func131 (by kernel_rfl) (hi:=H_9) aD D_9
def uY (n:Nat) (a0:iw):Option (Bool×Unit):=((bP n a0.1 (1:Int) (7:Int)).bind fun r1=>(if (!r1.1)=true then some (false,()) else ((iF n a0.1).bind fun r2=>(if (!r2.1)=true then (if (!decide (a0.2.2.1=([]:List Int)))=true then some (false,()) else ((iF n a0.1).bind fun r3=>(if (!r3.1)=true then (if (!decide (a0.1=(4:Int)))=true then (if decide ((a0.2.2.2.1.length:Int)>(0:Int))=true then some (false,()) else (if (!decide (a0.1=(4:Int)))=true then (if (!decide (a0.2.2.2.2.1=(0:Int)))=true then some (false,()) else (if (!decide (a0.1=(3:Int)))=true then (if (!decide (a0.2.2.2.2.2.2.1=(0:Int)))=true then some (false,()) else (if decide ((a0.2.2.2.2.2.2.2.1.length:Int)>(0:Int))=true then some (false,()) else (if decide (a0.1=(3:Int))=true then some (true,()) else (if decide (a0.1=(4:Int))=true then some (true,()) else some (decide (a0.2.2.2.2.2.1=(0:Int)),()))))) else (if decide (a0.1=(3:Int))=true then some (true,()) else (if decide (a0.1=(4:Int))=true then some (true,()) else some (decide (a0.2.2.2.2.2.1=(0:Int)),()))))) else (if (!decide (a0.1=(3:Int)))=true then (if (!decide (a0.2.2.2.2.2.2.1=(0:Int)))=true then some (false,()) else (if decide ((a0.2.2.2.2.2.2.2.1.length:Int)>(0:Int))=true then some (false,()) else (if decide (a0.1=(3:Int))=true then some (true,()) else (if decide (a0.1=(4:Int))=true then some (true,()) else some (decide (a0.2.2.2.2.2.1=(0:Int)),()))))) else (if decide (a0.1=(3:Int))=true then some (true,()) else (if decide (a0.1=(4:Int))=true then some (true,()) else some (decide (a0.2.2.2.2.2.1=(0:Int)),())))))) else (if (!decide (a0.1=(4:Int)))=true then (if (!decide (a0.2.2.2.2.1=(0:Int)))=true then some (false,()) else (if (!decide (a0.1=(3:Int)))=true then (if (!decide (a0.2.2.2.2.2.2.1=(0:Int)))=true then some (false,()) else (if decide ((a0.2.2.2.2.2.2.2.1.length:Int)>(0:Int))=true then some (false,()) else (if decide (a0.1=(3:Int))=true then some (true,()) else (if decide (a0.1=(4:Int))=true then some (true,()) else some (decide (a0.2.2.2.2.2.1=(0:Int)),()))))) else (if decide (a0.1=(3:Int))=true then some (true,()) else (if decide (a0.1=(4:Int))=true then some (true,()) else some (decide (a0.2.2.2.2.2.1=(0:Int)),()))))) else (if (!decide (a0.1=(3:Int)))=true then (if (!decide (a0.2.2.2.2.2.2.1=(0:Int)))=true then some (false,()) else (if decide ((a0.2.2.2.2.2.2.2.1.length:Int)>(0:Int))=true then some (false,()) else (if decide (a0.1=(3:Int))=true then some (true,()) else (if decide (a0.1=(4:Int))=true then some (true,()) else some (decide (a0.2.2.2.2.2.1=(0:Int)),()))))) else (if decide (a0.1=(3:Int))=true then some (true,()) else (if decide (a0.1=(4:Int))=true then some (true,()) else some (decide (a0.2.2.2.2.2.1=(0:Int)),())))))) else (if (!decide (a0.1=(4:Int)))=true then (if (!decide (a0.2.2.2.2.1=(0:Int)))=true then some (false,()) else (if (!decide (a0.1=(3:Int)))=true then (if (!decide (a0.2.2.2.2.2.2.1=(0:Int)))=true then some (false,()) else (if decide ((a0.2.2.2.2.2.2.2.1.length:Int)>(0:Int))=true then some (false,()) else (if decide (a0.1=(3:Int))=true then some (true,()) else (if decide (a0.1=(4:Int))=true then some (true,()) else some (decide (a0.2.2.2.2.2.1=(0:Int)),()))))) else (if decide (a0.1=(3:Int))=true then some (true,()) else (if decide (a0.1=(4:Int))=true then some (true,()) else some (decide (a0.2.2.2.2.2.1=(0:Int)),()))))) else (if (!decide (a0.1=(3:Int)))=true then (if (!decide (a0.2.2.2.2.2.2.1=(0:Int)))=true then some (false,()) else (if decide ((a0.2.2.2.2.2.2.2.1.length:Int)>(0:Int))=true then some (false,()) else (if decide (a0.1=(3:Int))=true then some (true,()) else (if decide (a0.1=(4:Int))=true then some (true,()) else some (decide (a0.2.2.2.2.2.1=(0:Int)),()))))) else (if decide (a0.1=(3:Int))=true then some (true,()) else (if decide (a0.1=(4:Int))=true then some (true,()) else some (decide (a0.2.2.2.2.2.1=(0:Int)),())))))))) else ((iF n a0.1).bind fun r4=>(if (!r4.1)=true then (if (!decide (a0.1=(4:Int)))=true then (if decide ((a0.2.2.2.1.length:Int)>(0:Int))=true then some (false,()) else (if (!decide (a0.1=(4:Int)))=true then (if (!decide (a0.2.2.2.2.1=(0:Int)))=true then some (false,()) else (if (!decide (a0.1=(3:Int)))=true then (if (!decide (a0.2.2.2.2.2.2.1=(0:Int)))=true then some (false,()) else (if decide ((a0.2.2.2.2.2.2.2.1.length:Int)>(0:Int))=true then some (false,()) else (if decide (a0.1=(3:Int))=true then some (true,()) else (if decide (a0.1=(4:Int))=true then some (true,()) else some (decide (a0.2.2.2.2.2.1=(0:Int)),()))))) else (if decide (a0.1=(3:Int))=true then some (true,()) else (if decide (a0.1=(4:Int))=true then some (true,()) else some (decide (a0.2.2.2.2.2.1=(0:Int)),()))))) else (if (!decide (a0.1=(3:Int)))=true then (if (!decide (a0.2.2.2.2.2.2.1=(0:Int)))=true then some (false,()) else (if decide ((a0.2.2.2.2.2.2.2.1.length:Int)>(0:Int))=true then some (false,()) else (if decide (a0.1=(3:Int))=true then some (true,()) else (if decide (a0.1=(4:Int))=true then some (true,()) else some (decide (a0.2.2.2.2.2.1=(0:Int)),()))))) else (if decide (a0.1=(3:Int))=true then some (true,()) else (if decide (a0.1=(4:Int))=true then some (true,()) else some (decide (a0.2.2.2.2.2.1=(0:Int)),())))))) else (if (!decide (a0.1=(4:Int)))=true then (if (!decide (a0.2.2.2.2.1=(0:Int)))=true then some (false,()) else (if (!decide (a0.1=(3:Int)))=true then (if (!decide (a0.2.2.2.2.2.2.1=(0:Int)))=true then some (false,()) else (if decide ((a0.2.2.2.2.2.2.2.1.length:Int)>(0:Int))=true then some (false,()) else (if decide (a0.1=(3:Int))=true then some (true,()) else (if decide (a0.1=(4:Int))=true then some (true,()) else some (decide (a0.2.2.2.2.2.1=(0:Int)),()))))) else (if decide (a0.1=(3:Int))=true then some (true,()) else (if decide (a0.1=(4:Int))=true then some (true,()) else some (decide (a0.2.2.2.2.2.1=(0:Int)),()))))) else (if (!decide (a0.1=(3:Int)))=true then (if (!decide (a0.2.2.2.2.2.2.1=(0:Int)))=true then some (false,()) else (if decide ((a0.2.2.2.2.2.2.2.1.length:Int)>(0:Int))=true then some (false,()) else (if decide (a0.1=(3:Int))=true then some (true,()) else (if decide (a0.1=(4:Int))=true then some (true,()) else some (decide (a0.2.2.2.2.2.1=(0:Int)),()))))) else (if decide (a0.1=(3:Int))=true then some (true,()) else (if decide (a0.1=(4:Int))=true then some (true,()) else some (decide (a0.2.2.2.2.2.1=(0:Int)),())))))) else (if (!decide (a0.1=(4:Int)))=true then (if (!decide (a0.2.2.2.2.1=(0:Int)))=true then some (false,()) else (if (!decide (a0.1=(3:Int)))=true then (if (!decide (a0.2.2.2.2.2.2.1=(0:Int)))=true then some (false,()) else (if decide ((a0.2.2.2.2.2.2.2.1.length:Int)>(0:Int))=true then some (false,()) else (if decide (a0.1=(3:Int))=true then some (true,()) else (if decide (a0.1=(4:Int))=true then some (true,()) else some (decide (a0.2.2.2.2.2.1=(0:Int)),()))))) else (if decide (a0.1=(3:Int))=true then some (true,()) else (if decide (a0.1=(4:Int))=true then some (true,()) else some (decide (a0.2.2.2.2.2.1=(0:Int)),()))))) else (if (!decide (a0.1=(3:Int)))=true then (if (!decide (a0.2.2.2.2.2.2.1=(0:Int)))=true then some (false,()) else (if decide ((a0.2.2.2.2.2.2.2.1.length:Int)>(0:Int))=true then some (false,()) else (if decide (a0.1=(3:Int))=true then some (true,()) else (if decide (a0.1=(4:Int))=true then some (true,()) else some (decide (a0.2.2.2.2.2.1=(0:Int)),()))))) else (if decide (a0.1=(3:Int))=true then some (true,()) else (if decide (a0.1=(4:Int))=true then some (true,()) else some (decide (a0.2.2.2.2.2.1=(0:Int)),())))))))))))
def abq:Entry:=⟨179,[.ro iG],[.val .bool [] []],fun n c=>uY n c.1⟩
def aem:Hint:=⟨0,[],[],[],[(44,some 7,SE),(131,some 14,E_9),(131,some 28,E_9)],[],[],[],[]⟩
theorem ahT:gT T aem Tryz.f179 abq:=by intro n c; kernel_rfl
theorem ajo [Fr] (n:Nat):aj Tryz.prog n abq:=ak mixed aK Tryz.func179 (by kernel_rfl) (hi:=aem) (aa (VL n) (aa (K_9 n) (aa (K_9 n) aD))) ahT
def qE (n:Nat) (a0:List Int):Option (Bool×Unit):=(rounds (fun L1 (v1:Zt0)=>(if decide (v1.2.1<(v1.1.length:Int))=true then (if aI v1.2.1 v1.1.length then ((bP n (v1.1.getD v1.2.1.toNat (0:Int)) (1:Int) (999:Int)).bind fun r2=>(if (!r2.1)=true then some (false,()) else (if decide (v1.2.1>(0:Int))=true then (if aI v1.2.1 v1.1.length then (if aI (IntKind.i64.wrap (v1.2.1 - (1:Int))) v1.1.length then (if decide ((v1.1.getD v1.2.1.toNat (0:Int))≤(v1.1.getD (IntKind.i64.wrap (v1.2.1 - (1:Int))).toNat (0:Int)))=true then some (false,()) else L1 (v1.1,IntKind.i64.wrap (v1.2.1+(1:Int)),())) else none) else none) else L1 (v1.1,IntKind.i64.wrap (v1.2.1+(1:Int)),())))) else none) else some (true,()))) n (a0,(0:Int),()))
def abr:Entry:=⟨181,[.val (.sl 2 (.int .i64)) []],[.val .bool [] []],fun n c=>qE n c.1⟩
def aen:Hint:=⟨0,[],[(0,[0,3],[])],[],[(44,some 14,SE)],[],[],[],[]⟩
theorem ahU:gT T aen Tryz.f181 abr:=by intro n c; kernel_rfl
theorem ajp [Fr] (n:Nat):aj Tryz.prog n abr:=ak mixed aK Tryz.func181 (by kernel_rfl) (hi:=aen) (aa (VL n) aD) ahU
def o8 (n:Nat) (a0:iw):Option (Int×Unit):=((uY n a0).bind fun r1=>(if (!r1.1)=true then some ((1:Int),()) else ((kC n a0.2.1).bind fun r2=>(if (!r2.1)=true then some ((5:Int),()) else ((iF n a0.1).bind fun r3=>(if r3.1=true then ((kC n a0.2.2.1).bind fun r4=>(if (!r4.1)=true then some ((5:Int),()) else (if decide ((a0.2.2.2.1.length:Int)>(6:Int))=true then some ((2:Int),()) else ((qE n a0.2.2.2.1).bind fun r5=>(if (!r5.1)=true then some ((3:Int),()) else (if decide (a0.1=(4:Int))=true then ((bP n a0.2.2.2.2.1 (1:Int) (3:Int)).bind fun r6=>(if (!r6.1)=true then some ((3:Int),()) else ((bP n a0.2.2.2.2.2.1 (0:Int) (15:Int)).bind fun r7=>(if (!r7.1)=true then some ((3:Int),()) else ((bP n a0.2.2.2.2.2.2.1 (0:Int) (9999:Int)).bind fun r8=>(if (!r8.1)=true then some ((3:Int),()) else (if decide ((a0.2.2.2.2.2.2.2.1.length:Int)>(400:Int))=true then some ((2:Int),()) else some ((0:Int),())))))))) else ((bP n a0.2.2.2.2.2.1 (0:Int) (15:Int)).bind fun r9=>(if (!r9.1)=true then some ((3:Int),()) else ((bP n a0.2.2.2.2.2.2.1 (0:Int) (9999:Int)).bind fun NU=>(if (!NU.1)=true then some ((3:Int),()) else (if decide ((a0.2.2.2.2.2.2.2.1.length:Int)>(400:Int))=true then some ((2:Int),()) else some ((0:Int),())))))))))))) else (if decide ((a0.2.2.2.1.length:Int)>(6:Int))=true then some ((2:Int),()) else ((qE n a0.2.2.2.1).bind fun Ir=>(if (!Ir.1)=true then some ((3:Int),()) else (if decide (a0.1=(4:Int))=true then ((bP n a0.2.2.2.2.1 (1:Int) (3:Int)).bind fun Km=>(if (!Km.1)=true then some ((3:Int),()) else ((bP n a0.2.2.2.2.2.1 (0:Int) (15:Int)).bind fun Oj=>(if (!Oj.1)=true then some ((3:Int),()) else ((bP n a0.2.2.2.2.2.2.1 (0:Int) (9999:Int)).bind fun Yz=>(if (!Yz.1)=true then some ((3:Int),()) else (if decide ((a0.2.2.2.2.2.2.2.1.length:Int)>(400:Int))=true then some ((2:Int),()) else some ((0:Int),())))))))) else ((bP n a0.2.2.2.2.2.1 (0:Int) (15:Int)).bind fun TK=>(if (!TK.1)=true then some ((3:Int),()) else ((bP n a0.2.2.2.2.2.2.1 (0:Int) (9999:Int)).bind fun r16=>(if (!r16.1)=true then some ((3:Int),()) else (if decide ((a0.2.2.2.2.2.2.2.1.length:Int)>(400:Int))=true then some ((2:Int),()) else some ((0:Int),()))))))))))))))))
def Y5:Entry:=⟨154,[.ro iG],[.val (.int .i64) [] []],fun n c=>o8 n c.1⟩
def aeo:Hint:=⟨0,[],[],[],[(179,some 4,abq),(180,some 10,E_1),(131,some 17,E_9),(180,some 23,E_1),(181,some 37,abr),(44,some 50,SE),(44,some 59,SE),(44,some 67,SE)],[],[],[],[]⟩
theorem ahV:gT T aeo Tryz.f154 Y5:=by intro n c; kernel_rfl
theorem afU [Fr] (n:Nat):aj Tryz.prog n Y5:=ak mixed aK Tryz.func154 (by kernel_rfl) (hi:=aeo) (aa (ajo n) (aa (K_1 n) (aa (K_9 n) (aa (K_1 n) (aa (ajp n) (aa (VL n) (aa (VL n) (aa (VL n) aD)))))))) ahV
def mQ (n:Nat) (a0:Int):Option ((List Int)×Unit):=(if (256:Int)≠0 then (if (256:Int)≠0 then some ([IntKind.u8.wrap (IntKind.i64.wrap (a0.tdiv (256:Int))),IntKind.u8.wrap (a0.tmod (256:Int))],()) else none) else none)
def Qu:Entry:=⟨94,[.val (.int .i64) []],[.own (.sl 5 (.int .u8)) [5] [] []],fun n c=>mQ n c.1⟩
def aep:Hint:=⟨0,[],[],[],[],[],[],[],[]⟩
theorem ahW:gT T aep Tryz.f94 Qu:=by intro n c; kernel_rfl
theorem Wn [Fr] (n:Nat):aj Tryz.prog n Qu:=ak mixed aK Tryz.func94 (by kernel_rfl) (hi:=aep) aD ahW
def wG (n:Nat) (a0:List Int):Option (Int×Unit):=(rounds (fun L1 (v1:(List Int)×Int×Int×Unit)=>(if decide (v1.2.2.1<(v1.1.length:Int))=true then (if aI v1.2.2.1 v1.1.length then (if (65521:Int)≠0 then L1 (v1.1,(IntKind.i64.wrap ((IntKind.i64.wrap (v1.2.1 * (31:Int)))+(IntKind.i64.wrap (v1.1.getD v1.2.2.1.toNat (0:Int))))).tmod (65521:Int),IntKind.i64.wrap (v1.2.2.1+(1:Int)),()) else none) else none) else some (v1.2.1,()))) n (a0,(1:Int),(0:Int),()))
def abt:Entry:=⟨95,[.val (.sl 5 (.int .u8)) []],[.val (.int .i64) [] []],fun n c=>wG n c.1⟩
def aer:Hint:=⟨0,[],[(0,[0,3,4],[])],[],[],[],[],[],[]⟩
theorem ahX:gT T aer Tryz.f95 abt:=by intro n c; kernel_rfl
theorem ajq [Fr] (n:Nat):aj Tryz.prog n abt:=ak mixed aK Tryz.func95 (by kernel_rfl) (hi:=aer) aD ahX
def u6 (n:Nat) (a0:iw):Option ((List Int)×Unit):=(if ([(0:Int),(0:Int),IntKind.u8.wrap a0.1,IntKind.u8.wrap (a0.2.1.length:Int)].length+a0.2.1.length) * 1≤140737488355328 then (if (([(0:Int),(0:Int),IntKind.u8.wrap a0.1,IntKind.u8.wrap (a0.2.1.length:Int)]++a0.2.1).length+[IntKind.u8.wrap (a0.2.2.1.length:Int)].length) * 1≤140737488355328 then (if ((([(0:Int),(0:Int),IntKind.u8.wrap a0.1,IntKind.u8.wrap (a0.2.1.length:Int)]++a0.2.1)++[IntKind.u8.wrap (a0.2.2.1.length:Int)]).length+a0.2.2.1.length) * 1≤140737488355328 then (if (((([(0:Int),(0:Int),IntKind.u8.wrap a0.1,IntKind.u8.wrap (a0.2.1.length:Int)]++a0.2.1)++[IntKind.u8.wrap (a0.2.2.1.length:Int)])++a0.2.2.1).length+[IntKind.u8.wrap (a0.2.2.2.1.length:Int)].length) * 1≤140737488355328 then (rounds (fun L1 (v1:iw×Int×(List Int)×Unit)=>(if decide (v1.2.1<(v1.1.2.2.2.1.length:Int))=true then (if aI v1.2.1 v1.1.2.2.2.1.length then ((mQ n (v1.1.2.2.2.1.getD v1.2.1.toNat (0:Int))).bind fun r2=>(if (v1.2.2.1.length+r2.1.length) * 1≤140737488355328 then L1 (v1.1,IntKind.i64.wrap (v1.2.1+(1:Int)),v1.2.2.1++r2.1,()) else none)) else none) else (if (v1.2.2.1.length+[IntKind.u8.wrap v1.1.2.2.2.2.1,IntKind.u8.wrap v1.1.2.2.2.2.2.1].length) * 1≤140737488355328 then ((mQ n v1.1.2.2.2.2.2.2.1).bind fun r3=>(if ((v1.2.2.1++[IntKind.u8.wrap v1.1.2.2.2.2.1,IntKind.u8.wrap v1.1.2.2.2.2.2.1]).length+r3.1.length) * 1≤140737488355328 then ((mQ n (v1.1.2.2.2.2.2.2.2.1.length:Int)).bind fun r4=>(if (((v1.2.2.1++[IntKind.u8.wrap v1.1.2.2.2.2.1,IntKind.u8.wrap v1.1.2.2.2.2.2.1])++r3.1).length+r4.1.length) * 1≤140737488355328 then (if ((((v1.2.2.1++[IntKind.u8.wrap v1.1.2.2.2.2.1,IntKind.u8.wrap v1.1.2.2.2.2.2.1])++r3.1)++r4.1).length+v1.1.2.2.2.2.2.2.2.1.length) * 1≤140737488355328 then ((mQ n (IntKind.i64.wrap ((((((v1.2.2.1++[IntKind.u8.wrap v1.1.2.2.2.2.1,IntKind.u8.wrap v1.1.2.2.2.2.2.1])++r3.1)++r4.1)++v1.1.2.2.2.2.2.2.2.1).length:Int)+(2:Int)))).bind fun r5=>(if r5.1.length≤((((v1.2.2.1++[IntKind.u8.wrap v1.1.2.2.2.2.1,IntKind.u8.wrap v1.1.2.2.2.2.2.1])++r3.1)++r4.1)++v1.1.2.2.2.2.2.2.2.1).length then ((wG n (r5.1++((((v1.2.2.1++[IntKind.u8.wrap v1.1.2.2.2.2.1,IntKind.u8.wrap v1.1.2.2.2.2.2.1])++r3.1)++r4.1)++v1.1.2.2.2.2.2.2.2.1).drop r5.1.length)).bind fun r6=>((mQ n r6.1).bind fun r7=>(if ((r5.1++((((v1.2.2.1++[IntKind.u8.wrap v1.1.2.2.2.2.1,IntKind.u8.wrap v1.1.2.2.2.2.2.1])++r3.1)++r4.1)++v1.1.2.2.2.2.2.2.2.1).drop r5.1.length).length+r7.1.length) * 1≤140737488355328 then some ((r5.1++((((v1.2.2.1++[IntKind.u8.wrap v1.1.2.2.2.2.1,IntKind.u8.wrap v1.1.2.2.2.2.2.1])++r3.1)++r4.1)++v1.1.2.2.2.2.2.2.2.1).drop r5.1.length)++r7.1,()) else none))) else none)) else none) else none)) else none)) else none))) n (a0,(0:Int),((([(0:Int),(0:Int),IntKind.u8.wrap a0.1,IntKind.u8.wrap (a0.2.1.length:Int)]++a0.2.1)++[IntKind.u8.wrap (a0.2.2.1.length:Int)])++a0.2.2.1)++[IntKind.u8.wrap (a0.2.2.2.1.length:Int)],())) else none) else none) else none) else none)
def abu:Entry:=⟨63,[.ro iG],[.own (.sl 5 (.int .u8)) [5] [] []],fun n c=>u6 n c.1⟩
def aes:Hint:=⟨0,[],[(0,[0,3,4],[514])],[],[(94,some 64,Qu),(94,some 83,Qu),(94,some 91,Qu),(94,some 102,Qu),(95,some 106,abt),(94,some 107,Qu)],[],[],[103],[]⟩
theorem ahY:gT T aes Tryz.f63 abu:=by intro n c; kernel_rfl
theorem ajr [Fr] (n:Nat):aj Tryz.prog n abu:=ak mixed aK Tryz.func63 (by kernel_rfl) (hi:=aes) (aa (Wn n) (aa (Wn n) (aa (Wn n) (aa (Wn n) (aa (ajq n) (aa (Wn n) aD)))))) ahY
def uU (n:Nat) (a0:List Int):Option (akl×Unit):=(if decide ((a0.length:Int)<(2:Int))=true then some (((5:Int),(0:Int),Ey,()),()) else (if aI (0:Int) a0.length then (if aI (1:Int) a0.length then (if decide ((IntKind.i64.wrap ((IntKind.i64.wrap ((IntKind.i64.wrap (a0.getD (0:Int).toNat (0:Int))) * (256:Int)))+(IntKind.i64.wrap (a0.getD (1:Int).toNat (0:Int)))))<(2:Int))=true then some (((5:Int),(0:Int),Ey,()),()) else (if decide ((IntKind.i64.wrap ((IntKind.i64.wrap ((IntKind.i64.wrap (a0.getD (0:Int).toNat (0:Int))) * (256:Int)))+(IntKind.i64.wrap (a0.getD (1:Int).toNat (0:Int)))))>(a0.length:Int))=true then some (((5:Int),(0:Int),Ey,()),()) else (if 0≤(IntKind.i64.wrap ((IntKind.i64.wrap ((IntKind.i64.wrap (a0.getD (0:Int).toNat (0:Int))) * (256:Int)))+(IntKind.i64.wrap (a0.getD (1:Int).toNat (0:Int)))))∧(IntKind.i64.wrap ((IntKind.i64.wrap ((IntKind.i64.wrap (a0.getD (0:Int).toNat (0:Int))) * (256:Int)))+(IntKind.i64.wrap (a0.getD (1:Int).toNat (0:Int)))))≤(a0.length:Int) then ((u7 n (a0.take (IntKind.i64.wrap ((IntKind.i64.wrap ((IntKind.i64.wrap (a0.getD (0:Int).toNat (0:Int))) * (256:Int)))+(IntKind.i64.wrap (a0.getD (1:Int).toNat (0:Int))))).toNat)).bind fun r1=>((o8 n r1.1).bind fun r2=>(if (!decide (r2.1=(0:Int)))=true then some (((5:Int),(0:Int),Ey,()),()) else ((u6 n r1.1).bind fun r3=>(if 0≤(IntKind.i64.wrap ((IntKind.i64.wrap ((IntKind.i64.wrap (a0.getD (0:Int).toNat (0:Int))) * (256:Int)))+(IntKind.i64.wrap (a0.getD (1:Int).toNat (0:Int)))))∧(IntKind.i64.wrap ((IntKind.i64.wrap ((IntKind.i64.wrap (a0.getD (0:Int).toNat (0:Int))) * (256:Int)))+(IntKind.i64.wrap (a0.getD (1:Int).toNat (0:Int)))))≤(a0.length:Int) then (if (!decide (r3.1=(a0.take (IntKind.i64.wrap ((IntKind.i64.wrap ((IntKind.i64.wrap (a0.getD (0:Int).toNat (0:Int))) * (256:Int)))+(IntKind.i64.wrap (a0.getD (1:Int).toNat (0:Int))))).toNat)))=true then some (((5:Int),(0:Int),Ey,()),()) else some (((0:Int),IntKind.i64.wrap ((IntKind.i64.wrap ((IntKind.i64.wrap (a0.getD (0:Int).toNat (0:Int))) * (256:Int)))+(IntKind.i64.wrap (a0.getD (1:Int).toNat (0:Int)))),r1.1,()),())) else none))))) else none))) else none) else none))
def abv:Entry:=⟨123,[.val (.sl 5 (.int .u8)) []],[.own I5 [2,5] [] []],fun n c=>uU n c.1⟩
def aet:Hint:=⟨0,[45],[],[],[(162,some 31,E_8),(154,some 32,Y5),(63,some 35,abu)],[],[],[],[]⟩
theorem ahZ:gT T aet Tryz.f123 abv:=by intro n c; kernel_rfl
theorem ajs [Fr] (n:Nat):aj Tryz.prog n abv:=ak mixed aK Tryz.func123 (by kernel_rfl) (hi:=aet) (aa (K_8 n) (aa (afU n) (aa (ajr n) aD))) ahZ
def lK (n:Nat) (a0:List Int):Option ((List iw)×Int×Unit):=(rounds (fun L1 (v1:(List Int)×Int×(List iw)×Unit)=>(if decide (v1.2.1<(v1.1.length:Int))=true then (if 0≤v1.2.1∧v1.2.1≤(v1.1.length:Int) then ((uU n (v1.1.drop v1.2.1.toNat)).bind fun r2=>(if (!decide (r2.1.1=(0:Int)))=true then some (v1.2.2.1,v1.2.1,()) else (if (v1.2.2.1.length+[r2.1.2.2.1].length) * 112≤140737488355328 then L1 (v1.1,IntKind.i64.wrap (v1.2.1+r2.1.2.1),v1.2.2.1++[r2.1.2.2.1],()) else none))) else none) else some (v1.2.2.1,v1.2.1,()))) n (a0,(0:Int),([]:List iw),()))
def Y6:Entry:=⟨92,[.val (.sl 5 (.int .u8)) []],[.own (.sl 48 iG) [2,5,48] [] [], .val (.int .i64) [] []],fun n c=>lK n c.1⟩
def aeu:Hint:=⟨0,[21],[(0,[0,4,5],[226])],[],[(123,some 15,abv)],[],[],[],[]⟩
theorem ah0:gT T aeu Tryz.f92 Y6:=by intro n c; kernel_rfl
theorem afV [Fr] (n:Nat):aj Tryz.prog n Y6:=ak mixed aK Tryz.func92 (by kernel_rfl) (hi:=aeu) (aa (ajs n) aD) ah0
def uV (n:Nat) (a0:vV):Option ((List iw)×Bool×Unit):=((lK n a0.2.1).bind fun r1=>((lK n a0.2.2.1).bind fun r2=>(if (r1.1.length+r2.1.length) * 112≤140737488355328 then (if decide (r1.2.1=(a0.2.1.length:Int))=true then some (r1.1++r2.1,decide (r2.2.1=(a0.2.2.1.length:Int)),()) else some (r1.1++r2.1,false,())) else none)))
def abw:Entry:=⟨60,[.ro xX],[.own (.sl 48 iG) [2,5,48] [] [], .val .bool [] []],fun n c=>uV n c.1⟩
def aev:Hint:=⟨0,[],[],[],[(92,some 13,Y6),(92,some 21,Y6)],[],[],[],[]⟩
theorem ah1:gT T aev Tryz.f60 abw:=by intro n c; kernel_rfl
theorem ajt [Fr] (n:Nat):aj Tryz.prog n abw:=ak mixed aK Tryz.func60 (by kernel_rfl) (hi:=aev) (aa (afV n) (aa (afV n) aD)) ah1
def vT (n:Nat)  : Option (fI×Unit):=some (((1:Int),([]:List dQ),()),())
def abx:Entry:=⟨116,[],[.own qy [5,100,103] [] []],fun n c=>vT n⟩
def aew:Hint:=⟨0,[],[],[],[],[],[],[],[]⟩
theorem ah2:gT T aew Tryz.f116 abx:=by intro n c; kernel_rfl
theorem aju [Fr] (n:Nat):aj Tryz.prog n abx:=ak mixed aK Tryz.func116 (by kernel_rfl) (hi:=aew) aD ah2
def dU (n:Nat) (a0:Int):Option (FV×Unit):=some ((a0,([]:List Int),OL,()),())
def Hg:Entry:=⟨153,[.val (.int .i64) []],[.own M4 [2,5,100,103] [] []],fun n c=>dU n c.1⟩
def aex:Hint:=⟨0,[],[],[],[],[],[],[],[]⟩
theorem ah3:gT T aex Tryz.f153 Hg:=by intro n c; kernel_rfl
theorem KU [Fr] (n:Nat):aj Tryz.prog n Hg:=ak mixed aK Tryz.func153 (by kernel_rfl) (hi:=aex) aD ah3
def kr (n:Nat) (a0:List Int):Option ((List Int)×Unit):=(if (([]:List Int).length+a0.length) * 1≤140737488355328 then some (([]:List Int)++a0,()) else none)
def TY:Entry:=⟨45,[.val (.sl 5 (.int .u8)) []],[.own (.sl 5 (.int .u8)) [5] [] []],fun n c=>kr n c.1⟩
def aey:Hint:=⟨0,[],[],[],[],[],[],[],[]⟩
theorem ah4:gT T aey Tryz.f45 TY:=by intro n c; kernel_rfl
theorem Zg [Fr] (n:Nat):aj Tryz.prog n TY:=ak mixed aK Tryz.func45 (by kernel_rfl) (hi:=aey) aD ah4
def oh (n:Nat) (a0:List rA):Option ((List rA)×Unit):=(rounds (fun L1 (v1:(List rA)×Int×(List rA)×Unit)=>(if decide (v1.2.1<(v1.1.length:Int))=true then (if aI v1.2.1 v1.1.length then ((kr n (((((v1.1.getD v1.2.1.toNat kG).2).2).2).1)).bind fun r2=>(if (v1.2.2.1.length+[((v1.1.getD v1.2.1.toNat kG).1,((v1.1.getD v1.2.1.toNat kG).2).1,(((v1.1.getD v1.2.1.toNat kG).2).2).1,r2.1,((((v1.1.getD v1.2.1.toNat kG).2).2).2).2)].length) * 48≤140737488355328 then L1 (v1.1,IntKind.i64.wrap (v1.2.1+(1:Int)),v1.2.2.1++[((v1.1.getD v1.2.1.toNat kG).1,((v1.1.getD v1.2.1.toNat kG).2).1,(((v1.1.getD v1.2.1.toNat kG).2).2).1,r2.1,((((v1.1.getD v1.2.1.toNat kG).2).2).2).2)],()) else none)) else none) else some (v1.2.2.1,()))) n (a0,(0:Int),([]:List rA),()))
def aby:Entry:=⟨124,[.val (.sl 103 zA) []],[.own (.sl 103 zA) [5,103] [] []],fun n c=>oh n c.1⟩
def aez:Hint:=⟨0,[22],[(0,[0,3,4],[194])],[],[(45,some 19,TY)],[],[],[],[]⟩
theorem ah5:gT T aez Tryz.f124 aby:=by intro n c; kernel_rfl
theorem ajv [Fr] (n:Nat):aj Tryz.prog n aby:=ak mixed aK Tryz.func124 (by kernel_rfl) (hi:=aez) (aa (Zg n) aD) ah5
def jl (n:Nat) (a0:dQ):Option (dQ×Unit):=((oh n a0.2.2.2.1).bind fun r1=>some ((a0.1,a0.2.1,a0.2.2.1,r1.1,a0.2.2.2.2),()))
def Y7:Entry:=⟨93,[.val nL []],[.own nL [5,103] [] []],fun n c=>jl n c.1⟩
def aeA:Hint:=⟨0,[7],[],[],[(124,some 5,aby)],[],[],[],[]⟩
theorem ah6:gT T aeA Tryz.f93 Y7:=by intro n c; kernel_rfl
theorem afW [Fr] (n:Nat):aj Tryz.prog n Y7:=ak mixed aK Tryz.func93 (by kernel_rfl) (hi:=aeA) (aa (ajv n) aD) ah6
def ku (n:Nat) (a0:fI):Option (fI×Unit):=(rounds (fun L1 (v1:Int×fI×fI×fI×Unit)=>(if decide (v1.1<(v1.2.1.2.1.length:Int))=true then (if aI v1.1 v1.2.1.2.1.length then ((jl n (v1.2.1.2.1.getD v1.1.toNat dF)).bind fun r2=>(if (v1.2.2.2.1.2.1.length+[r2.1].length) * 56≤140737488355328 then L1 (IntKind.i64.wrap (v1.1+(1:Int)),v1.2.1,v1.2.2.1,(v1.2.2.2.1.1,v1.2.2.2.1.2.1++[r2.1],v1.2.2.2.1.2.2),()) else none)) else none) else some (v1.2.2.2.1,()))) n ((0:Int),a0,OL,(a0.1,([]:List dQ),()),()))
def TZ:Entry:=⟨61,[.val qy []],[.own qy [5,100,103] [] []],fun n c=>ku n c.1⟩
def aeB:Hint:=⟨0,[16,26],[(0,[1,2,3,4],[34,66,98])],[],[(93,some 22,Y7)],[],[],[],[]⟩
theorem ah7:gT T aeB Tryz.f61 TZ:=by intro n c; kernel_rfl
theorem Zh [Fr] (n:Nat):aj Tryz.prog n TZ:=ak mixed aK Tryz.func61 (by kernel_rfl) (hi:=aeB) (aa (afW n) aD) ah7
def rG (n:Nat) (a0:fI) (a1:List Int):Option (Int×Unit):=(rounds (fun L1 (v1:fI×Zt0)=>(if decide (v1.2.2.1<(v1.1.2.1.length:Int))=true then (if aI v1.2.2.1 v1.1.2.1.length then (if decide (((v1.1.2.1.getD v1.2.2.1.toNat dF).1)=v1.2.1)=true then some (v1.2.2.1,()) else L1 (v1.1,v1.2.1,IntKind.i64.wrap (v1.2.2.1+(1:Int)),())) else none) else some ((-1:Int),()))) n (a0,a1,(0:Int),()))
def VY:Entry:=⟨183,[.ro qy, .val .str []],[.val (.int .i64) [] []],fun n c=>rG n c.1 c.2.1⟩
def aeC:Hint:=⟨0,[],[(0,[0,1,5],[])],[],[],[],[],[],[]⟩
theorem ah8:gT T aeC Tryz.f183 VY:=by intro n c; kernel_rfl
theorem acs [Fr] (n:Nat):aj Tryz.prog n VY:=ak mixed aK Tryz.func183 (by kernel_rfl) (hi:=aeC) aD ah8
def uZ (n:Nat) (a0:fI) (a1:iw):Option (FV×Unit):=((rG n a0 a1.2.1).bind fun r1=>(if decide (r1.1≥(0:Int))=true then ((dU n (6:Int)).bind fun r2=>some (r2.1,())) else (if decide ((a0.2.1.length:Int)≥(3:Int))=true then ((dU n (10:Int)).bind fun r3=>some (r3.1,())) else (if decide (a0.1≥(1000:Int))=true then ((dU n (10:Int)).bind fun r4=>some (r4.1,())) else ((ku n a0).bind fun r5=>(if (r5.1.2.1.length+[(a1.2.1,a0.1,(1:Int),([]:List rA),())].length) * 56≤140737488355328 then some (((0:Int),([]:List Int),(IntKind.i64.wrap (a0.1+(1:Int)),r5.1.2.1++[(a1.2.1,a0.1,(1:Int),([]:List rA),())],r5.1.2.2),()),()) else none))))))
def abz:Entry:=⟨182,[.val qy [], .ro iG],[.own M4 [2,5,100,103] [] []],fun n c=>uZ n c.1 c.2.1⟩
def aeD:Hint:=⟨0,[26,41],[],[],[(183,some 10,VY),(153,some 12,Hg),(153,some 22,Hg),(61,some 24,TZ)],[],[],[],[]⟩
theorem ah9:gT T aeD Tryz.f182 abz:=by intro n c; kernel_rfl
theorem ajw [Fr] (n:Nat):aj Tryz.prog n abz:=ak mixed aK Tryz.func182 (by kernel_rfl) (hi:=aeD) (aa (acs n) (aa (KU n) (aa (KU n) (aa (Zh n) aD)))) ah9
def mP (n:Nat) (a0:dQ) (a1:rA):Option (Int×dQ×Unit):=((kr n a1.2.2.2.1).bind fun r1=>(if (a0.2.2.2.1.length+[(a0.2.2.1,a1.2.1,a1.2.2.1,r1.1,a1.2.2.2.2)].length) * 48≤140737488355328 then some (a0.2.2.1,(a0.1,a0.2.1,IntKind.i64.wrap (a0.2.2.1+(1:Int)),a0.2.2.2.1++[(a0.2.2.1,a1.2.1,a1.2.2.1,r1.1,a1.2.2.2.2)],a0.2.2.2.2),()) else none))
def Y8:Entry:=⟨184,[.rw nL [5,103] [5,103,4294967295] [5,103], .val zA []],[.val (.int .i64) [] []],fun n c=>mP n c.1 c.2.1⟩
def aeE:Hint:=⟨0,[18,19],[],[],[(45,some 12,TY)],[],[],[],[]⟩
theorem aia:gT T aeE Tryz.f184 Y8:=by intro n c; kernel_rfl
theorem afX [Fr] (n:Nat):aj Tryz.prog n Y8:=ak mixed aK Tryz.func184 (by kernel_rfl) (hi:=aeE) (aa (Zg n) aD) aia
def mO (n:Nat) (a0:List Int) (a1:Int):Option (Bool×Unit):=(rounds (fun L1 (v1:(List Int)×Int×Int×Unit)=>(if decide (v1.2.2.1<(v1.1.length:Int))=true then (if aI v1.2.2.1 v1.1.length then (if decide ((v1.1.getD v1.2.2.1.toNat (0:Int))=v1.2.1)=true then some (true,()) else L1 (v1.1,v1.2.1,IntKind.i64.wrap (v1.2.2.1+(1:Int)),())) else none) else some (false,()))) n (a0,a1,(0:Int),()))
def Qv:Entry:=⟨205,[.val (.sl 2 (.int .i64)) [], .val (.int .i64) []],[.val .bool [] []],fun n c=>mO n c.1 c.2.1⟩
def Wi:Hint:=⟨0,[],[(0,[0,1,5],[])],[],[],[],[],[],[]⟩
theorem abm:gT T Wi Tryz.f205 Qv:=by intro n c; kernel_rfl
theorem acu [Fr] (n:Nat):aj Tryz.prog n Qv:=ak mixed aK Tryz.func205 (by kernel_rfl) (hi:=Wi) aD abm
def sQ (n:Nat) (a0:Int) (a1:Int) (a2:Int):Option (Int×Unit):=(if decide (a1=(2:Int))=true then some (IntKind.i64.wrap ((BitVec.ofInt (IntKind.bits .i64) a0 ||| BitVec.ofInt (IntKind.bits .i64) a2).toNat),()) else (if decide (a1=(3:Int))=true then some (IntKind.i64.wrap ((BitVec.ofInt (IntKind.bits .i64) a0 &&& ~~~ BitVec.ofInt (IntKind.bits .i64) a2).toNat),()) else some (a2,())))
def abA:Entry:=⟨206,[.val (.int .i64) [], .val (.int .i64) [], .val (.int .i64) []],[.val (.int .i64) [] []],fun n c=>sQ n c.1 c.2.1 c.2.2.1⟩
def aeF:Hint:=⟨0,[],[],[],[],[],[],[],[]⟩
theorem aib:gT T aeF Tryz.f206 abA:=by intro n c; kernel_rfl
theorem ajx [Fr] (n:Nat):aj Tryz.prog n abA:=ak mixed aK Tryz.func206 (by kernel_rfl) (hi:=aeF) aD aib
def uX (n:Nat) (a0:dQ) (a1:iw):Option ((List Int)×dQ×Unit):=(rounds (fun L1 (v1:iw×Int×dQ×(List Int)×Unit)=>(if decide (v1.2.1<(v1.2.2.1.2.2.2.1.length:Int))=true then (if aI v1.2.1 v1.2.2.1.2.2.2.1.length then ((mO n v1.1.2.2.2.1 ((v1.2.2.1.2.2.2.1.getD v1.2.1.toNat kG).1)).bind fun r2=>(if r2.1=true then ((sQ n (((v1.2.2.1.2.2.2.1.getD v1.2.1.toNat kG).2).1) v1.1.2.2.2.2.1 v1.1.2.2.2.2.2.1).bind fun r3=>(if (v1.2.2.2.1.length+[((iR v1.2.2.1.2.2.2.1 v1.2.1.toNat kG fun z1=>(z1.1,r3.1,z1.2.2)).getD v1.2.1.toNat kG).1].length) * 8≤140737488355328 then L1 (v1.1,IntKind.i64.wrap (v1.2.1+(1:Int)),(v1.2.2.1.1,v1.2.2.1.2.1,v1.2.2.1.2.2.1,(iR v1.2.2.1.2.2.2.1 v1.2.1.toNat kG fun z1=>(z1.1,r3.1,z1.2.2)),v1.2.2.1.2.2.2.2),v1.2.2.2.1++[((iR v1.2.2.1.2.2.2.1 v1.2.1.toNat kG fun z1=>(z1.1,r3.1,z1.2.2)).getD v1.2.1.toNat kG).1],()) else none)) else L1 (v1.1,IntKind.i64.wrap (v1.2.1+(1:Int)),v1.2.2.1,v1.2.2.2.1,()))) else none) else some (v1.2.2.2.1,v1.2.2.1,()))) n (a1,(0:Int),a0,([]:List Int),()))
def abB:Entry:=⟨185,[.rw nL [5,103] [103] [], .ro iG],[.own (.sl 2 (.int .i64)) [2] [] []],fun n c=>uX n c.1 c.2.1⟩
def aeG:Hint:=⟨0,[21],[(0,[0,1,5,6],[0,258])],[],[(205,some 32,Qv),(206,some 46,abA)],[],[],[],[]⟩
theorem aic:gT T aeG Tryz.f185 abB:=by intro n c; kernel_rfl
theorem ajy [Fr] (n:Nat):aj Tryz.prog n abB:=ak mixed aK Tryz.func185 (by kernel_rfl) (hi:=aeG) (aa (acu n) (aa (ajx n) aD)) aic
namespace IdT
def YT:VM:={ ty:=[(2,(.int .i64)),(3,(.int .i64)),(4, .bool),(5,(.int .u8)),(6,(.int .u8)),(7,YY),(8,YY),(9, .str),(10, .str),(11, .str),(12,(.int .u64)),(13,YW),(14,YW),(21,(.int .i32)),(22,(.sl 5 (.int .u8))),(23,(.sl 134 YZ)),(24,QG),(25,QG),(26,Uj),(27,Uj),(29,(.sl 2 (.int .i64))),(30,(.sl 100 Ht)),(31,OI),(32,OI),(33,QI),(34,QI),(35,Uk),(36,Uk),(47,iG),(48,iG),(52,Ui),(53,Ui),(55,(.sl 48 iG)),(56,KZ),(57,KZ),(65,iG),(98,(.sl 103 K3)),(99,Ht),(100,Ht),(102,K3),(103,K3),(109,(.sl 22 (.sl 5 (.int .u8)))),(132,(.sl 199 K3)),(133,YZ),(134,YZ),(141,I5),(142,I5),(145,YX),(146,YX),(150,(.sl 9 .str)),(167,Uh),(168,Uh),(199,K3),(203,Ul),(204,Ul),(226,(.int .u32)),(227,(.int .u8)),(228,(.int .u8)),(231,(.int .i32)),(232,(.int .i32))],bytes:=[(2,8),(3,8),(4,1),(5,1),(6,1),(7,24),(8,24),(9,16),(10,16),(11,16),(12,8),(13,24),(14,24),(21,4),(22,24),(23,24),(24,32),(25,32),(26,88),(27,88),(29,24),(30,24),(31,32),(32,32),(33,88),(34,88),(35,120),(36,120),(47,112),(48,112),(52,64),(53,64),(55,24),(56,40),(57,40),(65,112),(98,24),(99,56),(100,56),(102,48),(103,48),(109,24),(132,24),(133,56),(134,56),(141,128),(142,128),(145,32),(146,32),(150,24),(167,32),(168,32),(199,48),(203,40),(204,40),(226,4),(227,1),(228,1),(231,4),(232,4)],ptr:=[15,16,17,74,87,118,136,161,166,187,206,230],ids:=true }
def T:jd:=YT.tab
theorem aK:Cz Tryz.prog YT=true:=by kernel_rfl
theorem mixed:Tryz.prog.follows .mixedOrders=true:=by kernel_rfl
def mO (n:Nat) (a0:List Int) (a1:Int):Option (Bool×Unit):=(rounds (fun L1 (v1:(List Int)×Int×Int×Unit)=>(if decide (v1.2.2.1<(v1.1.length:Int))=true then (if aI v1.2.2.1 v1.1.length then (if decide ((v1.1.getD v1.2.2.1.toNat (0:Int))=v1.2.1)=true then some (true,()) else L1 (v1.1,v1.2.1,IntKind.i64.wrap (v1.2.2.1+(1:Int)),())) else none) else some (false,()))) n (a0,a1,(0:Int),()))
def Qv:Entry:=⟨205,[.val (.sl 2 (.int .i64)) [], .val (.int .i64) []],[.val .bool [] []],fun n c=>mO n c.1 c.2.1⟩
def Wi:Hint:=⟨0,[],[(0,[0,1,5],[])],[],[],[],[],[],[]⟩
theorem abm:gT T Wi Tryz.f205 Qv:=by intro n c; kernel_rfl
theorem acu [Fr] (n:Nat):aj Tryz.prog n Qv:=ak mixed aK Tryz.func205 (by kernel_rfl) (hi:=Wi) aD abm
def fQ (n:Nat) (a0:Zt9) (a1:List Int) (a2:Int):Option ((List M6)×Zt9×Unit):=(rounds (fun L1 (v1:(List Int)×Int×Int×Zt9×(List M6)×(List M6)×Unit)=>(if decide (v1.2.2.1<(v1.2.2.2.1.2.2.2.1.length:Int))=true then (if aI v1.2.2.1 v1.2.2.2.1.2.2.2.1.length then ((mO n v1.1 ((v1.2.2.2.1.2.2.2.1.getD v1.2.2.1.toNat M7).1)).bind fun r2=>(if r2.1=true then (if (v1.2.2.2.2.1.length+[v1.2.2.2.1.2.2.2.1.getD v1.2.2.1.toNat M7].length) * 48≤140737488355328 then L1 (v1.1,v1.2.1,IntKind.i64.wrap (v1.2.2.1+(1:Int)),v1.2.2.2.1,v1.2.2.2.2.1++[v1.2.2.2.1.2.2.2.1.getD v1.2.2.1.toNat M7],v1.2.2.2.2.2.1,()) else none) else (if (!decide ((IntKind.i64.wrap ((BitVec.ofInt (IntKind.bits .i64) (((v1.2.2.2.1.2.2.2.1.getD v1.2.2.1.toNat M7).2).1) &&& BitVec.ofInt (IntKind.bits .i64) v1.2.1).toNat))=(0:Int)))=true then (if (v1.2.2.2.2.1.length+[v1.2.2.2.1.2.2.2.1.getD v1.2.2.1.toNat M7].length) * 48≤140737488355328 then L1 (v1.1,v1.2.1,IntKind.i64.wrap (v1.2.2.1+(1:Int)),v1.2.2.2.1,v1.2.2.2.2.1++[v1.2.2.2.1.2.2.2.1.getD v1.2.2.1.toNat M7],v1.2.2.2.2.2.1,()) else none) else (if (v1.2.2.2.2.2.1.length+[v1.2.2.2.1.2.2.2.1.getD v1.2.2.1.toNat M7].length) * 48≤140737488355328 then L1 (v1.1,v1.2.1,IntKind.i64.wrap (v1.2.2.1+(1:Int)),v1.2.2.2.1,v1.2.2.2.2.1,v1.2.2.2.2.2.1++[v1.2.2.2.1.2.2.2.1.getD v1.2.2.1.toNat M7],()) else none)))) else none) else some (v1.2.2.2.2.1,(v1.2.2.2.1.1,v1.2.2.2.1.2.1,v1.2.2.2.1.2.2.1,v1.2.2.2.2.2.1,v1.2.2.2.1.2.2.2.2),()))) n (a1,a2,(0:Int),a0,([]:List M6),([]:List M6),()))
def T9:Entry:=⟨186,[.rw Ht [5,103] [4294967295] [103], .val (.sl 2 (.int .i64)) [], .val (.int .i64) []],[.own (.sl 103 K3) [103] [] []],fun n c=>fQ n c.1 c.2.1 c.2.2.1⟩
def aeH:Hint:=⟨0,[],[(0,[0,1,2,7,8,9],[0,354,386])],[],[(205,some 32,Qv)],[],[],[],[]⟩
theorem aid:gT T aeH Tryz.f186 T9:=by intro n c; kernel_rfl
theorem Zi [Fr] (n:Nat):aj Tryz.prog n T9:=ak mixed aK Tryz.func186 (by kernel_rfl) (hi:=aeH) (aa (acu n) aD) aid
end IdT
def fQ (n:Nat) (a0:List Int×Int×Int×List jZ.Ai×Unit) (a1:List Int) (a2:Int):Option (List jZ.Ai×(List Int×Int×Int×List jZ.Ai×Unit)×Unit):=jJ.BD jJ.pick n a0 a1 a2
def aa7:List dD:=[.rw nL [5,103] [4294967295,5] [103,4294967294], .val (.sl 2 (.int .i64)) [], .val (.int .i64) []]
def ahv:List mY:=[.own (.sl 103 zA) [5,103] [] []]
def T9:Entry:=⟨186,aa7,ahv,fun n (c:Cont (kin aa7))=>fQ n c.1 c.2.1 c.2.2.1⟩
theorem ajk {n:Nat} {nm:List Int} {w h:Int} {xs:List M6} {us:List Int} {fl:Int} (hc:xs.length * 48≤140737488355328) (hn:xs.length<n) (hb:us.length≤1048576) (hu:us.length<n) :
  IdT.fQ n (nm,w,h,xs,()) us fl=some (xs.filter (fun x=>jJ.pick us fl x.1 x.2.1),(nm,w,h,xs.filter (fun x=>!jJ.pick us fl x.1 x.2.1),()),()):=
 jJ.VF (has:=IdT.mO n) (fun _ _=>rfl) (fun x=>jJ.Pn (fun _ _=>rfl) hb hu) hc hn
theorem Zi [Fr] (n:Nat):aj Tryz.prog n T9:=jJ.Sn (p:=jJ.pick) (e:=5) (m:=103) (i:=2) (ow:=[103]) (FI:=fun n c=>IdT.fQ n c.1 c.2.1 c.2.2.1) rfl (fun fr=>IdT.Zi n) (fun _ _ _ _ _ _ hc hn hb hu=>ajk hc hn hb hu)
def sP (n:Nat) (a0:fI) (a1:Int) (a2:iw):Option ((List Int)×Int×fI×Unit):=((rG n a0 a2.2.2.1).bind fun r1=>(if decide (r1.1<(0:Int))=true then some (([]:List Int),(4:Int),a0,()) else (if decide (a2.1=(6:Int))=true then (if decide (r1.1=a1)=true then some (([]:List Int),(9:Int),a0,()) else (if aI a1 a0.2.1.length then ((jl n (a0.2.1.getD a1.toNat dF)).bind fun r2=>((fQ n r2.1 a2.2.2.2.1 (0:Int)).bind fun r3=>(if aI r1.1 a0.2.1.length then (if decide ((IntKind.i64.wrap (((((((a0.2.1.getD r1.1.toNat dF).2).2).2).1).length:Int)+(r3.1.length:Int)))>(6:Int))=true then some (([]:List Int),(10:Int),a0,()) else (if decide ((IntKind.i64.wrap (((((a0.2.1.getD r1.1.toNat dF).2).2).1)+(r3.1.length:Int)))>(1000:Int))=true then some (([]:List Int),(10:Int),a0,()) else (rounds (fun L4 (v4:Int×iw×Int×Int×fI×dQ×(List rA)×(List Int)×Unit)=>(if decide (v4.2.2.2.1<(v4.2.2.2.2.2.2.1.length:Int))=true then (if aI v4.2.2.2.1 v4.2.2.2.2.2.2.1.length then ((mP n (v4.2.2.2.2.1.2.1.getD v4.2.2.1.toNat dF) (v4.2.2.2.2.2.2.1.getD v4.2.2.2.1.toNat kG)).bind fun r5=>(if (v4.2.2.2.2.2.2.2.1.length+[r5.1].length) * 8≤140737488355328 then L4 (v4.1,v4.2.1,v4.2.2.1,IntKind.i64.wrap (v4.2.2.2.1+(1:Int)),(v4.2.2.2.2.1.1,v4.2.2.2.2.1.2.1.set v4.2.2.1.toNat r5.2.1,v4.2.2.2.2.1.2.2),v4.2.2.2.2.2.1,v4.2.2.2.2.2.2.1,v4.2.2.2.2.2.2.2.1++[r5.1],()) else none)) else none) else (if decide (v4.2.1.1=(6:Int))=true then (if aI v4.1 v4.2.2.2.2.1.2.1.length then some (v4.2.2.2.2.2.2.2.1,(0:Int),(v4.2.2.2.2.1.1,v4.2.2.2.2.1.2.1.set v4.1.toNat v4.2.2.2.2.2.1,v4.2.2.2.2.1.2.2),()) else none) else some (v4.2.2.2.2.2.2.2.1,(0:Int),v4.2.2.2.2.1,())))) n (a1,a2,r1.1,(0:Int),a0,r3.2.1,r3.1,([]:List Int),())))) else none))) else none)) else (if aI a1 a0.2.1.length then ((jl n (a0.2.1.getD a1.toNat dF)).bind fun r6=>((fQ n r6.1 a2.2.2.2.1 (0:Int)).bind fun r7=>(if aI r1.1 a0.2.1.length then (if decide ((IntKind.i64.wrap (((((((a0.2.1.getD r1.1.toNat dF).2).2).2).1).length:Int)+(r7.1.length:Int)))>(6:Int))=true then some (([]:List Int),(10:Int),a0,()) else (if decide ((IntKind.i64.wrap (((((a0.2.1.getD r1.1.toNat dF).2).2).1)+(r7.1.length:Int)))>(1000:Int))=true then some (([]:List Int),(10:Int),a0,()) else (rounds (fun L8 (v8:Int×iw×Int×Int×fI×dQ×(List rA)×(List Int)×Unit)=>(if decide (v8.2.2.2.1<(v8.2.2.2.2.2.2.1.length:Int))=true then (if aI v8.2.2.2.1 v8.2.2.2.2.2.2.1.length then ((mP n (v8.2.2.2.2.1.2.1.getD v8.2.2.1.toNat dF) (v8.2.2.2.2.2.2.1.getD v8.2.2.2.1.toNat kG)).bind fun r9=>(if (v8.2.2.2.2.2.2.2.1.length+[r9.1].length) * 8≤140737488355328 then L8 (v8.1,v8.2.1,v8.2.2.1,IntKind.i64.wrap (v8.2.2.2.1+(1:Int)),(v8.2.2.2.2.1.1,v8.2.2.2.2.1.2.1.set v8.2.2.1.toNat r9.2.1,v8.2.2.2.2.1.2.2),v8.2.2.2.2.2.1,v8.2.2.2.2.2.2.1,v8.2.2.2.2.2.2.2.1++[r9.1],()) else none)) else none) else (if decide (v8.2.1.1=(6:Int))=true then (if aI v8.1 v8.2.2.2.2.1.2.1.length then some (v8.2.2.2.2.2.2.2.1,(0:Int),(v8.2.2.2.2.1.1,v8.2.2.2.2.1.2.1.set v8.1.toNat v8.2.2.2.2.2.1,v8.2.2.2.2.1.2.2),()) else none) else some (v8.2.2.2.2.2.2.2.1,(0:Int),v8.2.2.2.2.1,())))) n (a1,a2,r1.1,(0:Int),a0,r7.2.1,r7.1,([]:List Int),())))) else none))) else none))))
def abC:Entry:=⟨187,[.rw qy [5,100,103] [5,100,103,4294967295] [5,103], .val (.int .i64) [], .ro iG],[.own (.sl 2 (.int .i64)) [2] [] [], .val (.int .i64) [] []],fun n c=>sP n c.1 c.2.1 c.2.2.1⟩
def aeI:Hint:=⟨0,[48,94,96],[(0,[0,1,2,9,10,11,12,13],[0,290,1410,2242])],[],[(183,some 19,VY),(93,some 39,Y7),(186,some 44,T9),(184,some 83,Y8)],[],[],[],[]⟩
theorem aie:gT T aeI Tryz.f187 abC:=by intro n c; kernel_rfl
theorem ajz [Fr] (n:Nat):aj Tryz.prog n abC:=ak mixed aK Tryz.func187 (by kernel_rfl) (hi:=aeI) (aa (acs n) (aa (afW n) (aa (Zi n) (aa (afX n) aD)))) aie
def sO (n:Nat) (a0:fI) (a1:iw):Option (FV×Unit):=(if decide (a1.1=(1:Int))=true then ((uZ n a0 a1).bind fun r1=>some (r1.1,())) else ((rG n a0 a1.2.1).bind fun r2=>(if decide (r2.1<(0:Int))=true then ((dU n (4:Int)).bind fun r3=>some (r3.1,())) else ((ku n a0).bind fun r4=>(if aI r2.1 r4.1.2.1.length then (if decide (a1.1=(2:Int))=true then (if 0≤r2.1∧r2.1≤(r4.1.2.1.length:Int) then (if (([]:List dQ).length+(r4.1.2.1.take r2.1.toNat).length) * 56≤140737488355328 then (if 0≤(IntKind.i64.wrap (r2.1+(1:Int)))∧(IntKind.i64.wrap (r2.1+(1:Int)))≤(r4.1.2.1.length:Int) then (if ((([]:List dQ)++(r4.1.2.1.take r2.1.toNat)).length+(r4.1.2.1.drop (IntKind.i64.wrap (r2.1+(1:Int))).toNat).length) * 56≤140737488355328 then some (((0:Int),([]:List Int),(r4.1.1,(([]:List dQ)++(r4.1.2.1.take r2.1.toNat))++(r4.1.2.1.drop (IntKind.i64.wrap (r2.1+(1:Int))).toNat),r4.1.2.2),()),()) else none) else none) else none) else none) else (if decide (a1.1=(3:Int))=true then (if decide (((((((r4.1.2.1.getD r2.1.toNat dF).2).2).2).1).length:Int)≥(6:Int))=true then ((dU n (10:Int)).bind fun r5=>some (r5.1,())) else (if decide (((((r4.1.2.1.getD r2.1.toNat dF).2).2).1)≥(1000:Int))=true then ((dU n (10:Int)).bind fun r6=>some (r6.1,())) else ((mP n (r4.1.2.1.getD r2.1.toNat dF) ((0:Int),a1.2.2.2.2.2.1,a1.2.2.2.2.2.2.1,a1.2.2.2.2.2.2.2.1,())).bind fun r7=>some (((0:Int),[r7.1],(r4.1.1,r4.1.2.1.set r2.1.toNat r7.2.1,r4.1.2.2),()),())))) else (if decide (a1.1=(4:Int))=true then ((uX n (r4.1.2.1.getD r2.1.toNat dF) a1).bind fun r8=>some (((0:Int),r8.1,(r4.1.1,r4.1.2.1.set r2.1.toNat r8.2.1,r4.1.2.2),()),())) else (if decide (a1.1=(7:Int))=true then ((fQ n (r4.1.2.1.getD r2.1.toNat dF) ([]:List Int) (8:Int)).bind fun r9=>(rounds (fun L10 (v10:Int×FV×FV×(List rA)×Unit)=>(if decide (v10.1<(v10.2.2.2.1.length:Int))=true then (if aI v10.1 v10.2.2.2.1.length then (if (v10.2.2.1.2.1.length+[(v10.2.2.2.1.getD v10.1.toNat kG).1].length) * 8≤140737488355328 then L10 (IntKind.i64.wrap (v10.1+(1:Int)),v10.2.1,(v10.2.2.1.1,v10.2.2.1.2.1++[(v10.2.2.2.1.getD v10.1.toNat kG).1],v10.2.2.1.2.2),v10.2.2.2.1,()) else none) else none) else some (v10.2.2.1,()))) n ((0:Int),acJ,((0:Int),([]:List Int),(r4.1.1,r4.1.2.1.set r2.1.toNat r9.2.1,r4.1.2.2),()),r9.1,()))) else ((sP n r4.1 r2.1 a1).bind fun Ir=>(if (!decide (Ir.2.1=(0:Int)))=true then ((dU n Ir.2.1).bind fun Km=>some (Km.1,())) else some (((0:Int),Ir.1,Ir.2.2.1,()),()))))))) else none)))))
def abD:Entry:=⟨155,[.val qy [], .ro iG],[.val M4 [] []],fun n c=>sO n c.1 c.2.1⟩
def aeJ:Hint:=⟨0,[34,123,132],[(1,[4,6,9,10],[130,194,3682])],[],[(182,some 20,abz),(183,some 25,VY),(153,some 28,Hg),(61,some 30,TZ),(153,some 88,Hg),(184,some 103,Y8),(185,some 110,abB),(186,some 115,T9),(187,some 45,abC),(153,some 51,Hg)],[],[],[],[]⟩
theorem aif:gT T aeJ Tryz.f155 abD:=by intro n c; kernel_rfl
theorem ajA [Fr] (n:Nat):aj Tryz.prog n abD:=ak mixed aK Tryz.func155 (by kernel_rfl) (hi:=aeJ) (aa (ajw n) (aa (acs n) (aa (KU n) (aa (Zh n) (aa (KU n) (aa (afX n) (aa (ajy n) (aa (Zi n) (aa (ajz n) (aa (KU n) aD)))))))))) aif
def sN (n:Nat) (a0:fI) (a1:iw):Option (FV×Unit):=((jA n a0).bind fun r1=>(if (!decide (r1.1=(0:Int)))=true then ((dU n r1.1).bind fun r2=>some (r2.1,())) else ((o8 n a1).bind fun r3=>(if (!decide (r3.1=(0:Int)))=true then ((dU n r3.1).bind fun r4=>some (r4.1,())) else ((sO n a0 a1).bind fun r5=>some (r5.1,()))))))
def abE:Entry:=⟨112,[.val qy [], .val iG []],[.val M4 [] []],fun n c=>sN n c.1 c.2.1⟩
def aeK:Hint:=⟨0,[],[],[],[(114,some 7,E_4),(153,some 11,Hg),(154,some 12,Y5),(153,some 16,Hg),(155,some 18,abD)],[],[],[],[]⟩
theorem aih:gT T aeK Tryz.f112 abE:=by intro n c; kernel_rfl
theorem ajB [Fr] (n:Nat):aj Tryz.prog n abE:=ak mixed aK Tryz.func112 (by kernel_rfl) (hi:=aeK) (aa (K_4 n) (aa (KU n) (aa (afU n) (aa (KU n) (aa (ajA n) aD))))) aih
def nK (n:Nat) (a0:fI) (a1:List iw):Option (FV×Unit):=(if decide ((a1.length:Int)>(60:Int))=true then ((dU n (2:Int)).bind fun r1=>some (r1.1,())) else ((jA n a0).bind fun r2=>(if (!decide (r2.1=(0:Int)))=true then ((dU n r2.1).bind fun r3=>some (r3.1,())) else ((ku n a0).bind fun r4=>(rounds (fun L5 (v5:(List iw)×Int×FV×FV×Unit)=>(if decide (v5.2.1<(v5.1.length:Int))=true then (if aI v5.2.1 v5.1.length then ((sN n v5.2.2.2.1.2.2.1 (v5.1.getD v5.2.1.toNat Ey)).bind fun r6=>(if (!decide (r6.1.1=(0:Int)))=true then ((dU n r6.1.1).bind fun r7=>some (r7.1,())) else L5 (v5.1,IntKind.i64.wrap (v5.2.1+(1:Int)),v5.2.2.1,(v5.2.2.2.1.1,v5.2.2.2.1.2.1,r6.1.2.2.1,v5.2.2.2.1.2.2.2),()))) else none) else some (v5.2.2.2.1,()))) n (a1,(0:Int),acJ,((0:Int),([]:List Int),r4.1,()),()))))))
def abF:Entry:=⟨115,[.val qy [], .val (.sl 48 iG) []],[.val M4 [] []],fun n c=>nK n c.1 c.2.1⟩
def aeL:Hint:=⟨0,[43],[(0,[1,4,6,7],[130,194])],[(1000194,[5,100,103])],[(153,some 12,Hg),(114,some 13,E_4),(153,some 17,Hg),(61,some 19,TZ),(112,some 33,abE),(153,some 39,Hg)],[],[],[],[]⟩
theorem aii:gT T aeL Tryz.f115 abF:=by intro n c; kernel_rfl
theorem ajC [Fr] (n:Nat):aj Tryz.prog n abF:=ak mixed aK Tryz.func115 (by kernel_rfl) (hi:=aeL) (aa (KU n) (aa (K_4 n) (aa (KU n) (aa (Zh n) (aa (ajB n) (aa (KU n) aD)))))) aii
def jY (n:Nat) (a0:rA) (a1:rA):Option (Bool×Unit):=(if decide (a0.1=a1.1)=true then (if decide (a0.2.1=a1.2.1)=true then (if decide (a0.2.2.1=a1.2.2.1)=true then some (decide (a0.2.2.2.1=a1.2.2.2.1),()) else some (false,())) else some (false,())) else some (false,()))
def abG:Entry:=⟨190,[.ro zA, .ro zA],[.val .bool [] []],fun n c=>jY n c.1 c.2.1⟩
def aeM:Hint:=⟨0,[],[],[],[],[],[],[],[]⟩
theorem aij:gT T aeM Tryz.f190 abG:=by intro n c; kernel_rfl
theorem ajD [Fr] (n:Nat):aj Tryz.prog n abG:=ak mixed aK Tryz.func190 (by kernel_rfl) (hi:=aeM) aD aij
def pX (n:Nat) (a0:dQ) (a1:dQ):Option (Bool×Unit):=(if (!decide (a0.1=a1.1))=true then some (false,()) else (if (!decide (a0.2.1=a1.2.1))=true then some (false,()) else (if (!decide (a0.2.2.1=a1.2.2.1))=true then some (false,()) else (if (!decide ((a0.2.2.2.1.length:Int)=(a1.2.2.2.1.length:Int)))=true then some (false,()) else (rounds (fun L1 (v1:dQ×dQ×Int×Unit)=>(if decide (v1.2.2.1<(v1.1.2.2.2.1.length:Int))=true then (if aI v1.2.2.1 v1.1.2.2.2.1.length then (if aI v1.2.2.1 v1.2.1.2.2.2.1.length then ((jY n (v1.1.2.2.2.1.getD v1.2.2.1.toNat kG) (v1.2.1.2.2.2.1.getD v1.2.2.1.toNat kG)).bind fun r2=>(if (!r2.1)=true then some (false,()) else L1 (v1.1,v1.2.1,IntKind.i64.wrap (v1.2.2.1+(1:Int)),()))) else none) else none) else some (true,()))) n (a0,a1,(0:Int),()))))))
def abH:Entry:=⟨158,[.ro nL, .ro nL],[.val .bool [] []],fun n c=>pX n c.1 c.2.1⟩
def aeN:Hint:=⟨0,[],[(0,[0,1,5],[])],[],[(190,some 71,abG)],[],[],[],[]⟩
theorem aik:gT T aeN Tryz.f158 abH:=by intro n c; kernel_rfl
theorem ajE [Fr] (n:Nat):aj Tryz.prog n abH:=ak mixed aK Tryz.func158 (by kernel_rfl) (hi:=aeN) (aa (ajD n) aD) aik
def uW (n:Nat) (a0:fI) (a1:fI):Option (Bool×Unit):=(if (!decide (a0.1=a1.1))=true then some (false,()) else (if (!decide ((a0.2.1.length:Int)=(a1.2.1.length:Int)))=true then some (false,()) else (rounds (fun L1 (v1:fI×fI×Int×Unit)=>(if decide (v1.2.2.1<(v1.1.2.1.length:Int))=true then (if aI v1.2.2.1 v1.1.2.1.length then (if aI v1.2.2.1 v1.2.1.2.1.length then ((pX n (v1.1.2.1.getD v1.2.2.1.toNat dF) (v1.2.1.2.1.getD v1.2.2.1.toNat dF)).bind fun r2=>(if (!r2.1)=true then some (false,()) else L1 (v1.1,v1.2.1,IntKind.i64.wrap (v1.2.2.1+(1:Int)),()))) else none) else none) else some (true,()))) n (a0,a1,(0:Int),()))))
def abI:Entry:=⟨117,[.ro qy, .ro qy],[.val .bool [] []],fun n c=>uW n c.1 c.2.1⟩
def aeO:Hint:=⟨0,[],[(0,[0,1,5],[])],[],[(158,some 49,abH)],[],[],[],[]⟩
theorem ail:gT T aeO Tryz.f117 abI:=by intro n c; kernel_rfl
theorem ajF [Fr] (n:Nat):aj Tryz.prog n abI:=ak mixed aK Tryz.func117 (by kernel_rfl) (hi:=aeO) (aa (ajE n) aD) ail
def qO (n:Nat) (a0:vV):Option (Int×Unit):=(if decide ((IntKind.i64.wrap ((a0.2.1.length:Int)+(a0.2.2.1.length:Int)))>(8000:Int))=true then some ((2:Int),()) else (if (!a0.1)=true then (if decide ((a0.2.2.1.length:Int)>(0:Int))=true then some ((1:Int),()) else (if (!decide (a0.2.2.2.1.1=(0:Int)))=true then some ((1:Int),()) else (if decide ((a0.2.2.2.1.2.1.length:Int)>(0:Int))=true then some ((1:Int),()) else some ((0:Int),())))) else ((jA n a0.2.2.2.1).bind fun r1=>(if (!decide (r1.1=(0:Int)))=true then some (r1.1,()) else ((uV n a0).bind fun r2=>(if (!r2.2.1)=true then some ((5:Int),()) else ((vT n).bind fun r3=>((nK n r3.1 r2.1).bind fun r4=>(if (!decide (r4.1.1=(0:Int)))=true then some ((9:Int),()) else ((uW n r4.1.2.2.1 a0.2.2.2.1).bind fun r5=>(if (!r5.1)=true then some ((9:Int),()) else some ((0:Int),()))))))))))))
def abJ:Entry:=⟨85,[.ro xX],[.val (.int .i64) [] []],fun n c=>qO n c.1⟩
def aeP:Hint:=⟨0,[],[],[],[(114,some 50,E_4),(60,some 56,abw),(116,some 61,abx),(115,some 63,abF),(117,some 72,abI)],[],[],[],[]⟩
theorem aim:gT T aeP Tryz.f85 abJ:=by intro n c; kernel_rfl
theorem ajH [Fr] (n:Nat):aj Tryz.prog n abJ:=ak mixed aK Tryz.func85 (by kernel_rfl) (hi:=aeP) (aa (K_4 n) (aa (ajt n) (aa (aju n) (aa (ajC n) (aa (ajF n) aD))))) aim
def wF (n:Nat) (a0:vV):Option (Int×Unit):=((qO n a0).bind fun r1=>(if (!decide (r1.1=(0:Int)))=true then some (r1.1,()) else (if (!a0.1)=true then some ((9:Int),()) else some ((0:Int),()))))
def abK:Entry:=⟨42,[.ro xX],[.val (.int .i64) [] []],fun n c=>wF n c.1⟩
def aeQ:Hint:=⟨0,[],[],[],[(85,some 5,abJ)],[],[],[],[]⟩
theorem ain:gT T aeQ Tryz.f42 abK:=by intro n c; kernel_rfl
theorem ajI [Fr] (n:Nat):aj Tryz.prog n abK:=ak mixed aK Tryz.func42 (by kernel_rfl) (hi:=aeQ) (aa (ajH n) aD) ain
def yT (n:Nat) (a0:Int):Option (OJ×Unit):=some ((a0,([]:List Int),agf,()),())
def abL:Entry:=⟨43,[.val (.int .i64) []],[.own M5 [2,5,100,103] [] []],fun n c=>yT n c.1⟩
def aeR:Hint:=⟨0,[],[],[],[],[],[],[],[]⟩
theorem aio:gT T aeR Tryz.f43 abL:=by intro n c; kernel_rfl
theorem ajJ [Fr] (n:Nat):aj Tryz.prog n abL:=ak mixed aK Tryz.func43 (by kernel_rfl) (hi:=aeR) aD aio
def xh (n:Nat) (a0:vV):Option (vV×Unit):=((kr n a0.2.1).bind fun r1=>((kr n a0.2.2.1).bind fun r2=>((ku n a0.2.2.2.1).bind fun r3=>some ((a0.1,r1.1,r2.1,r3.1,()),()))))
def abM:Entry:=⟨99,[.val xX []],[.own xX [5,100,103] [] []],fun n c=>xh n c.1⟩
def aeS:Hint:=⟨0,[],[],[],[(45,some 7,TY),(45,some 10,TY),(61,some 13,TZ)],[],[],[],[]⟩
theorem aip:gT T aeS Tryz.f99 abM:=by intro n c; kernel_rfl
theorem ajK [Fr] (n:Nat):aj Tryz.prog n abM:=ak mixed aK Tryz.func99 (by kernel_rfl) (hi:=aeS) (aa (Zg n) (aa (Zg n) (aa (Zh n) aD))) aip
def qP (n:Nat) (a0:vV):Option (vV×Unit):=((xh n a0).bind fun r1=>(if (r1.1.2.1.length+r1.1.2.2.1.length) * 1≤140737488355328 then some ((r1.1.1,r1.1.2.1++r1.1.2.2.1,([]:List Int),r1.1.2.2.2),()) else none))
def abN:Entry:=⟨68,[.val xX []],[.own xX [5,100,103] [] []],fun n c=>qP n c.1⟩
def aeT:Hint:=⟨0,[7,13],[],[],[(99,some 5,abM)],[],[],[],[]⟩
theorem aiq:gT T aeT Tryz.f68 abN:=by intro n c; kernel_rfl
theorem ajL [Fr] (n:Nat):aj Tryz.prog n abN:=ak mixed aK Tryz.func68 (by kernel_rfl) (hi:=aeT) (aa (ajK n) aD) aiq
def og (n:Nat) (a0:vV):Option (OJ×Unit):=((wF n a0).bind fun r1=>(if (!decide (r1.1=(0:Int)))=true then ((yT n r1.1).bind fun r2=>some (r2.1,())) else ((qP n a0).bind fun r3=>some (((0:Int),([]:List Int),r3.1,()),()))))
def abO:Entry:=⟨20,[.val xX []],[.own M5 [2,5,100,103] [] []],fun n c=>og n c.1⟩
def aeU:Hint:=⟨0,[],[],[],[(42,some 4,abK),(43,some 8,abL),(68,some 10,abN)],[],[],[],[]⟩
theorem air:gT T aeU Tryz.f20 abO:=by intro n c; kernel_rfl
theorem ajM [Fr] (n:Nat):aj Tryz.prog n abO:=ak mixed aK Tryz.func20 (by kernel_rfl) (hi:=aeU) (aa (ajI n) (aa (ajJ n) (aa (ajL n) aD))) air
def fq (n:Nat) (a0:Int) (a1:Int) (a2:Int):Option (Bool×Unit):=(if decide (a0≥a1)=true then some (decide (a0≤a2),()) else some (false,()))
def KT:Entry:=⟨49,[.val (.int .i64) [], .val (.int .i64) [], .val (.int .i64) []],[.val .bool [] []],fun n c=>fq n c.1 c.2.1 c.2.2.1⟩
def aeV:Hint:=⟨0,[],[],[],[],[],[],[],[]⟩
theorem ais:gT T aeV Tryz.f49 KT:=by intro n c; kernel_rfl
theorem Oz [Fr] (n:Nat):aj Tryz.prog n KT:=ak mixed aK Tryz.func49 (by kernel_rfl) (hi:=aeV) aD ais
def mJ (n:Nat) (a0:List Int) (a1:Int):Option (Bool×Unit):=(rounds (fun L1 (v1:(List Int)×Int×Int×Int×Unit)=>(if decide (v1.2.2.2.1<v1.2.2.1)=true then (if aI v1.2.2.2.1 v1.1.length then (if decide ((v1.1.getD v1.2.2.2.1.toNat 0)<(97:Int))=true then some (false,()) else (if aI v1.2.2.2.1 v1.1.length then (if decide ((v1.1.getD v1.2.2.2.1.toNat 0)>(122:Int))=true then some (false,()) else L1 (v1.1,v1.2.1,v1.2.2.1,IntKind.i64.wrap (v1.2.2.2.1+(1:Int)),())) else none)) else none) else (if decide ((v1.1.length:Int)≥(1:Int))=true then some (decide ((v1.1.length:Int)≤v1.2.1),()) else some (false,())))) n (a0,a1,(a0.length:Int),(0:Int),()))
def abP:Entry:=⟨171,[.val .str [], .val (.int .i64) []],[.val .bool [] []],fun n c=>mJ n c.1 c.2.1⟩
def aeW:Hint:=⟨0,[],[(0,[0,1,7,8],[])],[],[],[],[],[],[]⟩
theorem ait:gT T aeW Tryz.f171 abP:=by intro n c; kernel_rfl
theorem ajN [Fr] (n:Nat):aj Tryz.prog n abP:=ak mixed aK Tryz.func171 (by kernel_rfl) (hi:=aeW) aD ait
def nP (n:Nat) (a0:List Int):Option (Bool×Unit):=((mJ n a0 (8:Int)).bind fun r1=>some (r1.1,()))
def VZ:Entry:=⟨134,[.val .str []],[.val .bool [] []],fun n c=>nP n c.1⟩
def aeX:Hint:=⟨0,[],[],[],[(171,some 4,abP)],[],[],[],[]⟩
theorem aiu:gT T aeX Tryz.f134 VZ:=by intro n c; kernel_rfl
theorem acv [Fr] (n:Nat):aj Tryz.prog n VZ:=ak mixed aK Tryz.func134 (by kernel_rfl) (hi:=aeX) (aa (ajN n) aD) aiu
def pV (n:Nat) (a0:Int):Option (Bool×Unit):=((fq n a0 (1:Int) (999:Int)).bind fun r1=>some (r1.1,()))
def Y9:Entry:=⟨172,[.val (.int .i64) []],[.val .bool [] []],fun n c=>pV n c.1⟩
def aeY:Hint:=⟨0,[],[],[],[(49,some 4,KT)],[],[],[],[]⟩
theorem aiv:gT T aeY Tryz.f172 Y9:=by intro n c; kernel_rfl
theorem afY [Fr] (n:Nat):aj Tryz.prog n Y9:=ak mixed aK Tryz.func172 (by kernel_rfl) (hi:=aeY) (aa (Oz n) aD) aiv
def fB (n:Nat) (a0:Int):Option (Bool×Unit):=((fq n a0 (0:Int) (15:Int)).bind fun r1=>some (r1.1,()))
def Za:Entry:=⟨140,[.val (.int .i64) []],[.val .bool [] []],fun n c=>fB n c.1⟩
def aeZ:Hint:=⟨0,[],[],[],[(49,some 4,KT)],[],[],[],[]⟩
theorem aiw:gT T aeZ Tryz.f140 Za:=by intro n c; kernel_rfl
theorem afZ [Fr] (n:Nat):aj Tryz.prog n Za:=ak mixed aK Tryz.func140 (by kernel_rfl) (hi:=aeZ) (aa (Oz n) aD) aiw
def gU (n:Nat) (a0:Int):Option (Bool×Unit):=((fq n a0 (0:Int) (9999:Int)).bind fun r1=>some (r1.1,()))
def Zb:Entry:=⟨141,[.val (.int .i64) []],[.val .bool [] []],fun n c=>gU n c.1⟩
def ae0:Hint:=⟨0,[],[],[],[(49,some 4,KT)],[],[],[],[]⟩
theorem aix:gT T ae0 Tryz.f141 Zb:=by intro n c; kernel_rfl
theorem af0 [Fr] (n:Nat):aj Tryz.prog n Zb:=ak mixed aK Tryz.func141 (by kernel_rfl) (hi:=ae0) (aa (Oz n) aD) aix
def iP (n:Nat) (a0:rA):Option (Int×Unit):=((pV n a0.1).bind fun r1=>(if (!r1.1)=true then some ((3:Int),()) else ((fB n a0.2.1).bind fun r2=>(if (!r2.1)=true then some ((3:Int),()) else ((gU n a0.2.2.1).bind fun r3=>(if (!r3.1)=true then some ((3:Int),()) else (if decide ((a0.2.2.2.1.length:Int)>(400:Int))=true then some ((2:Int),()) else some ((0:Int),()))))))))
def abQ:Entry:=⟨135,[.val zA []],[.val (.int .i64) [] []],fun n c=>iP n c.1⟩
def ae1:Hint:=⟨0,[],[],[],[(172,some 6,Y9),(140,some 11,Za),(141,some 17,Zb)],[],[],[],[]⟩
theorem aiy:gT T ae1 Tryz.f135 abQ:=by intro n c; kernel_rfl
theorem ajO [Fr] (n:Nat):aj Tryz.prog n abQ:=ak mixed aK Tryz.func135 (by kernel_rfl) (hi:=ae1) (aa (afY n) (aa (afZ n) (aa (af0 n) aD))) aiy
def nH (n:Nat) (a0:dQ):Option (Int×Unit):=((nP n a0.1).bind fun r1=>(if (!r1.1)=true then some ((5:Int),()) else ((fq n a0.2.1 (1:Int) (999:Int)).bind fun r2=>(if (!r2.1)=true then some ((3:Int),()) else ((fq n a0.2.2.1 (1:Int) (1000:Int)).bind fun r3=>(if (!r3.1)=true then some ((3:Int),()) else (if decide ((a0.2.2.2.1.length:Int)>(6:Int))=true then some ((2:Int),()) else (rounds (fun L4 (v4:Int×(List rA)×Int×Int×dQ×Unit)=>(if decide (v4.2.2.2.1<v4.2.2.1)=true then (if aI v4.2.2.2.1 v4.2.1.length then ((iP n (v4.2.1.getD v4.2.2.2.1.toNat kG)).bind fun r5=>(if (!decide (r5.1=(0:Int)))=true then some (r5.1,()) else (if decide (((v4.2.1.getD v4.2.2.2.1.toNat kG).1)≤v4.1)=true then some ((1:Int),()) else (if decide (((v4.2.1.getD v4.2.2.2.1.toNat kG).1)≥v4.2.2.2.2.1.2.2.1)=true then some ((1:Int),()) else L4 ((v4.2.1.getD v4.2.2.2.1.toNat kG).1,v4.2.1,v4.2.2.1,IntKind.i64.wrap (v4.2.2.2.1+(1:Int)),v4.2.2.2.2.1,()))))) else none) else some ((0:Int),()))) n ((0:Int),a0.2.2.2.1,(a0.2.2.2.1.length:Int),(0:Int),a0,())))))))))
def abR:Entry:=⟨105,[.val nL []],[.val (.int .i64) [] []],fun n c=>nH n c.1⟩
def ae2:Hint:=⟨0,[],[(1,[1,3,29,30,31],[34])],[],[(134,some 10,VZ),(49,some 15,KT),(49,some 20,KT),(135,some 36,abQ)],[],[],[],[]⟩
theorem aiz:gT T ae2 Tryz.f105 abR:=by intro n c; kernel_rfl
theorem ajP [Fr] (n:Nat):aj Tryz.prog n abR:=ak mixed aK Tryz.func105 (by kernel_rfl) (hi:=ae2) (aa (acv n) (aa (Oz n) (aa (Oz n) (aa (ajO n) aD)))) aiz
def kJ (n:Nat) (a0:dQ) (a1:dQ):Option (Bool×Unit):=(if decide (a0.1=a1.1)=true then some (true,()) else some (decide (a0.2.1=a1.2.1),()))
def abS:Entry:=⟨107,[.val nL [], .ro nL],[.val .bool [] []],fun n c=>kJ n c.1 c.2.1⟩
def ae3:Hint:=⟨0,[],[],[],[],[],[],[],[]⟩
theorem aiA:gT T ae3 Tryz.f107 abS:=by intro n c; kernel_rfl
theorem ajQ [Fr] (n:Nat):aj Tryz.prog n abS:=ak mixed aK Tryz.func107 (by kernel_rfl) (hi:=ae3) aD aiA
def aY (n:Nat) (a0:List dQ) (Hu:dQ):Option (Int×Unit):=(rounds (fun L1 (v1:(List dQ)×dQ×Int×Int×Unit)=>(if decide (v1.2.2.2.1<v1.2.2.1)=true then (if aI v1.2.2.2.1 v1.1.length then ((kJ n (v1.1.getD v1.2.2.2.1.toNat dF) v1.2.1).bind fun r2=>(if r2.1=true then some (v1.2.2.2.1,()) else L1 (v1.1,v1.2.1,v1.2.2.1,IntKind.i64.wrap (v1.2.2.2.1+(1:Int)),()))) else none) else some ((-1:Int),()))) n (a0,Hu,(a0.length:Int),(0:Int),()))
def abT:Entry:=⟨136,[.val (.sl 100 nL) [], .fn 107 [nL]],[.val (.int .i64) [] []],fun n c=>aY n c.1 c.2.1⟩
def ae4:Hint:=⟨0,[],[(0,[0,1,7,8],[])],[],[(107,some 16,abS)],[],[],[],[]⟩
theorem aiB:gT T ae4 Tryz.f136 abT:=by intro n c; kernel_rfl
theorem ajR [Fr] (n:Nat):aj Tryz.prog n abT:=ak mixed aK Tryz.func136 (by kernel_rfl) (hi:=ae4) (aa (ajQ n) aD) aiB
def bB (n:Nat) (a0:List dQ) (Hu:dQ):Option (Bool×Unit):=((aY n a0 Hu).bind fun r1=>some (decide (r1.1≥(0:Int)),()))
def abU:Entry:=⟨106,[.val (.sl 100 nL) [], .fn 107 [nL]],[.val .bool [] []],fun n c=>bB n c.1 c.2.1⟩
def ae5:Hint:=⟨0,[],[],[],[(136,some 7,abT)],[],[],[],[]⟩
theorem aiC:gT T ae5 Tryz.f106 abU:=by intro n c; kernel_rfl
theorem ajS [Fr] (n:Nat):aj Tryz.prog n abU:=ak mixed aK Tryz.func106 (by kernel_rfl) (hi:=ae5) (aa (ajR n) aD) aiC
def iB (n:Nat) (a0:fI):Option (Int×Unit):=((fq n a0.1 (1:Int) (1000:Int)).bind fun r1=>(if (!r1.1)=true then some ((3:Int),()) else (if decide ((a0.2.1.length:Int)>(3:Int))=true then some ((2:Int),()) else (rounds (fun L2 (v2:(List dQ)×Int×Int×fI×Unit)=>(if decide (v2.2.2.1<v2.2.1)=true then (if aI v2.2.2.1 v2.1.length then ((nH n (v2.1.getD v2.2.2.1.toNat dF)).bind fun r3=>(if (!decide (r3.1=(0:Int)))=true then some (r3.1,()) else (if decide ((((v2.1.getD v2.2.2.1.toNat dF).2).1)≥v2.2.2.2.1.1)=true then some ((9:Int),()) else (if 0≤v2.2.2.1∧v2.2.2.1≤(v2.2.2.2.1.2.1.length:Int) then ((bB n (v2.2.2.2.1.2.1.take v2.2.2.1.toNat) (v2.1.getD v2.2.2.1.toNat dF)).bind fun r4=>(if r4.1=true then some ((6:Int),()) else L2 (v2.1,v2.2.1,IntKind.i64.wrap (v2.2.2.1+(1:Int)),v2.2.2.2.1,()))) else none)))) else none) else some ((0:Int),()))) n (a0.2.1,(a0.2.1.length:Int),(0:Int),a0,())))))
def Zc:Entry:=⟨73,[.val qy []],[.val (.int .i64) [] []],fun n c=>iB n c.1⟩
def ae6:Hint:=⟨0,[],[(1,[1,17,18,19],[34])],[],[(49,some 9,KT),(105,some 25,abR),(106,some 41,abU)],[],[],[],[]⟩
theorem aiD:gT T ae6 Tryz.f73 Zc:=by intro n c; kernel_rfl
theorem af1 [Fr] (n:Nat):aj Tryz.prog n Zc:=ak mixed aK Tryz.func73 (by kernel_rfl) (hi:=ae6) (aa (Oz n) (aa (ajP n) (aa (ajS n) aD))) aiD
def cB (n:Nat) (a0:List Int):Option (Int×Unit):=some ((a0.length:Int),())
def Ot:Entry:=⟨50,[.val (.sl 5 (.int .u8)) []],[.val (.int .i64) [] []],fun n c=>cB n c.1⟩
def ae7:Hint:=⟨0,[],[],[],[],[],[],[],[]⟩
theorem aiE:gT T ae7 Tryz.f50 Ot:=by intro n c; kernel_rfl
theorem Uc [Fr] (n:Nat):aj Tryz.prog n Ot:=ak mixed aK Tryz.func50 (by kernel_rfl) (hi:=ae7) aD aiE
def eX (n:Nat) (a0:Zt1) (a1:Int):Option ((List Int)×Zt1×Unit):=(if a0.2.1=true then (if a1=a1∧0≤a1∧a1 * 1≤140737488355328 then some (List.replicate a1.toNat (0:Int),(a0.1,true,a0.2.2),()) else none) else ((cB n a0.1).bind fun r1=>(if decide (a1>r1.1)=true then (if a1=a1∧0≤a1∧a1 * 1≤140737488355328 then some (List.replicate a1.toNat (0:Int),(a0.1,true,a0.2.2),()) else none) else (if 0≤a1∧a1≤(a0.1.length:Int) then (if 0≤a1∧a1≤(a0.1.length:Int) then some (a0.1.take a1.toNat,(a0.1.drop a1.toNat,a0.2),()) else none) else none))))
def Qw:Entry:=⟨151,[.rw Uh [] [4294967295] [5], .val (.int .i64) []],[.val (.sl 5 (.int .u8)) [0] []],fun n c=>eX n c.1 c.2.1⟩
def ae8:Hint:=⟨0,[],[],[],[(50,some 16,Ot)],[],[],[],[]⟩
theorem aiF:gT T ae8 Tryz.f151 Qw:=by intro n c; kernel_rfl
theorem Wo [Fr] (n:Nat):aj Tryz.prog n Qw:=ak mixed aK Tryz.func151 (by kernel_rfl) (hi:=ae8) (aa (Uc n) aD) aiF
def gK (n:Nat) (a0:Zt1):Option (Int×Zt1×Unit):=((eX n a0 (2:Int)).bind fun r1=>(if aI (0:Int) r1.1.length then (if aI (1:Int) r1.1.length then some (IntKind.i64.wrap ((IntKind.i64.wrap ((IntKind.i64.wrap (r1.1.getD (0:Int).toNat (0:Int))) * (256:Int)))+(IntKind.i64.wrap (r1.1.getD (1:Int).toNat (0:Int)))),r1.2.1,()) else none) else none))
def Ua:Entry:=⟨149,[.rw Uh [] [4294967295] [5]],[.val (.int .i64) [] []],fun n c=>gK n c.1⟩
def ae9:Hint:=⟨0,[],[],[],[(151,some 5,Qw)],[],[],[],[]⟩
theorem aiG:gT T ae9 Tryz.f149 Ua:=by intro n c; kernel_rfl
theorem Zk [Fr] (n:Nat):aj Tryz.prog n Ua:=ak mixed aK Tryz.func149 (by kernel_rfl) (hi:=ae9) (aa (Wo n) aD) aiG
def eT (n:Nat) (a0:Zt1):Option (Int×Zt1×Unit):=((eX n a0 (1:Int)).bind fun r1=>(if aI (0:Int) r1.1.length then some (IntKind.i64.wrap (r1.1.getD (0:Int).toNat (0:Int)),r1.2.1,()) else none))
def Ou:Entry:=⟨150,[.rw Uh [] [4294967295] [5]],[.val (.int .i64) [] []],fun n c=>eT n c.1⟩
def afa:Hint:=⟨0,[],[],[],[(151,some 4,Qw)],[],[],[],[]⟩
theorem aiH:gT T afa Tryz.f150 Ou:=by intro n c; kernel_rfl
theorem Ud [Fr] (n:Nat):aj Tryz.prog n Ou:=ak mixed aK Tryz.func150 (by kernel_rfl) (hi:=afa) (aa (Wo n) aD) aiH
def nI (n:Nat) (a0:iw):Option (Bool×Unit):=(if decide (a0.1=(5:Int))=true then some (true,()) else some (decide (a0.1=(6:Int)),()))
def V4:Entry:=⟨138,[.val iG []],[.val .bool [] []],fun n c=>nI n c.1⟩
def afb:Hint:=⟨0,[],[],[],[],[],[],[],[]⟩
theorem aiI:gT T afb Tryz.f138 V4:=by intro n c; kernel_rfl
theorem acw [Fr] (n:Nat):aj Tryz.prog n V4:=ak mixed aK Tryz.func138 (by kernel_rfl) (hi:=afb) aD aiI
def jV (n:Nat) (a0:iw):Option (Bool×Unit):=((nI n a0).bind fun r1=>(if r1.1=true then some (true,()) else some (decide (a0.1=(4:Int)),())))
def abV:Entry:=⟨173,[.val iG []],[.val .bool [] []],fun n c=>jV n c.1⟩
def afc:Hint:=⟨0,[],[],[],[(138,some 4,V4)],[],[],[],[]⟩
theorem aiJ:gT T afc Tryz.f173 abV:=by intro n c; kernel_rfl
theorem ajU [Fr] (n:Nat):aj Tryz.prog n abV:=ak mixed aK Tryz.func173 (by kernel_rfl) (hi:=afc) (aa (acw n) aD) aiJ
def pU (n:Nat) (a0:iw):Option (Bool×Unit):=((nI n a0).bind fun r1=>(if r1.1=true then ((jV n a0).bind fun r2=>(if r2.1=true then (if decide (a0.1=(4:Int))=true then (if decide (a0.1=(4:Int))=true then (if decide (a0.1=(3:Int))=true then some (true,()) else (if decide (a0.2.2.2.2.2.2.1=(0:Int))=true then some (decide ((a0.2.2.2.2.2.2.2.1.length:Int)=(0:Int)),()) else some (false,()))) else (if decide (a0.1=(3:Int))=true then (if decide (a0.1=(3:Int))=true then some (true,()) else (if decide (a0.2.2.2.2.2.2.1=(0:Int))=true then some (decide ((a0.2.2.2.2.2.2.2.1.length:Int)=(0:Int)),()) else some (false,()))) else (if decide (a0.2.2.2.2.2.1=(0:Int))=true then (if decide (a0.1=(3:Int))=true then some (true,()) else (if decide (a0.2.2.2.2.2.2.1=(0:Int))=true then some (decide ((a0.2.2.2.2.2.2.2.1.length:Int)=(0:Int)),()) else some (false,()))) else some (false,())))) else (if decide (a0.2.2.2.2.1=(0:Int))=true then (if decide (a0.1=(4:Int))=true then (if decide (a0.1=(3:Int))=true then some (true,()) else (if decide (a0.2.2.2.2.2.2.1=(0:Int))=true then some (decide ((a0.2.2.2.2.2.2.2.1.length:Int)=(0:Int)),()) else some (false,()))) else (if decide (a0.1=(3:Int))=true then (if decide (a0.1=(3:Int))=true then some (true,()) else (if decide (a0.2.2.2.2.2.2.1=(0:Int))=true then some (decide ((a0.2.2.2.2.2.2.2.1.length:Int)=(0:Int)),()) else some (false,()))) else (if decide (a0.2.2.2.2.2.1=(0:Int))=true then (if decide (a0.1=(3:Int))=true then some (true,()) else (if decide (a0.2.2.2.2.2.2.1=(0:Int))=true then some (decide ((a0.2.2.2.2.2.2.2.1.length:Int)=(0:Int)),()) else some (false,()))) else some (false,())))) else some (false,()))) else (if decide ((a0.2.2.2.1.length:Int)=(0:Int))=true then (if decide (a0.1=(4:Int))=true then (if decide (a0.1=(4:Int))=true then (if decide (a0.1=(3:Int))=true then some (true,()) else (if decide (a0.2.2.2.2.2.2.1=(0:Int))=true then some (decide ((a0.2.2.2.2.2.2.2.1.length:Int)=(0:Int)),()) else some (false,()))) else (if decide (a0.1=(3:Int))=true then (if decide (a0.1=(3:Int))=true then some (true,()) else (if decide (a0.2.2.2.2.2.2.1=(0:Int))=true then some (decide ((a0.2.2.2.2.2.2.2.1.length:Int)=(0:Int)),()) else some (false,()))) else (if decide (a0.2.2.2.2.2.1=(0:Int))=true then (if decide (a0.1=(3:Int))=true then some (true,()) else (if decide (a0.2.2.2.2.2.2.1=(0:Int))=true then some (decide ((a0.2.2.2.2.2.2.2.1.length:Int)=(0:Int)),()) else some (false,()))) else some (false,())))) else (if decide (a0.2.2.2.2.1=(0:Int))=true then (if decide (a0.1=(4:Int))=true then (if decide (a0.1=(3:Int))=true then some (true,()) else (if decide (a0.2.2.2.2.2.2.1=(0:Int))=true then some (decide ((a0.2.2.2.2.2.2.2.1.length:Int)=(0:Int)),()) else some (false,()))) else (if decide (a0.1=(3:Int))=true then (if decide (a0.1=(3:Int))=true then some (true,()) else (if decide (a0.2.2.2.2.2.2.1=(0:Int))=true then some (decide ((a0.2.2.2.2.2.2.2.1.length:Int)=(0:Int)),()) else some (false,()))) else (if decide (a0.2.2.2.2.2.1=(0:Int))=true then (if decide (a0.1=(3:Int))=true then some (true,()) else (if decide (a0.2.2.2.2.2.2.1=(0:Int))=true then some (decide ((a0.2.2.2.2.2.2.2.1.length:Int)=(0:Int)),()) else some (false,()))) else some (false,())))) else some (false,()))) else some (false,())))) else (if decide (a0.2.2.1=([]:List Int))=true then ((jV n a0).bind fun r3=>(if r3.1=true then (if decide (a0.1=(4:Int))=true then (if decide (a0.1=(4:Int))=true then (if decide (a0.1=(3:Int))=true then some (true,()) else (if decide (a0.2.2.2.2.2.2.1=(0:Int))=true then some (decide ((a0.2.2.2.2.2.2.2.1.length:Int)=(0:Int)),()) else some (false,()))) else (if decide (a0.1=(3:Int))=true then (if decide (a0.1=(3:Int))=true then some (true,()) else (if decide (a0.2.2.2.2.2.2.1=(0:Int))=true then some (decide ((a0.2.2.2.2.2.2.2.1.length:Int)=(0:Int)),()) else some (false,()))) else (if decide (a0.2.2.2.2.2.1=(0:Int))=true then (if decide (a0.1=(3:Int))=true then some (true,()) else (if decide (a0.2.2.2.2.2.2.1=(0:Int))=true then some (decide ((a0.2.2.2.2.2.2.2.1.length:Int)=(0:Int)),()) else some (false,()))) else some (false,())))) else (if decide (a0.2.2.2.2.1=(0:Int))=true then (if decide (a0.1=(4:Int))=true then (if decide (a0.1=(3:Int))=true then some (true,()) else (if decide (a0.2.2.2.2.2.2.1=(0:Int))=true then some (decide ((a0.2.2.2.2.2.2.2.1.length:Int)=(0:Int)),()) else some (false,()))) else (if decide (a0.1=(3:Int))=true then (if decide (a0.1=(3:Int))=true then some (true,()) else (if decide (a0.2.2.2.2.2.2.1=(0:Int))=true then some (decide ((a0.2.2.2.2.2.2.2.1.length:Int)=(0:Int)),()) else some (false,()))) else (if decide (a0.2.2.2.2.2.1=(0:Int))=true then (if decide (a0.1=(3:Int))=true then some (true,()) else (if decide (a0.2.2.2.2.2.2.1=(0:Int))=true then some (decide ((a0.2.2.2.2.2.2.2.1.length:Int)=(0:Int)),()) else some (false,()))) else some (false,())))) else some (false,()))) else (if decide ((a0.2.2.2.1.length:Int)=(0:Int))=true then (if decide (a0.1=(4:Int))=true then (if decide (a0.1=(4:Int))=true then (if decide (a0.1=(3:Int))=true then some (true,()) else (if decide (a0.2.2.2.2.2.2.1=(0:Int))=true then some (decide ((a0.2.2.2.2.2.2.2.1.length:Int)=(0:Int)),()) else some (false,()))) else (if decide (a0.1=(3:Int))=true then (if decide (a0.1=(3:Int))=true then some (true,()) else (if decide (a0.2.2.2.2.2.2.1=(0:Int))=true then some (decide ((a0.2.2.2.2.2.2.2.1.length:Int)=(0:Int)),()) else some (false,()))) else (if decide (a0.2.2.2.2.2.1=(0:Int))=true then (if decide (a0.1=(3:Int))=true then some (true,()) else (if decide (a0.2.2.2.2.2.2.1=(0:Int))=true then some (decide ((a0.2.2.2.2.2.2.2.1.length:Int)=(0:Int)),()) else some (false,()))) else some (false,())))) else (if decide (a0.2.2.2.2.1=(0:Int))=true then (if decide (a0.1=(4:Int))=true then (if decide (a0.1=(3:Int))=true then some (true,()) else (if decide (a0.2.2.2.2.2.2.1=(0:Int))=true then some (decide ((a0.2.2.2.2.2.2.2.1.length:Int)=(0:Int)),()) else some (false,()))) else (if decide (a0.1=(3:Int))=true then (if decide (a0.1=(3:Int))=true then some (true,()) else (if decide (a0.2.2.2.2.2.2.1=(0:Int))=true then some (decide ((a0.2.2.2.2.2.2.2.1.length:Int)=(0:Int)),()) else some (false,()))) else (if decide (a0.2.2.2.2.2.1=(0:Int))=true then (if decide (a0.1=(3:Int))=true then some (true,()) else (if decide (a0.2.2.2.2.2.2.1=(0:Int))=true then some (decide ((a0.2.2.2.2.2.2.2.1.length:Int)=(0:Int)),()) else some (false,()))) else some (false,())))) else some (false,()))) else some (false,())))) else some (false,()))))
def abW:Entry:=⟨137,[.val iG []],[.val .bool [] []],fun n c=>pU n c.1⟩
def afd:Hint:=⟨0,[],[],[],[(138,some 12,V4),(173,some 20,abV)],[],[],[],[]⟩
theorem aiK:gT T afd Tryz.f137 abW:=by intro n c; kernel_rfl
theorem ajV [Fr] (n:Nat):aj Tryz.prog n abW:=ak mixed aK Tryz.func137 (by kernel_rfl) (hi:=afd) (aa (acw n) (aa (ajU n) aD)) aiK
def oV (n:Nat) (a0:List Int):Option (Bool×Unit):=(rounds (fun L1 (v1:(List Int)×(List Int)×Int×Int×Unit)=>(if decide (v1.2.2.2.1<v1.2.2.1)=true then (if aI v1.2.2.2.1 v1.2.1.length then ((pV n (v1.2.1.getD v1.2.2.2.1.toNat (0:Int))).bind fun r2=>(if (!r2.1)=true then some (false,()) else (if decide (v1.2.2.2.1>(0:Int))=true then (if aI (IntKind.i64.wrap (v1.2.2.2.1 - (1:Int))) v1.1.length then (if decide ((v1.1.getD (IntKind.i64.wrap (v1.2.2.2.1 - (1:Int))).toNat (0:Int))≥(v1.2.1.getD v1.2.2.2.1.toNat (0:Int)))=true then some (false,()) else L1 (v1.1,v1.2.1,v1.2.2.1,IntKind.i64.wrap (v1.2.2.2.1+(1:Int)),())) else none) else L1 (v1.1,v1.2.1,v1.2.2.1,IntKind.i64.wrap (v1.2.2.2.1+(1:Int)),())))) else none) else some (true,()))) n (a0,a0,(a0.length:Int),(0:Int),()))
def abX:Entry:=⟨139,[.val (.sl 2 (.int .i64)) []],[.val .bool [] []],fun n c=>oV n c.1⟩
def afe:Hint:=⟨0,[],[(0,[0,5,6,7],[])],[],[(172,some 13,Y9)],[],[],[],[]⟩
theorem aiL:gT T afe Tryz.f139 abX:=by intro n c; kernel_rfl
theorem ajW [Fr] (n:Nat):aj Tryz.prog n abX:=ak mixed aK Tryz.func139 (by kernel_rfl) (hi:=afe) (aa (afY n) aD) aiL
def oU (n:Nat) (a0:iw):Option (Int×Unit):=((fq n a0.1 (1:Int) (7:Int)).bind fun r1=>(if (!r1.1)=true then some ((1:Int),()) else ((pU n a0).bind fun r2=>(if (!r2.1)=true then some ((1:Int),()) else ((nP n a0.2.1).bind fun r3=>(if (!r3.1)=true then some ((5:Int),()) else ((nI n a0).bind fun r4=>(if r4.1=true then ((nP n a0.2.2.1).bind fun r5=>(if (!r5.1)=true then some ((5:Int),()) else (if decide ((a0.2.2.2.1.length:Int)>(6:Int))=true then some ((2:Int),()) else ((oV n a0.2.2.2.1).bind fun r6=>(if (!r6.1)=true then some ((3:Int),()) else (if decide (a0.1=(4:Int))=true then ((fq n a0.2.2.2.2.1 (1:Int) (3:Int)).bind fun r7=>(if (!r7.1)=true then some ((3:Int),()) else ((fB n a0.2.2.2.2.2.1).bind fun r8=>(if (!r8.1)=true then some ((3:Int),()) else ((gU n a0.2.2.2.2.2.2.1).bind fun r9=>(if (!r9.1)=true then some ((3:Int),()) else (if decide ((a0.2.2.2.2.2.2.2.1.length:Int)>(400:Int))=true then some ((2:Int),()) else some ((0:Int),())))))))) else ((fB n a0.2.2.2.2.2.1).bind fun NU=>(if (!NU.1)=true then some ((3:Int),()) else ((gU n a0.2.2.2.2.2.2.1).bind fun Ir=>(if (!Ir.1)=true then some ((3:Int),()) else (if decide ((a0.2.2.2.2.2.2.2.1.length:Int)>(400:Int))=true then some ((2:Int),()) else some ((0:Int),())))))))))))) else (if decide ((a0.2.2.2.1.length:Int)>(6:Int))=true then some ((2:Int),()) else ((oV n a0.2.2.2.1).bind fun Km=>(if (!Km.1)=true then some ((3:Int),()) else (if decide (a0.1=(4:Int))=true then ((fq n a0.2.2.2.2.1 (1:Int) (3:Int)).bind fun Oj=>(if (!Oj.1)=true then some ((3:Int),()) else ((fB n a0.2.2.2.2.2.1).bind fun Yz=>(if (!Yz.1)=true then some ((3:Int),()) else ((gU n a0.2.2.2.2.2.2.1).bind fun TK=>(if (!TK.1)=true then some ((3:Int),()) else (if decide ((a0.2.2.2.2.2.2.2.1.length:Int)>(400:Int))=true then some ((2:Int),()) else some ((0:Int),())))))))) else ((fB n a0.2.2.2.2.2.1).bind fun r16=>(if (!r16.1)=true then some ((3:Int),()) else ((gU n a0.2.2.2.2.2.2.1).bind fun r17=>(if (!r17.1)=true then some ((3:Int),()) else (if decide ((a0.2.2.2.2.2.2.2.1.length:Int)>(400:Int))=true then some ((2:Int),()) else some ((0:Int),()))))))))))))))))))
def Zd:Entry:=⟨108,[.val iG []],[.val (.int .i64) [] []],fun n c=>oU n c.1⟩
def aff:Hint:=⟨0,[],[],[],[(49,some 6,KT),(137,some 10,abW),(134,some 16,VZ),(138,some 20,V4),(134,some 24,VZ),(139,some 36,abX),(49,some 45,KT),(140,some 52,Za),(141,some 58,Zb)],[],[],[],[]⟩
theorem aiM:gT T aff Tryz.f108 Zd:=by intro n c; kernel_rfl
theorem af2 [Fr] (n:Nat):aj Tryz.prog n Zd:=ak mixed aK Tryz.func108 (by kernel_rfl) (hi:=aff) (aa (Oz n) (aa (ajV n) (aa (acv n) (aa (acw n) (aa (acv n) (aa (ajW n) (aa (Oz n) (aa (afZ n) (aa (af0 n) aD))))))))) aiM
def oZ (n:Nat) (a0:Int):Option ((List Int)×Unit):=(if (256:Int)≠0 then (if (256:Int)≠0 then some ([IntKind.u8.wrap (IntKind.i64.wrap (a0.tdiv (256:Int))),IntKind.u8.wrap (a0.tmod (256:Int))],()) else none) else none)
def Qx:Entry:=⟨125,[.val (.int .i64) []],[.own (.sl 5 (.int .u8)) [5] [] []],fun n c=>oZ n c.1⟩
def afg:Hint:=⟨0,[],[],[],[],[],[],[],[]⟩
theorem aiN:gT T afg Tryz.f125 Qx:=by intro n c; kernel_rfl
theorem Wp [Fr] (n:Nat):aj Tryz.prog n Qx:=ak mixed aK Tryz.func125 (by kernel_rfl) (hi:=afg) aD aiN
def wE (n:Nat) (a0:List Int):Option (Int×Unit):=(rounds (fun L1 (v1:Int×(List Int)×Int×Int×Unit)=>(if decide (v1.2.2.2.1<v1.2.2.1)=true then (if aI v1.2.2.2.1 v1.2.1.length then (if (65521:Int)≠0 then L1 ((IntKind.i64.wrap ((IntKind.i64.wrap (v1.1 * (31:Int)))+(IntKind.i64.wrap (v1.2.1.getD v1.2.2.2.1.toNat (0:Int))))).tmod (65521:Int),v1.2.1,v1.2.2.1,IntKind.i64.wrap (v1.2.2.2.1+(1:Int)),()) else none) else none) else some (v1.1,()))) n ((1:Int),a0,(a0.length:Int),(0:Int),()))
def abY:Entry:=⟨126,[.val (.sl 5 (.int .u8)) []],[.val (.int .i64) [] []],fun n c=>wE n c.1⟩
def afh:Hint:=⟨0,[],[(0,[3,6,7,8],[])],[],[],[],[],[],[]⟩
theorem aiO:gT T afh Tryz.f126 abY:=by intro n c; kernel_rfl
theorem ajX [Fr] (n:Nat):aj Tryz.prog n abY:=ak mixed aK Tryz.func126 (by kernel_rfl) (hi:=afh) aD aiO
def uP (n:Nat) (a0:iw):Option ((List Int)×Unit):=(if ([IntKind.u8.wrap a0.1,IntKind.u8.wrap (a0.2.1.length:Int)].length+a0.2.1.length) * 1≤140737488355328 then (if (([IntKind.u8.wrap a0.1,IntKind.u8.wrap (a0.2.1.length:Int)]++a0.2.1).length+[IntKind.u8.wrap (a0.2.2.1.length:Int)].length) * 1≤140737488355328 then (if ((([IntKind.u8.wrap a0.1,IntKind.u8.wrap (a0.2.1.length:Int)]++a0.2.1)++[IntKind.u8.wrap (a0.2.2.1.length:Int)]).length+a0.2.2.1.length) * 1≤140737488355328 then (if (((([IntKind.u8.wrap a0.1,IntKind.u8.wrap (a0.2.1.length:Int)]++a0.2.1)++[IntKind.u8.wrap (a0.2.2.1.length:Int)])++a0.2.2.1).length+[IntKind.u8.wrap (a0.2.2.2.1.length:Int)].length) * 1≤140737488355328 then (rounds (fun L1 (v1:(List Int)×Int×Int×iw×(List Int)×Unit)=>(if decide (v1.2.2.1<v1.2.1)=true then (if aI v1.2.2.1 v1.1.length then ((oZ n (v1.1.getD v1.2.2.1.toNat (0:Int))).bind fun r2=>(if (v1.2.2.2.2.1.length+r2.1.length) * 1≤140737488355328 then L1 (v1.1,v1.2.1,IntKind.i64.wrap (v1.2.2.1+(1:Int)),v1.2.2.2.1,v1.2.2.2.2.1++r2.1,()) else none)) else none) else (if (v1.2.2.2.2.1.length+[IntKind.u8.wrap v1.2.2.2.1.2.2.2.2.1,IntKind.u8.wrap v1.2.2.2.1.2.2.2.2.2.1].length) * 1≤140737488355328 then ((oZ n v1.2.2.2.1.2.2.2.2.2.2.1).bind fun r3=>(if ((v1.2.2.2.2.1++[IntKind.u8.wrap v1.2.2.2.1.2.2.2.2.1,IntKind.u8.wrap v1.2.2.2.1.2.2.2.2.2.1]).length+r3.1.length) * 1≤140737488355328 then ((cB n v1.2.2.2.1.2.2.2.2.2.2.2.1).bind fun r4=>((oZ n r4.1).bind fun r5=>(if (((v1.2.2.2.2.1++[IntKind.u8.wrap v1.2.2.2.1.2.2.2.2.1,IntKind.u8.wrap v1.2.2.2.1.2.2.2.2.2.1])++r3.1).length+r5.1.length) * 1≤140737488355328 then (if ((((v1.2.2.2.2.1++[IntKind.u8.wrap v1.2.2.2.1.2.2.2.2.1,IntKind.u8.wrap v1.2.2.2.1.2.2.2.2.2.1])++r3.1)++r5.1).length+v1.2.2.2.1.2.2.2.2.2.2.2.1.length) * 1≤140737488355328 then ((cB n ((((v1.2.2.2.2.1++[IntKind.u8.wrap v1.2.2.2.1.2.2.2.2.1,IntKind.u8.wrap v1.2.2.2.1.2.2.2.2.2.1])++r3.1)++r5.1)++v1.2.2.2.1.2.2.2.2.2.2.2.1)).bind fun r6=>((oZ n (IntKind.i64.wrap (r6.1+(4:Int)))).bind fun r7=>(if (r7.1.length+((((v1.2.2.2.2.1++[IntKind.u8.wrap v1.2.2.2.1.2.2.2.2.1,IntKind.u8.wrap v1.2.2.2.1.2.2.2.2.2.1])++r3.1)++r5.1)++v1.2.2.2.1.2.2.2.2.2.2.2.1).length) * 1≤140737488355328 then ((wE n (r7.1++((((v1.2.2.2.2.1++[IntKind.u8.wrap v1.2.2.2.1.2.2.2.2.1,IntKind.u8.wrap v1.2.2.2.1.2.2.2.2.2.1])++r3.1)++r5.1)++v1.2.2.2.1.2.2.2.2.2.2.2.1))).bind fun r8=>((oZ n r8.1).bind fun r9=>(if ((r7.1++((((v1.2.2.2.2.1++[IntKind.u8.wrap v1.2.2.2.1.2.2.2.2.1,IntKind.u8.wrap v1.2.2.2.1.2.2.2.2.2.1])++r3.1)++r5.1)++v1.2.2.2.1.2.2.2.2.2.2.2.1)).length+r9.1.length) * 1≤140737488355328 then some ((r7.1++((((v1.2.2.2.2.1++[IntKind.u8.wrap v1.2.2.2.1.2.2.2.2.1,IntKind.u8.wrap v1.2.2.2.1.2.2.2.2.2.1])++r3.1)++r5.1)++v1.2.2.2.1.2.2.2.2.2.2.2.1))++r9.1,()) else none))) else none))) else none) else none))) else none)) else none))) n (a0.2.2.2.1,(a0.2.2.2.1.length:Int),(0:Int),a0,((([IntKind.u8.wrap a0.1,IntKind.u8.wrap (a0.2.1.length:Int)]++a0.2.1)++[IntKind.u8.wrap (a0.2.2.1.length:Int)])++a0.2.2.1)++[IntKind.u8.wrap (a0.2.2.2.1.length:Int)],())) else none) else none) else none) else none)
def abZ:Entry:=⟨97,[.val iG []],[.own (.sl 5 (.int .u8)) [5] [] []],fun n c=>uP n c.1⟩
def afi:Hint:=⟨0,[],[(0,[1,3,37,38,39],[34,450])],[],[(125,some 45,Qx),(125,some 60,Qx),(50,some 64,Ot),(125,some 65,Qx),(50,some 72,Ot),(125,some 74,Qx),(126,some 79,abY),(125,some 80,Qx)],[],[],[],[]⟩
theorem aiP:gT T afi Tryz.f97 abZ:=by intro n c; kernel_rfl
theorem ajY [Fr] (n:Nat):aj Tryz.prog n abZ:=ak mixed aK Tryz.func97 (by kernel_rfl) (hi:=afi) (aa (Wp n) (aa (Wp n) (aa (Uc n) (aa (Wp n) (aa (Uc n) (aa (Wp n) (aa (ajX n) (aa (Wp n) aD)))))))) aiP
def yS (n:Nat) (a0:List Int) (a1:List Int):Option (Bool×Unit):=some (decide (a0=a1),())
def ab0:Entry:=⟨152,[.val (.sl 5 (.int .u8)) [], .val (.sl 5 (.int .u8)) []],[.val .bool [] []],fun n c=>yS n c.1 c.2.1⟩
def afj:Hint:=⟨0,[],[],[],[],[],[],[],[]⟩
theorem aiQ:gT T afj Tryz.f152 ab0:=by intro n c; kernel_rfl
theorem aj0 [Fr] (n:Nat):aj Tryz.prog n ab0:=ak mixed aK Tryz.func152 (by kernel_rfl) (hi:=afj) aD aiQ
def qD (n:Nat) (a0:List Int):Option (iw×Int×Unit):=((gK n (a0,false,())).bind fun r1=>(if r1.2.1.2.1=true then some (Ey,(0:Int),()) else ((cB n a0).bind fun r2=>(if decide (r1.1>r2.1)=true then some (Ey,(0:Int),()) else (if 0≤(2:Int)∧(2:Int)≤(if r1.1>(2:Int) then r1.1 else (2:Int))∧(if r1.1>(2:Int) then r1.1 else (2:Int))≤(a0.length:Int) then ((eT n ((a0.take (if r1.1>(2:Int) then r1.1 else (2:Int)).toNat).drop (2:Int).toNat,r1.2.1.2)).bind fun r3=>((eT n r3.2.1).bind fun r4=>((eX n r4.2.1 r4.1).bind fun r5=>((eT n r5.2.1).bind fun r6=>((eX n r6.2.1 r6.1).bind fun r7=>((eT n r7.2.1).bind fun r8=>(rounds (fun L9 (v9:(List Int)×Int×Int×Int×iw×iw×Zt1×Unit)=>(if decide (v9.2.2.2.1<v9.2.2.1)=true then ((gK n v9.2.2.2.2.2.2.1).bind fun NU=>(if (v9.2.2.2.2.2.1.2.2.2.1.length+[NU.1].length) * 8≤140737488355328 then L9 (v9.1,v9.2.1,v9.2.2.1,IntKind.i64.wrap (v9.2.2.2.1+(1:Int)),v9.2.2.2.2.1,(v9.2.2.2.2.2.1.1,v9.2.2.2.2.2.1.2.1,v9.2.2.2.2.2.1.2.2.1,v9.2.2.2.2.2.1.2.2.2.1++[NU.1],v9.2.2.2.2.2.1.2.2.2.2),NU.2.1,()) else none)) else ((eT n v9.2.2.2.2.2.2.1).bind fun Ir=>((eT n Ir.2.1).bind fun Km=>((gK n Km.2.1).bind fun Oj=>((gK n Oj.2.1).bind fun Yz=>((eX n Yz.2.1 Yz.1).bind fun TK=>(if (([]:List Int).length+TK.1.length) * 1≤140737488355328 then (if TK.2.1.2.1=true then some (Ey,(0:Int),()) else ((oU n (v9.2.2.2.2.2.1.1,v9.2.2.2.2.2.1.2.1,v9.2.2.2.2.2.1.2.2.1,v9.2.2.2.2.2.1.2.2.2.1,Ir.1,Km.1,Oj.1,([]:List Int)++TK.1,v9.2.2.2.2.2.1.2.2.2.2.2.2.2.2)).bind fun r16=>(if (!decide (r16.1=(0:Int)))=true then some (Ey,(0:Int),()) else ((uP n (v9.2.2.2.2.2.1.1,v9.2.2.2.2.2.1.2.1,v9.2.2.2.2.2.1.2.2.1,v9.2.2.2.2.2.1.2.2.2.1,Ir.1,Km.1,Oj.1,([]:List Int)++TK.1,v9.2.2.2.2.2.1.2.2.2.2.2.2.2.2)).bind fun r17=>(if 0≤v9.2.1∧v9.2.1≤(v9.1.length:Int) then ((yS n r17.1 (v9.1.take v9.2.1.toNat)).bind fun r18=>(if (!r18.1)=true then some (Ey,(0:Int),()) else some ((v9.2.2.2.2.2.1.1,v9.2.2.2.2.2.1.2.1,v9.2.2.2.2.2.1.2.2.1,v9.2.2.2.2.2.1.2.2.2.1,Ir.1,Km.1,Oj.1,([]:List Int)++TK.1,v9.2.2.2.2.2.1.2.2.2.2.2.2.2.2),v9.2.1,()))) else none))))) else none)))))))) n (a0,r1.1,r8.1,(0:Int),Ey,(r3.1,r5.1,r7.1,([]:List Int),(0:Int),(0:Int),(0:Int),([]:List Int),()),r8.2.1,())))))))) else none)))))
def ab1:Entry:=⟨110,[.val (.sl 5 (.int .u8)) []],[.own iG [2,5] [] [], .val (.int .i64) [] []],fun n c=>qD n c.1⟩
def afk:Hint:=⟨0,[50,92],[(0,[0,2,4,5,6,46,47],[66,194,290])],[],[(149,some 11,Ua),(50,some 19,Ot),(150,some 31,Ou),(150,some 35,Ou),(151,some 36,Qw),(150,some 41,Ou),(151,some 42,Qw),(150,some 46,Ou),(149,some 52,Ua),(150,some 58,Ou),(150,some 61,Ou),(149,some 64,Ua),(149,some 69,Ua),(151,some 70,Qw),(108,some 79,Zd),(97,some 84,abZ),(152,some 88,ab0)],[],[],[],[]⟩
theorem aiR:gT T afk Tryz.f110 ab1:=by intro n c; kernel_rfl
theorem aj1 [Fr] (n:Nat):aj Tryz.prog n ab1:=ak mixed aK Tryz.func110 (by kernel_rfl) (hi:=afk) (aa (Zk n) (aa (Uc n) (aa (Ud n) (aa (Ud n) (aa (Wo n) (aa (Ud n) (aa (Wo n) (aa (Ud n) (aa (Zk n) (aa (Ud n) (aa (Ud n) (aa (Zk n) (aa (Zk n) (aa (Wo n) (aa (af2 n) (aa (ajY n) (aa (aj0 n) aD))))))))))))))))) aiR
def oW (n:Nat) (a0:List Int):Option ((List iw)×Int×Unit):=(rounds (fun L1 (v1:(List Int)×Int×(List iw)×Unit)=>(if 0≤v1.2.1∧v1.2.1≤(v1.1.length:Int) then ((qD n (v1.1.drop v1.2.1.toNat)).bind fun r2=>(if decide (r2.2.1=(0:Int))=true then some (v1.2.2.1,v1.2.1,()) else (if (v1.2.2.1.length+[r2.1].length) * 112≤140737488355328 then L1 (v1.1,IntKind.i64.wrap (v1.2.1+r2.2.1),v1.2.2.1++[r2.1],()) else none))) else none)) n (a0,(0:Int),([]:List iw),()))
def Ze:Entry:=⟨75,[.val (.sl 5 (.int .u8)) []],[.own (.sl 48 iG) [2,5,48] [] [], .val (.int .i64) [] []],fun n c=>oW n c.1⟩
def afl:Hint:=⟨0,[21],[(0,[0,4,5],[258])],[],[(110,some 13,ab1)],[],[],[],[]⟩
theorem aiS:gT T afl Tryz.f75 Ze:=by intro n c; kernel_rfl
theorem af3 [Fr] (n:Nat):aj Tryz.prog n Ze:=ak mixed aK Tryz.func75 (by kernel_rfl) (hi:=afl) (aa (aj1 n) aD) aiS
def kY (n:Nat) (a0:vV):Option ((List iw)×Bool×Unit):=((oW n a0.2.1).bind fun r1=>((oW n a0.2.2.1).bind fun r2=>(if (r1.1.length+r2.1.length) * 112≤140737488355328 then ((cB n a0.2.1).bind fun r3=>(if decide (r1.2.1=r3.1)=true then ((cB n a0.2.2.1).bind fun r4=>some (r1.1++r2.1,decide (r2.2.1=r4.1),())) else some (r1.1++r2.1,false,()))) else none)))
def ab2:Entry:=⟨64,[.val xX []],[.own (.sl 48 iG) [2,5,48] [] [], .val .bool [] []],fun n c=>kY n c.1⟩
def afm:Hint:=⟨0,[],[],[],[(75,some 11,Ze),(75,some 17,Ze),(50,some 26,Ot),(50,some 32,Ot)],[],[],[],[]⟩
theorem aiT:gT T afm Tryz.f64 ab2:=by intro n c; kernel_rfl
theorem aj2 [Fr] (n:Nat):aj Tryz.prog n ab2:=ak mixed aK Tryz.func64 (by kernel_rfl) (hi:=afm) (aa (af3 n) (aa (af3 n) (aa (Uc n) (aa (Uc n) aD)))) aiT
def wD (n:Nat)  : Option (fI×Unit):=some (((1:Int),([]:List dQ),()),())
def ab3:Entry:=⟨76,[],[.own qy [5,100,103] [] []],fun n c=>wD n⟩
def afn:Hint:=⟨0,[],[],[],[],[],[],[],[]⟩
theorem aiU:gT T afn Tryz.f76 ab3:=by intro n c; kernel_rfl
theorem aj3 [Fr] (n:Nat):aj Tryz.prog n ab3:=ak mixed aK Tryz.func76 (by kernel_rfl) (hi:=afn) aD aiU
def dP (n:Nat) (a0:List Int):Option ((List Int)×Unit):=(if a0.isEmpty=true then (agC [(.sl 5 (.int .u8))] (some (([]:List Int),())) (if (([]:List Int).length+a0.length) * 1≤140737488355328 then some (([]:List Int)++a0,()) else none)) else (if (([]:List Int).length+a0.length) * 1≤140737488355328 then some (([]:List Int)++a0,()) else none))
def V5:Entry:=⟨98,[.val (.sl 5 (.int .u8)) []],[.own (.sl 5 (.int .u8)) [5] [] []],fun n c=>dP n c.1⟩
def afo:Hint:=⟨0,[],[],[],[],[],[],[],[]⟩
theorem aiV:gT T afo Tryz.f98 V5:=by intro n c; kernel_rfl
theorem acy [Fr] (n:Nat):aj Tryz.prog n V5:=ak mixed aK Tryz.func98 (by kernel_rfl) (hi:=afo) aD aiV
def jh (n:Nat) (a0:fI):Option (fI×Unit):=(rounds (fun L1 (v1:(List dQ)×Int×Int×fI×fI×Unit)=>(if decide (v1.2.2.1<v1.2.1)=true then (if aI v1.2.2.1 v1.1.length then (rounds (fun L2 (v2:(List dQ)×Int×Int×(List rA)×Int×Int×fI×fI×dQ×Unit)=>(if decide (v2.2.2.2.2.2.1<v2.2.2.2.2.1)=true then (if aI v2.2.2.2.2.2.1 v2.2.2.2.1.length then ((dP n (((((v2.2.2.2.1.getD v2.2.2.2.2.2.1.toNat kG).2).2).2).1)).bind fun r3=>(if (v2.2.2.2.2.2.2.2.2.1.2.2.2.1.length+[((v2.2.2.2.1.getD v2.2.2.2.2.2.1.toNat kG).1,((v2.2.2.2.1.getD v2.2.2.2.2.2.1.toNat kG).2).1,(((v2.2.2.2.1.getD v2.2.2.2.2.2.1.toNat kG).2).2).1,r3.1,((((v2.2.2.2.1.getD v2.2.2.2.2.2.1.toNat kG).2).2).2).2)].length) * 48≤140737488355328 then L2 (v2.1,v2.2.1,v2.2.2.1,v2.2.2.2.1,v2.2.2.2.2.1,IntKind.i64.wrap (v2.2.2.2.2.2.1+(1:Int)),v2.2.2.2.2.2.2.1,v2.2.2.2.2.2.2.2.1,(v2.2.2.2.2.2.2.2.2.1.1,v2.2.2.2.2.2.2.2.2.1.2.1,v2.2.2.2.2.2.2.2.2.1.2.2.1,v2.2.2.2.2.2.2.2.2.1.2.2.2.1++[((v2.2.2.2.1.getD v2.2.2.2.2.2.1.toNat kG).1,((v2.2.2.2.1.getD v2.2.2.2.2.2.1.toNat kG).2).1,(((v2.2.2.2.1.getD v2.2.2.2.2.2.1.toNat kG).2).2).1,r3.1,((((v2.2.2.2.1.getD v2.2.2.2.2.2.1.toNat kG).2).2).2).2)],v2.2.2.2.2.2.2.2.2.1.2.2.2.2),()) else none)) else none) else (if (v2.2.2.2.2.2.2.2.1.2.1.length+[v2.2.2.2.2.2.2.2.2.1].length) * 56≤140737488355328 then L1 (v2.1,v2.2.1,IntKind.i64.wrap (v2.2.2.1+(1:Int)),v2.2.2.2.2.2.2.1,(v2.2.2.2.2.2.2.2.1.1,v2.2.2.2.2.2.2.2.1.2.1++[v2.2.2.2.2.2.2.2.2.1],v2.2.2.2.2.2.2.2.1.2.2),()) else none))) n (v1.1,v1.2.1,v1.2.2.1,((((v1.1.getD v1.2.2.1.toNat dF).2).2).2).1,((((((v1.1.getD v1.2.2.1.toNat dF).2).2).2).1).length:Int),(0:Int),v1.2.2.2.1,v1.2.2.2.2.1,((v1.1.getD v1.2.2.1.toNat dF).1,((v1.1.getD v1.2.2.1.toNat dF).2).1,(((v1.1.getD v1.2.2.1.toNat dF).2).2).1,([]:List rA),()),())) else none) else some (v1.2.2.2.2.1,()))) n (a0.2.1,(a0.2.1.length:Int),(0:Int),OL,(a0.1,([]:List dQ),()),()))
def V6:Entry:=⟨67,[.val qy []],[.own qy [5,100,103] [] []],fun n c=>jh n c.1⟩
def afp:Hint:=⟨0,[38,39,45,46,51],[(0,[2,3,13,14,15],[66,98]),(2,[2,3,6,13,14,15,27,28,29],[66,98,194])],[],[(98,some 35,V5)],[],[],[],[]⟩
theorem aiW:gT T afp Tryz.f67 V6:=by intro n c; kernel_rfl
theorem acz [Fr] (n:Nat):aj Tryz.prog n V6:=ak mixed aK Tryz.func67 (by kernel_rfl) (hi:=afp) (aa (acy n) aD) aiW
def ru (n:Nat) (a0:dQ) (a1:List Int):Option (Bool×Unit):=some (decide (a0.1=a1),())
def ab4:Entry:=⟨174,[.val nL [], .ro .str],[.val .bool [] []],fun n c=>ru n c.1 c.2.1⟩
def afq:Hint:=⟨0,[],[],[],[],[],[],[],[]⟩
theorem aiX:gT T afq Tryz.f174 ab4:=by intro n c; kernel_rfl
theorem aj4 [Fr] (n:Nat):aj Tryz.prog n ab4:=ak mixed aK Tryz.func174 (by kernel_rfl) (hi:=afq) aD aiX
def bW (n:Nat) (a0:List dQ) (Hu:List Int):Option (Int×Unit):=(rounds (fun L1 (v1:(List dQ)×(List Int)×Int×Int×Unit)=>(if decide (v1.2.2.2.1<v1.2.2.1)=true then (if aI v1.2.2.2.1 v1.1.length then ((ru n (v1.1.getD v1.2.2.2.1.toNat dF) v1.2.1).bind fun r2=>(if r2.1=true then some (v1.2.2.2.1,()) else L1 (v1.1,v1.2.1,v1.2.2.1,IntKind.i64.wrap (v1.2.2.2.1+(1:Int)),()))) else none) else some ((-1:Int),()))) n (a0,Hu,(a0.length:Int),(0:Int),()))
def ab5:Entry:=⟨136,[.val (.sl 100 nL) [], .fn 174 [.str]],[.val (.int .i64) [] []],fun n c=>bW n c.1 c.2.1⟩
def afr:Hint:=⟨0,[],[(0,[0,1,7,8],[])],[],[(174,some 16,ab4)],[],[],[],[]⟩
theorem aiY:gT T afr Tryz.f136 ab5:=by intro n c; kernel_rfl
theorem aj5 [Fr] (n:Nat):aj Tryz.prog n ab5:=ak mixed aK Tryz.func136 (by kernel_rfl) (hi:=afr) (aa (aj4 n) aD) aiY
def jg (n:Nat) (a0:fI) (a1:List Int):Option (Int×Unit):=((bW n a0.2.1 a1).bind fun r1=>some (r1.1,()))
def V7:Entry:=⟨143,[.val qy [], .val .str []],[.val (.int .i64) [] []],fun n c=>jg n c.1 c.2.1⟩
def afs:Hint:=⟨0,[],[],[],[(136,some 8,ab5)],[],[],[],[]⟩
theorem aiZ:gT T afs Tryz.f143 V7:=by intro n c; kernel_rfl
theorem acA [Fr] (n:Nat):aj Tryz.prog n V7:=ak mixed aK Tryz.func143 (by kernel_rfl) (hi:=afs) (aa (aj5 n) aD) aiZ
def nU (n:Nat) (a0:fI) (a1:List Int):Option (Int×fI×Unit):=((jg n a0 a1).bind fun r1=>(if decide (r1.1≥(0:Int))=true then some ((6:Int),a0,()) else (if decide ((a0.2.1.length:Int)=(3:Int))=true then some ((10:Int),a0,()) else (if decide (a0.1=(1000:Int))=true then some ((10:Int),a0,()) else (if (a0.2.1.length+[(a1,a0.1,(1:Int),([]:List rA),())].length) * 56≤140737488355328 then some ((0:Int),(IntKind.i64.wrap (a0.1+(1:Int)),a0.2.1++[(a1,a0.1,(1:Int),([]:List rA),())],a0.2.2),()) else none)))))
def ab6:Entry:=⟨142,[.rw qy [5,100,103] [5,100,103,4294967295] [5,100,103], .val .str []],[.val (.int .i64) [] []],fun n c=>nU n c.1 c.2.1⟩
def aft:Hint:=⟨0,[30],[],[],[(143,some 10,V7)],[],[],[],[]⟩
theorem ai0:gT T aft Tryz.f142 ab6:=by intro n c; kernel_rfl
theorem aj6 [Fr] (n:Nat):aj Tryz.prog n ab6:=ak mixed aK Tryz.func142 (by kernel_rfl) (hi:=aft) (aa (acA n) aD) ai0
namespace QA
def YT:VM:={ ty:=[(2,(.int .i64)),(3,(.int .i64)),(4, .bool),(5,(.int .u8)),(6,(.int .u8)),(7,YY),(8,YY),(9, .str),(10, .str),(11, .str),(12,(.int .u64)),(13,YW),(14,YW),(21,(.int .i32)),(22,(.sl 5 (.int .u8))),(23,(.sl 134 I4)),(24,QH),(25,QH),(26,QJ),(27,QJ),(29,(.sl 2 (.int .i64))),(30,(.sl 100 Zk4)),(31,Zk8),(32,Zk8),(33,acH),(34,acH),(35,agc),(36,agc),(47,iG),(48,iG),(52,agb),(53,agb),(55,(.sl 48 iG)),(56,KZ),(57,KZ),(65,iG),(98,(.sl 103 zA)),(99,Zk4),(100,Zk4),(102,zA),(103,zA),(109,(.sl 22 (.sl 5 (.int .u8)))),(132,(.sl 199 zA)),(133,I4),(134,I4),(141,I5),(142,I5),(145,YX),(146,YX),(150,(.sl 9 .str)),(167,Uh),(168,Uh),(199,zA),(203,Ul),(204,Ul),(226,(.int .u32)),(227,(.int .u8)),(228,(.int .u8)),(231,(.int .i32)),(232,(.int .i32))],bytes:=[(2,8),(3,8),(4,1),(5,1),(6,1),(7,24),(8,24),(9,16),(10,16),(11,16),(12,8),(13,24),(14,24),(21,4),(22,24),(23,24),(24,32),(25,32),(26,88),(27,88),(29,24),(30,24),(31,32),(32,32),(33,88),(34,88),(35,120),(36,120),(47,112),(48,112),(52,64),(53,64),(55,24),(56,40),(57,40),(65,112),(98,24),(99,56),(100,56),(102,48),(103,48),(109,24),(132,24),(133,56),(134,56),(141,128),(142,128),(145,32),(146,32),(150,24),(167,32),(168,32),(199,48),(203,40),(204,40),(226,4),(227,1),(228,1),(231,4),(232,4)],ptr:=[15,16,17,74,87,118,136,161,166,187,206,230],ids:=true }
def T:jd:=YT.tab
theorem aK:Cz Tryz.prog YT=true:=by kernel_rfl
theorem mixed:Tryz.prog.follows .mixedOrders=true:=by kernel_rfl
def bO (n:Nat) (a0:List Zt4) (a1:Int) (a2:Int):Option Zt8:=(if 0≤a1∧a1≤a2∧a2≤(a0.length:Int)∧(a0.length:Int)≤(a0.length:Int) then (if decide (a1=a2)=true then some (((a0.length:Nat):Int),a0,()) else (if 0≤(0:Int)∧(0:Int)≤a1∧a1≤(a0.length:Int) then (if 0≤a2∧a2≤(a0.length:Int)∧(a0.length:Int)≤(a0.length:Int) then (if a1.toNat≤a2.toNat then (if 0≤(((a1.toNat+((a0.length:Int).toNat - a2.toNat)) - 0:Nat):Int)∧(((a1.toNat+((a0.length:Int).toNat - a2.toNat)) - 0:Nat):Int)≤(a0.length:Int)∧((0:Nat):Int)+(a0.length:Int)≤((a0.take a1.toNat++(a0.take ((a0.length:Int).toNat)).drop a2.toNat++a0.drop (a1.toNat+((a0.length:Int).toNat - a2.toNat))).length:Int) then some ((((a1.toNat+((a0.length:Int).toNat - a2.toNat)):Nat):Int),(a0.take a1.toNat++(a0.take ((a0.length:Int).toNat)).drop a2.toNat++a0.drop (a1.toNat+((a0.length:Int).toNat - a2.toNat))).take (0+(((a1.toNat+((a0.length:Int).toNat - a2.toNat)) - 0:Nat):Int).toNat)++List.replicate ((0+(a0.length:Int).toNat) - (0+(((a1.toNat+((a0.length:Int).toNat - a2.toNat)) - 0:Nat):Int).toNat)) (([]:List Int),(0:Int),(0:Int),(0:Nat),())++(a0.take a1.toNat++(a0.take ((a0.length:Int).toNat)).drop a2.toNat++a0.drop (a1.toNat+((a0.length:Int).toNat - a2.toNat))).drop (0+(a0.length:Int).toNat),()) else none) else none) else none) else none)) else none)
def V8:Entry:=⟨144,[.jC (.sl 100 Zk4) [5,100,103] [100], .val (.int .i64) [], .val (.int .i64) []],[.into 0 []],fun n c=>bO n c.1 c.2.1 c.2.2.1⟩
def afu:Hint:=⟨0,[],[],[],[],[],[],[13,22,25,26,29,31],[]⟩
theorem ai1:gT T afu Tryz.f144 V8:=by intro n c; kernel_rfl
theorem acB [Fr] (n:Nat):aj Tryz.prog n V8:=ak mixed aK Tryz.func144 (by kernel_rfl) (hi:=afu) aD ai1
end QA
def aa8:List dD:=[.jC (.sl 100 nL) [5,100,103] [100], .val (.int .i64) [], .val (.int .i64) []]
def ahw:List mY:=[.into 0 []]
def bO (n:Nat) (a0:List dQ) (a1:Int) (a2:Int):Option (Int×List dQ×Unit):=mE.Jp dF a0 a1 a2
def V8:Entry:=⟨144,aa8,ahw,fun n (c:Cont (kin aa8))=>bO n c.1 c.2.1 c.2.2.1⟩
theorem acB [Fr] (n:Nat):aj Tryz.prog n V8:=mE.Nl (k0:=.str) (kk:=zA) (e:=103) (t:=100) (ow:=[5,100,103]) (wt:=[100]) (tX:=[100]) (d0:=([]:List Int)) (FI:=QA.bO) (by simp [K.tys,aL]) (by simp [K.tys,aL]) (by simp [K.tys,aL]) (fun fr=>QA.acB n) (by simp [nE,aL]) (fun _ _ _=>⟨rfl,rfl⟩) (fun xs i j h=>mE.Rb _ xs i j h)
def sw (n:Nat) (a0:dQ) (a1:rA):Option (Int×dQ×Unit):=((dP n a1.2.2.2.1).bind fun r1=>(if [(a0.2.2.1,a1.2.1,a1.2.2.1,r1.1,())].length=1∧(a0.2.2.2.1.length+1) * 48≤140737488355328 then some (IntKind.i64.wrap ((IntKind.i64.wrap (a0.2.2.1+(1:Int))) - (1:Int)),(a0.1,a0.2.1,IntKind.i64.wrap (a0.2.2.1+(1:Int)),a0.2.2.2.1++[[(a0.2.2.1,a1.2.1,a1.2.2.1,r1.1,())].getD 0 kG],a0.2.2.2.2),()) else none))
def ab7:Entry:=⟨145,[.rw nL [5,103] [103,4294967295] [5,103], .val zA []],[.val (.int .i64) [] []],fun n c=>sw n c.1 c.2.1⟩
def afv:Hint:=⟨0,[9],[],[],[(98,some 20,V5)],[],[],[],[23]⟩
theorem ai2:gT T afv Tryz.f145 ab7:=by intro n c; kernel_rfl
theorem aj7 [Fr] (n:Nat):aj Tryz.prog n ab7:=ak mixed aK Tryz.func145 (by kernel_rfl) (hi:=afv) (aa (acy n) aD) ai2
def eB (n:Nat) (a0:List Int) (a1:Int):Option (Int×Unit):=(rounds (fun L1 (v1:(List Int)×Int×Int×Int×Unit)=>(if decide (v1.2.2.2.1<v1.2.2.1)=true then (if aI v1.2.2.2.1 v1.1.length then (if decide (v1.2.1=(v1.1.getD v1.2.2.2.1.toNat (0:Int)))=true then some (v1.2.2.2.1,()) else L1 (v1.1,v1.2.1,v1.2.2.1,IntKind.i64.wrap (v1.2.2.2.1+(1:Int)),())) else none) else some ((-1:Int),()))) n (a0,a1,(a0.length:Int),(0:Int),()))
def Qy:Entry:=⟨203,[.val (.sl 2 (.int .i64)) [], .val (.int .i64) []],[.val (.int .i64) [] []],fun n c=>eB n c.1 c.2.1⟩
def Wj:Hint:=⟨0,[],[(0,[0,1,7,8],[])],[],[],[],[],[],[]⟩
theorem abn:gT T Wj Tryz.f203 Qy:=by intro n c; kernel_rfl
theorem acC [Fr] (n:Nat):aj Tryz.prog n Qy:=ak mixed aK Tryz.func203 (by kernel_rfl) (hi:=Wj) aD abn
def aV (n:Nat) (a0:List Int) (a1:Int):Option (Bool×Unit):=((eB n a0 a1).bind fun r1=>some (decide (r1.1≥(0:Int)),()))
def Ov:Entry:=⟨175,[.val (.sl 2 (.int .i64)) [], .val (.int .i64) []],[.val .bool [] []],fun n c=>aV n c.1 c.2.1⟩
def Wl:Hint:=⟨0,[],[],[],[(203,some 7,Qy)],[],[],[],[]⟩
theorem abo:gT T Wl Tryz.f175 Ov:=by intro n c; kernel_rfl
theorem Zl [Fr] (n:Nat):aj Tryz.prog n Ov:=ak mixed aK Tryz.func175 (by kernel_rfl) (hi:=Wl) (aa (acC n) aD) abo
def mG (n:Nat) (a0:dQ) (a1:iw):Option ((List Int)×dQ×Unit):=(rounds (fun L1 (v1:Int×Int×dQ×iw×(List Int)×Unit)=>(if decide (v1.2.1<v1.1)=true then (if aI v1.2.1 v1.2.2.1.2.2.2.1.length then ((aV n v1.2.2.2.1.2.2.2.1 ((v1.2.2.1.2.2.2.1.getD v1.2.1.toNat kG).1)).bind fun r2=>(if (!r2.1)=true then L1 (v1.1,IntKind.i64.wrap (v1.2.1+(1:Int)),v1.2.2.1,v1.2.2.2.1,v1.2.2.2.2.1,()) else (if (v1.2.2.2.2.1.length+[(v1.2.2.1.2.2.2.1.getD v1.2.1.toNat kG).1].length) * 8≤140737488355328 then (if decide (v1.2.2.2.1.2.2.2.2.1=(1:Int))=true then L1 (v1.1,IntKind.i64.wrap (v1.2.1+(1:Int)),(v1.2.2.1.1,v1.2.2.1.2.1,v1.2.2.1.2.2.1,(iR v1.2.2.1.2.2.2.1 v1.2.1.toNat kG fun z1=>(z1.1,v1.2.2.2.1.2.2.2.2.2.1,z1.2.2)),v1.2.2.1.2.2.2.2),v1.2.2.2.1,v1.2.2.2.2.1++[(v1.2.2.1.2.2.2.1.getD v1.2.1.toNat kG).1],()) else (if decide (v1.2.2.2.1.2.2.2.2.1=(2:Int))=true then L1 (v1.1,IntKind.i64.wrap (v1.2.1+(1:Int)),(v1.2.2.1.1,v1.2.2.1.2.1,v1.2.2.1.2.2.1,(iR v1.2.2.1.2.2.2.1 v1.2.1.toNat kG fun z1=>(z1.1,IntKind.i64.wrap ((BitVec.ofInt (IntKind.bits .i64) (((v1.2.2.1.2.2.2.1.getD v1.2.1.toNat kG).2).1) ||| BitVec.ofInt (IntKind.bits .i64) v1.2.2.2.1.2.2.2.2.2.1).toNat),z1.2.2)),v1.2.2.1.2.2.2.2),v1.2.2.2.1,v1.2.2.2.2.1++[(v1.2.2.1.2.2.2.1.getD v1.2.1.toNat kG).1],()) else L1 (v1.1,IntKind.i64.wrap (v1.2.1+(1:Int)),(v1.2.2.1.1,v1.2.2.1.2.1,v1.2.2.1.2.2.1,(iR v1.2.2.1.2.2.2.1 v1.2.1.toNat kG fun z1=>(z1.1,IntKind.i64.wrap ((BitVec.ofInt (IntKind.bits .i64) (((v1.2.2.1.2.2.2.1.getD v1.2.1.toNat kG).2).1) &&& ~~~ BitVec.ofInt (IntKind.bits .i64) v1.2.2.2.1.2.2.2.2.2.1).toNat),z1.2.2)),v1.2.2.1.2.2.2.2),v1.2.2.2.1,v1.2.2.2.2.1++[(v1.2.2.1.2.2.2.1.getD v1.2.1.toNat kG).1],()))) else none))) else none) else some (v1.2.2.2.2.1,v1.2.2.1,()))) n ((a0.2.2.2.1.length:Int),(0:Int),a0,a1,([]:List Int),()))
def ab8:Entry:=⟨146,[.rw nL [5,103] [103] [], .val iG []],[.own (.sl 2 (.int .i64)) [2] [] []],fun n c=>mG n c.1 c.2.1⟩
def afw:Hint:=⟨0,[20],[(0,[0,3,5,13,14],[0,98,258])],[],[(175,some 29,Ov)],[],[],[],[]⟩
theorem ai3:gT T afw Tryz.f146 ab8:=by intro n c; kernel_rfl
theorem aj8 [Fr] (n:Nat):aj Tryz.prog n ab8:=ak mixed aK Tryz.func146 (by kernel_rfl) (hi:=afw) (aa (Zl n) aD) ai3
namespace IdP
def YT:VM:={ ty:=[(2,(.int .i64)),(3,(.int .i64)),(4, .bool),(5,(.int .u8)),(6,(.int .u8)),(7,YY),(8,YY),(9, .str),(10, .str),(11, .str),(12,(.int .u64)),(13,YW),(14,YW),(21,(.int .i32)),(22,(.sl 5 (.int .u8))),(23,(.sl 134 YZ)),(24,QG),(25,QG),(26,Uj),(27,Uj),(29,(.sl 2 (.int .i64))),(30,(.sl 100 Ht)),(31,OI),(32,OI),(33,QI),(34,QI),(35,Uk),(36,Uk),(47,iG),(48,iG),(52,Ui),(53,Ui),(55,(.sl 48 iG)),(56,KZ),(57,KZ),(65,iG),(98,(.sl 103 K3)),(99,Ht),(100,Ht),(102,K3),(103,K3),(109,(.sl 22 (.sl 5 (.int .u8)))),(132,(.sl 199 K3)),(133,YZ),(134,YZ),(141,I5),(142,I5),(145,YX),(146,YX),(150,(.sl 9 .str)),(167,Uh),(168,Uh),(199,K3),(203,Ul),(204,Ul),(226,(.int .u32)),(227,(.int .u8)),(228,(.int .u8)),(231,(.int .i32)),(232,(.int .i32))],bytes:=[(2,8),(3,8),(4,1),(5,1),(6,1),(7,24),(8,24),(9,16),(10,16),(11,16),(12,8),(13,24),(14,24),(21,4),(22,24),(23,24),(24,32),(25,32),(26,88),(27,88),(29,24),(30,24),(31,32),(32,32),(33,88),(34,88),(35,120),(36,120),(47,112),(48,112),(52,64),(53,64),(55,24),(56,40),(57,40),(65,112),(98,24),(99,56),(100,56),(102,48),(103,48),(109,24),(132,24),(133,56),(134,56),(141,128),(142,128),(145,32),(146,32),(150,24),(167,32),(168,32),(199,48),(203,40),(204,40),(226,4),(227,1),(228,1),(231,4),(232,4)],ptr:=[15,16,17,74,87,118,136,161,166,187,206,230],ids:=true }
def T:jd:=YT.tab
theorem aK:Cz Tryz.prog YT=true:=by kernel_rfl
theorem mixed:Tryz.prog.follows .mixedOrders=true:=by kernel_rfl
def fV (n:Nat) (a0:Zt9):Option ((List Int)×Zt9×Unit):=(rounds (fun L1 (v1:(List M6)×Int×Int×Zt9×(List Int)×(List M6)×Unit)=>(if decide (v1.2.2.1<v1.2.1)=true then (if aI v1.2.2.1 v1.1.length then (if (!decide ((IntKind.i64.wrap ((BitVec.ofInt (IntKind.bits .i64) (((v1.1.getD v1.2.2.1.toNat M7).2).1) &&& BitVec.ofInt (IntKind.bits .i64) (8:Int)).toNat))=(0:Int)))=true then (if (v1.2.2.2.2.1.length+[(v1.1.getD v1.2.2.1.toNat M7).1].length) * 8≤140737488355328 then L1 (v1.1,v1.2.1,IntKind.i64.wrap (v1.2.2.1+(1:Int)),v1.2.2.2.1,v1.2.2.2.2.1++[(v1.1.getD v1.2.2.1.toNat M7).1],v1.2.2.2.2.2.1,()) else none) else (if (v1.2.2.2.2.2.1.length+[v1.1.getD v1.2.2.1.toNat M7].length) * 48≤140737488355328 then L1 (v1.1,v1.2.1,IntKind.i64.wrap (v1.2.2.1+(1:Int)),v1.2.2.2.1,v1.2.2.2.2.1,v1.2.2.2.2.2.1++[v1.1.getD v1.2.2.1.toNat M7],()) else none)) else none) else some (v1.2.2.2.2.1,(v1.2.2.2.1.1,v1.2.2.2.1.2.1,v1.2.2.2.1.2.2.1,v1.2.2.2.2.2.1,v1.2.2.2.1.2.2.2.2),()))) n (a0.2.2.2.1,(a0.2.2.2.1.length:Int),(0:Int),a0,([]:List Int),([]:List M6),()))
def V9:Entry:=⟨147,[.rw Ht [5,103] [4294967295] [103]],[.own (.sl 2 (.int .i64)) [2] [] []],fun n c=>fV n c.1⟩
def afx:Hint:=⟨0,[],[(0,[0,3,4,12,13,14],[0,226,258])],[],[],[],[],[],[]⟩
theorem ai4:gT T afx Tryz.f147 V9:=by intro n c; kernel_rfl
theorem acD [Fr] (n:Nat):aj Tryz.prog n V9:=ak mixed aK Tryz.func147 (by kernel_rfl) (hi:=afx) aD ai4
end IdP
def fV (n:Nat) (a0:List Int×Int×Int×List jZ.Ai×Unit):Option (List Int×(List Int×Int×Int×List jZ.Ai×Unit)×Unit):=jZ.ze n a0
def aa9:List dD:=[.rw nL [5,103] [4294967295,5] [103,4294967294]]
def ahx:List mY:=[.own (.sl 2 (.int .i64)) [2] [] []]
def V9:Entry:=⟨147,aa9,ahx,fun n (c:Cont (kin aa9))=>fV n c.1⟩
def aco (x:M6):Bool:=!decide ((IntKind.i64.wrap ((BitVec.ofInt (IntKind.bits .i64) (x.2.1) &&& BitVec.ofInt (IntKind.bits .i64) (8:Int)).toNat))=(0:Int))
theorem ajl {n:Nat} {nm:List Int} {w h:Int} {xs:List M6} (hc:xs.length * 48≤140737488355328) (hn:xs.length<n):IdP.fV n (nm,w,h,xs,())=some ((xs.filter aco).map (·.1),(nm,w,h,xs.filter (fun x=>!aco x),()),()):=
 SL.Vr (xs:=xs) (p:=aco) (g:=(·.1)) (d:=M7) (sc:=8) (sa:=48) (a0:=(nm,w,h,xs,()))
  (fin:=fun a cs ks=>(cs,(a.1,a.2.1,a.2.2.1,ks,a.2.2.2.2),())) (fun _ _=>rfl) (by have:=hc; omega) (by have:=hc; omega) hc hn
theorem acD [Fr] (n:Nat):aj Tryz.prog n V9:=jZ.NT (e:=5) (m:=103) (i:=2) (FI:=fun n c=>IdP.fV n c.1) (fun fr=>IdP.acD n) (fun nm w h xs hc hn=>ajl hc hn)
def dZ (n:Nat) (a0:List rA):Option (Int×Unit):=some ((a0.length:Int),())
def ab9:Entry:=⟨176,[.val (.sl 103 zA) []],[.val (.int .i64) [] []],fun n c=>dZ n c.1⟩
def afy:Hint:=⟨0,[],[],[],[],[],[],[],[]⟩
theorem ai5:gT T afy Tryz.f176 ab9:=by intro n c; kernel_rfl
theorem aj9 [Fr] (n:Nat):aj Tryz.prog n ab9:=ak mixed aK Tryz.func176 (by kernel_rfl) (hi:=afy) aD ai5
def jT (n:Nat) (a0:dQ) (a1:rA):Option (Int×dQ×Unit):=((dP n a1.2.2.2.1).bind fun r1=>(if [(a0.2.2.1,a1.2.1,a1.2.2.1,r1.1,())].length=1∧(a0.2.2.2.1.length+1) * 48≤140737488355328 then some (IntKind.i64.wrap ((IntKind.i64.wrap (a0.2.2.1+(1:Int))) - (1:Int)),(a0.1,a0.2.1,IntKind.i64.wrap (a0.2.2.1+(1:Int)),a0.2.2.2.1++[[(a0.2.2.1,a1.2.1,a1.2.2.1,r1.1,())].getD 0 kG],a0.2.2.2.2),()) else none))
def acd:Entry:=⟨145,[.rw nL [5,103] [103,4294967295] [5,103], .val zA [0]],[.val (.int .i64) [] []],fun n c=>jT n c.1 c.2.1⟩
def afz:Hint:=⟨0,[9],[],[],[(98,some 20,V5)],[],[],[],[23]⟩
theorem ai6:gT T afz Tryz.f145 acd:=by intro n c; kernel_rfl
theorem aka [Fr] (n:Nat):aj Tryz.prog n acd:=ak mixed aK Tryz.func145 (by kernel_rfl) (hi:=afz) (aa (acy n) aD) ai6
namespace xk
def YT:VM:={ ty:=[(2,(.int .i64)),(3,(.int .i64)),(4, .bool),(5,(.int .u8)),(6,(.int .u8)),(7,YY),(8,YY),(9, .str),(10, .str),(11, .str),(12,(.int .u64)),(13,YW),(14,YW),(21,(.int .i32)),(22,(.sl 5 (.int .u8))),(23,(.sl 134 YZ)),(24,QG),(25,QG),(26,Uj),(27,Uj),(29,(.sl 2 (.int .i64))),(30,(.sl 100 Ht)),(31,OI),(32,OI),(33,QI),(34,QI),(35,Uk),(36,Uk),(47,iG),(48,iG),(52,Ui),(53,Ui),(55,(.sl 48 iG)),(56,KZ),(57,KZ),(65,iG),(98,(.sl 103 K3)),(99,Ht),(100,Ht),(102,K3),(103,K3),(109,(.sl 22 (.sl 5 (.int .u8)))),(132,(.sl 199 K3)),(133,YZ),(134,YZ),(141,I5),(142,I5),(145,YX),(146,YX),(150,(.sl 9 .str)),(167,Uh),(168,Uh),(199,K3),(203,Ul),(204,Ul),(226,(.int .u32)),(227,(.int .u8)),(228,(.int .u8)),(231,(.int .i32)),(232,(.int .i32))],bytes:=[(2,8),(3,8),(4,1),(5,1),(6,1),(7,24),(8,24),(9,16),(10,16),(11,16),(12,8),(13,24),(14,24),(21,4),(22,24),(23,24),(24,32),(25,32),(26,88),(27,88),(29,24),(30,24),(31,32),(32,32),(33,88),(34,88),(35,120),(36,120),(47,112),(48,112),(52,64),(53,64),(55,24),(56,40),(57,40),(65,112),(98,24),(99,56),(100,56),(102,48),(103,48),(109,24),(132,24),(133,56),(134,56),(141,128),(142,128),(145,32),(146,32),(150,24),(167,32),(168,32),(199,48),(203,40),(204,40),(226,4),(227,1),(228,1),(231,4),(232,4)],ptr:=[15,16,17,74,87,118,136,161,166,187,206,230],ids:=true }
def T:jd:=YT.tab
theorem aK:Cz Tryz.prog YT=true:=by kernel_rfl
theorem mixed:Tryz.prog.follows .mixedOrders=true:=by kernel_rfl
def eB (n:Nat) (a0:List Int) (a1:Int):Option (Int×Unit):=(rounds (fun L1 (v1:(List Int)×Int×Int×Int×Unit)=>(if decide (v1.2.2.2.1<v1.2.2.1)=true then (if aI v1.2.2.2.1 v1.1.length then (if decide (v1.2.1=(v1.1.getD v1.2.2.2.1.toNat (0:Int)))=true then some (v1.2.2.2.1,()) else L1 (v1.1,v1.2.1,v1.2.2.1,IntKind.i64.wrap (v1.2.2.2.1+(1:Int)),())) else none) else some ((-1:Int),()))) n (a0,a1,(a0.length:Int),(0:Int),()))
def Qy:Entry:=⟨203,[.val (.sl 2 (.int .i64)) [], .val (.int .i64) []],[.val (.int .i64) [] []],fun n c=>eB n c.1 c.2.1⟩
def Wj:Hint:=⟨0,[],[(0,[0,1,7,8],[])],[],[],[],[],[],[]⟩
theorem abn:gT T Wj Tryz.f203 Qy:=by intro n c; kernel_rfl
theorem acC [Fr] (n:Nat):aj Tryz.prog n Qy:=ak mixed aK Tryz.func203 (by kernel_rfl) (hi:=Wj) aD abn
def aV (n:Nat) (a0:List Int) (a1:Int):Option (Bool×Unit):=((eB n a0 a1).bind fun r1=>some (decide (r1.1≥(0:Int)),()))
def Ov:Entry:=⟨175,[.val (.sl 2 (.int .i64)) [], .val (.int .i64) []],[.val .bool [] []],fun n c=>aV n c.1 c.2.1⟩
def Wl:Hint:=⟨0,[],[],[],[(203,some 7,Qy)],[],[],[],[]⟩
theorem abo:gT T Wl Tryz.f175 Ov:=by intro n c; kernel_rfl
theorem Zl [Fr] (n:Nat):aj Tryz.prog n Ov:=ak mixed aK Tryz.func175 (by kernel_rfl) (hi:=Wl) (aa (acC n) aD) abo
def eZ (n:Nat) (a0:M6) (a1:iw):Option (Bool×Unit):=((aV n a1.2.2.2.1 a0.1).bind fun r1=>some (r1.1,()))
def Zf:Entry:=⟨178,[.val K3 [], .ro iG],[.val .bool [] []],fun n c=>eZ n c.1 c.2.1⟩
def afA:Hint:=⟨0,[],[],[],[(175,some 8,Ov)],[],[],[],[]⟩
theorem ai7:gT T afA Tryz.f178 Zf:=by intro n c; kernel_rfl
theorem af4 [Fr] (n:Nat):aj Tryz.prog n Zf:=ak mixed aK Tryz.func178 (by kernel_rfl) (hi:=afA) (aa (Zl n) aD) ai7
def aZ (n:Nat) (a0:List M6) (Hu:iw):Option (Int×Unit):=(rounds (fun L1 (v1:(List M6)×iw×Int×Int×Unit)=>(if decide (v1.2.2.2.1<v1.2.2.1)=true then (if aI v1.2.2.2.1 v1.1.length then ((eZ n (v1.1.getD v1.2.2.2.1.toNat M7) v1.2.1).bind fun r2=>(if r2.1=true then some (v1.2.2.2.1,()) else L1 (v1.1,v1.2.1,v1.2.2.1,IntKind.i64.wrap (v1.2.2.2.1+(1:Int)),()))) else none) else some ((-1:Int),()))) n (a0,Hu,(a0.length:Int),(0:Int),()))
def ace:Entry:=⟨204,[.val (.sl 103 K3) [], .fn 178 [iG]],[.val (.int .i64) [] []],fun n c=>aZ n c.1 c.2.1⟩
def afB:Hint:=⟨0,[],[(0,[0,1,7,8],[])],[],[(178,some 16,Zf)],[],[],[],[]⟩
theorem ai8:gT T afB Tryz.f204 ace:=by intro n c; kernel_rfl
theorem akc [Fr] (n:Nat):aj Tryz.prog n ace:=ak mixed aK Tryz.func204 (by kernel_rfl) (hi:=afB) (aa (af4 n) aD) ai8
def aF (n:Nat) (a0:List M6) (Hu:iw):Option (Int×(List M6)×Unit):=((aZ n a0 Hu).bind fun r1=>(if decide (r1.1=(-1:Int))=true then some (((a0.length:Nat):Int),a0,()) else (rounds (fun L2 (v2:iw×Int×Int×(List M6)×Unit)=>(if decide (v2.2.2.1<(v2.2.2.2.1.length:Int))=true then (if aI v2.2.2.1 v2.2.2.2.1.length then ((eZ n (v2.2.2.2.1.getD v2.2.2.1.toNat M7) v2.1).bind fun r3=>(if (!r3.1)=true then (if aI v2.2.1 v2.2.2.2.1.length then L2 (v2.1,IntKind.i64.wrap (v2.2.1+(1:Int)),IntKind.i64.wrap (v2.2.2.1+(1:Int)),v2.2.2.2.1.set v2.2.1.toNat (v2.2.2.2.1.getD v2.2.2.1.toNat M7),()) else none) else L2 (v2.1,v2.2.1,IntKind.i64.wrap (v2.2.2.1+(1:Int)),v2.2.2.2.1,()))) else none) else (if 0≤v2.2.1∧v2.2.1≤(v2.2.2.2.1.length:Int)∧(v2.2.2.2.1.length:Int)≤(v2.2.2.2.1.length:Int) then (if 0≤(0:Int)∧(0:Int)≤v2.2.1∧v2.2.1≤((v2.2.2.2.1.take v2.2.1.toNat++List.replicate ((v2.2.2.2.1.length:Int).toNat - v2.2.1.toNat) M7++v2.2.2.2.1.drop ((v2.2.2.2.1.length:Int).toNat)).length:Int) then some (((v2.2.1.toNat:Nat):Int),v2.2.2.2.1.take v2.2.1.toNat++List.replicate ((v2.2.2.2.1.length:Int).toNat - v2.2.1.toNat) M7++v2.2.2.2.1.drop ((v2.2.2.2.1.length:Int).toNat),()) else none) else none))) n (Hu,r1.1,IntKind.i64.wrap (r1.1+(1:Int)),a0,()))))
def Wd:Entry:=⟨177,[.jC (.sl 103 K3) [5,103] [103], .fn 178 [iG]],[.into 0 []],fun n c=>aF n c.1 c.2.1⟩
def afC:Hint:=⟨0,[],[(0,[0,1,5,6],[0])],[],[(204,some 10,ace),(178,some 28,Zf)],[],[],[38,41],[]⟩
theorem ai9:gT T afC Tryz.f177 Wd:=by intro n c; kernel_rfl
theorem acE [Fr] (n:Nat):aj Tryz.prog n Wd:=ak mixed aK Tryz.func177 (by kernel_rfl) (hi:=afC) (aa (akc n) (aa (af4 n) aD)) ai9
end xk
def aba:List dD:=[.jC (.sl 103 zA) [5,103] [103], .fn 178 [iG]]
def ahy:List mY:=[.into 0 []]
def aF (n:Nat) (a0:List rA) (Hu:iw):Option (Int×List rA×Unit):=mE.FK n a0 Hu
def Wd:Entry:=⟨177,aba,ahy,fun n (c:Cont (kin aba))=>aF n c.1 c.2.1⟩
theorem ajm {n:Nat} {xs:List mE.Zm} {op:mE.OpC} (hx:xs.length≤140737488355328) (hn:xs.length<n) (hb:op.2.2.2.1.length≤140737488355328) (hu:op.2.2.2.1.length<n):xk.aF n xs op=some (mE.GG (0,0,0,0,()) (fun x=>op.2.2.2.1.contains x.1) xs):=by
 have hc:∀x,xk.eZ n x op=some (op.2.2.2.1.contains x.1,()):=fun x=>by
  have h:xk.aV n op.2.2.2.1 x.1=some (op.2.2.2.1.contains x.1,()):=mE.Nt (fun _ _=>rfl) hb hu
  show (xk.aV n op.2.2.2.1 x.1).bind _=_
  rw [h]; rfl
 have hi:xk.aZ n xs op=some (_,()):=mE.JX (p:=fun x=>op.2.2.2.1.contains x.1) (q:=fun c x=>xk.eZ n x c) (d:=(0,0,0,0,())) (fun _ _=>rfl) hc hx hn
 show (xk.aZ n xs op).bind _=_
 rw [hi]
 exact mE.UB (p:=fun x=>op.2.2.2.1.contains x.1) (q:=fun c x=>xk.eZ n x c) (d:=(0,0,0,0,())) (fun _ _=>rfl) hc hx hn
theorem acE [Fr] (n:Nat):aj Tryz.prog n Wd:=mE.K6 (e:=5) (t:=103) (i:=2) (b:=5) (cl:=178) (ow:=[5,103]) (wt:=[103]) (tX:=[103]) (FI:=xk.aF) (by simp [K.tys,aL]) (by simp [K.tys,aL]) (by simp [K.tys,aL]) (fun fr=>xk.acE n) (by simp [nE,aL]) (fun xs op h1 h2 h3 h4=>ajm h1 h2 h3 h4)
def kK (n:Nat) (a0:fI) (a1:Int) (a2:iw):Option ((List Int)×Int×fI×Unit):=((jg n a0 a2.2.2.1).bind fun r1=>(if decide (r1.1<(0:Int))=true then some (([]:List Int),(4:Int),a0,()) else (if decide (a2.1=(6:Int))=true then (if decide (r1.1=a1)=true then some (([]:List Int),(9:Int),a0,()) else (if aI a1 a0.2.1.length then (rounds (fun L2 (v2:Int×Int×(List rA)×Int×Int×fI×iw×(List rA)×Unit)=>(if decide (v2.2.2.2.2.1<v2.2.2.2.1)=true then (if aI v2.2.2.2.2.1 v2.2.2.1.length then ((aV n v2.2.2.2.2.2.2.1.2.2.2.1 ((v2.2.2.1.getD v2.2.2.2.2.1.toNat kG).1)).bind fun r3=>(if r3.1=true then (if (v2.2.2.2.2.2.2.2.1.length+[v2.2.2.1.getD v2.2.2.2.2.1.toNat kG].length) * 48≤140737488355328 then L2 (v2.1,v2.2.1,v2.2.2.1,v2.2.2.2.1,IntKind.i64.wrap (v2.2.2.2.2.1+(1:Int)),v2.2.2.2.2.2.1,v2.2.2.2.2.2.2.1,v2.2.2.2.2.2.2.2.1++[v2.2.2.1.getD v2.2.2.2.2.1.toNat kG],()) else none) else L2 (v2.1,v2.2.1,v2.2.2.1,v2.2.2.2.1,IntKind.i64.wrap (v2.2.2.2.2.1+(1:Int)),v2.2.2.2.2.2.1,v2.2.2.2.2.2.2.1,v2.2.2.2.2.2.2.2.1,()))) else none) else (if aI v2.2.1 v2.2.2.2.2.2.1.2.1.length then (if decide ((IntKind.i64.wrap (((((((v2.2.2.2.2.2.1.2.1.getD v2.2.1.toNat dF).2).2).2).1).length:Int)+(v2.2.2.2.2.2.2.2.1.length:Int)))>(6:Int))=true then some (([]:List Int),(10:Int),v2.2.2.2.2.2.1,()) else ((dZ n v2.2.2.2.2.2.2.2.1).bind fun r4=>(if decide ((IntKind.i64.wrap (((((v2.2.2.2.2.2.1.2.1.getD v2.2.1.toNat dF).2).2).1)+r4.1))>(1000:Int))=true then some (([]:List Int),(10:Int),v2.2.2.2.2.2.1,()) else (rounds (fun L5 (v5:Int×Int×Int×Int×fI×iw×(List rA)×(List Int)×Unit)=>(if decide (v5.2.2.2.1<v5.2.2.1)=true then (if aI v5.2.2.2.1 v5.2.2.2.2.2.2.1.length then ((jT n (v5.2.2.2.2.1.2.1.getD v5.2.1.toNat dF) (v5.2.2.2.2.2.2.1.getD v5.2.2.2.1.toNat kG)).bind fun r6=>(if (v5.2.2.2.2.2.2.2.1.length+[r6.1].length) * 8≤140737488355328 then L5 (v5.1,v5.2.1,v5.2.2.1,IntKind.i64.wrap (v5.2.2.2.1+(1:Int)),(v5.2.2.2.2.1.1,v5.2.2.2.2.1.2.1.set v5.2.1.toNat r6.2.1,v5.2.2.2.2.1.2.2),v5.2.2.2.2.2.1,v5.2.2.2.2.2.2.1,v5.2.2.2.2.2.2.2.1++[r6.1],()) else none)) else none) else (if decide (v5.2.2.2.2.2.1.1=(6:Int))=true then (if aI v5.1 v5.2.2.2.2.1.2.1.length then ((aF n (((((v5.2.2.2.2.1.2.1.getD v5.1.toNat dF).2).2).2).1) v5.2.2.2.2.2.1).bind fun r7=>(if ([v5.1]:List Int)=([v5.1]:List Int) then some (v5.2.2.2.2.2.2.2.1,(0:Int),(v5.2.2.2.2.1.1,(iR (iR v5.2.2.2.2.1.2.1 v5.1.toNat dF fun z1=>(z1.1,z1.2.1,z1.2.2.1,r7.2.1,z1.2.2.2.2)) v5.1.toNat dF fun z1=>(z1.1,z1.2.1,z1.2.2.1,((((((iR v5.2.2.2.2.1.2.1 v5.1.toNat dF fun z1=>(z1.1,z1.2.1,z1.2.2.1,r7.2.1,z1.2.2.2.2)).getD v5.1.toNat dF).2).2).2).1).take r7.1.toNat,z1.2.2.2.2)),v5.2.2.2.2.1.2.2),()) else none)) else none) else some (v5.2.2.2.2.2.2.2.1,(0:Int),v5.2.2.2.2.1,())))) n (v2.1,v2.2.1,(v2.2.2.2.2.2.2.2.1.length:Int),(0:Int),v2.2.2.2.2.2.1,v2.2.2.2.2.2.2.1,v2.2.2.2.2.2.2.2.1,([]:List Int),()))))) else none))) n (a1,r1.1,((((a0.2.1.getD a1.toNat dF).2).2).2).1,((((((a0.2.1.getD a1.toNat dF).2).2).2).1).length:Int),(0:Int),a0,a2,([]:List rA),())) else none)) else (if aI a1 a0.2.1.length then (rounds (fun L8 (v8:Int×Int×(List rA)×Int×Int×fI×iw×(List rA)×Unit)=>(if decide (v8.2.2.2.2.1<v8.2.2.2.1)=true then (if aI v8.2.2.2.2.1 v8.2.2.1.length then ((aV n v8.2.2.2.2.2.2.1.2.2.2.1 ((v8.2.2.1.getD v8.2.2.2.2.1.toNat kG).1)).bind fun r9=>(if r9.1=true then (if (v8.2.2.2.2.2.2.2.1.length+[v8.2.2.1.getD v8.2.2.2.2.1.toNat kG].length) * 48≤140737488355328 then L8 (v8.1,v8.2.1,v8.2.2.1,v8.2.2.2.1,IntKind.i64.wrap (v8.2.2.2.2.1+(1:Int)),v8.2.2.2.2.2.1,v8.2.2.2.2.2.2.1,v8.2.2.2.2.2.2.2.1++[v8.2.2.1.getD v8.2.2.2.2.1.toNat kG],()) else none) else L8 (v8.1,v8.2.1,v8.2.2.1,v8.2.2.2.1,IntKind.i64.wrap (v8.2.2.2.2.1+(1:Int)),v8.2.2.2.2.2.1,v8.2.2.2.2.2.2.1,v8.2.2.2.2.2.2.2.1,()))) else none) else (if aI v8.2.1 v8.2.2.2.2.2.1.2.1.length then (if decide ((IntKind.i64.wrap (((((((v8.2.2.2.2.2.1.2.1.getD v8.2.1.toNat dF).2).2).2).1).length:Int)+(v8.2.2.2.2.2.2.2.1.length:Int)))>(6:Int))=true then some (([]:List Int),(10:Int),v8.2.2.2.2.2.1,()) else ((dZ n v8.2.2.2.2.2.2.2.1).bind fun NU=>(if decide ((IntKind.i64.wrap (((((v8.2.2.2.2.2.1.2.1.getD v8.2.1.toNat dF).2).2).1)+NU.1))>(1000:Int))=true then some (([]:List Int),(10:Int),v8.2.2.2.2.2.1,()) else (rounds (fun L11 (v11:Int×Int×Int×Int×fI×iw×(List rA)×(List Int)×Unit)=>(if decide (v11.2.2.2.1<v11.2.2.1)=true then (if aI v11.2.2.2.1 v11.2.2.2.2.2.2.1.length then ((jT n (v11.2.2.2.2.1.2.1.getD v11.2.1.toNat dF) (v11.2.2.2.2.2.2.1.getD v11.2.2.2.1.toNat kG)).bind fun Km=>(if (v11.2.2.2.2.2.2.2.1.length+[Km.1].length) * 8≤140737488355328 then L11 (v11.1,v11.2.1,v11.2.2.1,IntKind.i64.wrap (v11.2.2.2.1+(1:Int)),(v11.2.2.2.2.1.1,v11.2.2.2.2.1.2.1.set v11.2.1.toNat Km.2.1,v11.2.2.2.2.1.2.2),v11.2.2.2.2.2.1,v11.2.2.2.2.2.2.1,v11.2.2.2.2.2.2.2.1++[Km.1],()) else none)) else none) else (if decide (v11.2.2.2.2.2.1.1=(6:Int))=true then (if aI v11.1 v11.2.2.2.2.1.2.1.length then ((aF n (((((v11.2.2.2.2.1.2.1.getD v11.1.toNat dF).2).2).2).1) v11.2.2.2.2.2.1).bind fun Oj=>(if ([v11.1]:List Int)=([v11.1]:List Int) then some (v11.2.2.2.2.2.2.2.1,(0:Int),(v11.2.2.2.2.1.1,(iR (iR v11.2.2.2.2.1.2.1 v11.1.toNat dF fun z1=>(z1.1,z1.2.1,z1.2.2.1,Oj.2.1,z1.2.2.2.2)) v11.1.toNat dF fun z1=>(z1.1,z1.2.1,z1.2.2.1,((((((iR v11.2.2.2.2.1.2.1 v11.1.toNat dF fun z1=>(z1.1,z1.2.1,z1.2.2.1,Oj.2.1,z1.2.2.2.2)).getD v11.1.toNat dF).2).2).2).1).take Oj.1.toNat,z1.2.2.2.2)),v11.2.2.2.2.1.2.2),()) else none)) else none) else some (v11.2.2.2.2.2.2.2.1,(0:Int),v11.2.2.2.2.1,())))) n (v8.1,v8.2.1,(v8.2.2.2.2.2.2.2.1.length:Int),(0:Int),v8.2.2.2.2.2.1,v8.2.2.2.2.2.2.1,v8.2.2.2.2.2.2.2.1,([]:List Int),()))))) else none))) n (a1,r1.1,((((a0.2.1.getD a1.toNat dF).2).2).2).1,((((((a0.2.1.getD a1.toNat dF).2).2).2).1).length:Int),(0:Int),a0,a2,([]:List rA),())) else none))))
def acf:Entry:=⟨148,[.rw qy [5,100,103] [5,100,103,4294967295] [5,103], .val (.int .i64) [], .val iG []],[.own (.sl 2 (.int .i64)) [2] [] [], .val (.int .i64) [] []],fun n c=>kK n c.1 c.2.1 c.2.2.1⟩
def afD:Hint:=⟨0,[62,104,111],[(1,[0,1,5,8,9,43,44,45],[0,162,1122]),(3,[0,1,5,12,13,85,86,87],[0,162,1122,2690])],[(35,[5])],[(143,some 22,V7),(175,some 53,Ov),(176,some 80,ab9),(145,some 94,acd),(177,some 113,Wd)],[],[(2245,[0])],[],[]⟩
theorem aja:gT T afD Tryz.f148 acf:=by intro n c; kernel_rfl
theorem ake [Fr] (n:Nat):aj Tryz.prog n acf:=ak mixed aK Tryz.func148 (by kernel_rfl) (hi:=afD) (aa (acA n) (aa (Zl n) (aa (aj9 n) (aa (aka n) (aa (acE n) aD))))) aja
def mH (n:Nat) (a0:fI) (a1:iw):Option ((List Int)×Int×fI×Unit):=(if decide (a1.1=(1:Int))=true then ((nU n a0 a1.2.1).bind fun r1=>some (([]:List Int),r1.1,r1.2.1,())) else ((jg n a0 a1.2.1).bind fun r2=>(if decide (r2.1<(0:Int))=true then some (([]:List Int),(4:Int),a0,()) else (if aI r2.1 a0.2.1.length then (if decide (a1.1=(2:Int))=true then ((bO n a0.2.1 r2.1 (IntKind.i64.wrap (r2.1+(1:Int)))).bind fun r3=>(if ([]:List Int)=([]:List Int) then some (([]:List Int),(0:Int),(a0.1,r3.2.1.take r3.1.toNat,a0.2.2),()) else none)) else (if decide (a1.1=(3:Int))=true then (if decide (((((((a0.2.1.getD r2.1.toNat dF).2).2).2).1).length:Int)=(6:Int))=true then some (([]:List Int),(10:Int),a0,()) else (if decide (((((a0.2.1.getD r2.1.toNat dF).2).2).1)=(1000:Int))=true then some (([]:List Int),(10:Int),a0,()) else ((sw n (a0.2.1.getD r2.1.toNat dF) ((0:Int),a1.2.2.2.2.2.1,a1.2.2.2.2.2.2.1,a1.2.2.2.2.2.2.2.1,())).bind fun r4=>some ([r4.1],(0:Int),(a0.1,a0.2.1.set r2.1.toNat r4.2.1,a0.2.2),())))) else (if decide (a1.1=(4:Int))=true then ((mG n (a0.2.1.getD r2.1.toNat dF) a1).bind fun r5=>some (r5.1,(0:Int),(a0.1,a0.2.1.set r2.1.toNat r5.2.1,a0.2.2),())) else (if decide (a1.1=(7:Int))=true then ((fV n (a0.2.1.getD r2.1.toNat dF)).bind fun r6=>some (r6.1,(0:Int),(a0.1,a0.2.1.set r2.1.toNat r6.2.1,a0.2.2),())) else ((kK n a0 r2.1 a1).bind fun r7=>some (r7.1,r7.2.1,r7.2.2.1,())))))) else none))))
def acg:Entry:=⟨109,[.rw qy [5,100,103] [5,100,103,4294967295] [5,100,103,4294967294], .val iG []],[.own (.sl 2 (.int .i64)) [2] [] [], .val (.int .i64) [] []],fun n c=>mH n c.1 c.2.1⟩
def afE:Hint:=⟨0,[26,37],[],[],[(142,some 14,ab6),(143,some 20,V7),(144,some 41,V8),(145,some 67,ab7),(146,some 73,ab8),(147,some 77,V9),(148,some 81,acf)],[],[],[],[]⟩
theorem ajb:gT T afE Tryz.f109 acg:=by intro n c; kernel_rfl
theorem akf [Fr] (n:Nat):aj Tryz.prog n acg:=ak mixed aK Tryz.func109 (by kernel_rfl) (hi:=afE) (aa (aj6 n) (aa (acA n) (aa (acB n) (aa (aj7 n) (aa (aj8 n) (aa (acD n) (aa (ake n) aD))))))) ajb
def sD (n:Nat) (a0:fI) (a1:iw):Option (FV×Unit):=((oU n a1).bind fun r1=>(if (!decide (r1.1=(0:Int)))=true then some ((r1.1,([]:List Int),OL,()),()) else ((jh n a0).bind fun r2=>((mH n r2.1 a1).bind fun r3=>(if (!decide (r3.2.1=(0:Int)))=true then some ((r3.2.1,([]:List Int),OL,()),()) else some (((0:Int),r3.1,r3.2.2.1,()),()))))))
def ach:Entry:=⟨74,[.val qy [], .val iG []],[.own M4 [2,5,100,103] [] []],fun n c=>sD n c.1 c.2.1⟩
def afF:Hint:=⟨0,[27],[],[],[(108,some 10,Zd),(67,some 16,V6),(109,some 19,acg)],[],[],[],[]⟩
theorem ajc:gT T afF Tryz.f74 ach:=by intro n c; kernel_rfl
theorem akg [Fr] (n:Nat):aj Tryz.prog n ach:=ak mixed aK Tryz.func74 (by kernel_rfl) (hi:=afF) (aa (af2 n) (aa (acz n) (aa (akf n) aD))) ajc
def nG (n:Nat) (a0:fI) (a1:List iw):Option (FV×Unit):=(if decide ((a1.length:Int)>(60:Int))=true then some (((2:Int),([]:List Int),OL,()),()) else ((iB n a0).bind fun r1=>(if (!decide (r1.1=(0:Int)))=true then some ((r1.1,([]:List Int),OL,()),()) else ((jh n a0).bind fun r2=>(rounds (fun L3 (v3:(List iw)×Int×Int×FV×fI×Unit)=>(if decide (v3.2.2.1<v3.2.1)=true then (if aI v3.2.2.1 v3.1.length then ((sD n v3.2.2.2.2.1 (v3.1.getD v3.2.2.1.toNat Ey)).bind fun r4=>(if (!decide (r4.1.1=(0:Int)))=true then some ((r4.1.1,([]:List Int),OL,()),()) else L3 (v3.1,v3.2.1,IntKind.i64.wrap (v3.2.2.1+(1:Int)),v3.2.2.2.1,r4.1.2.2.1,()))) else none) else some (((0:Int),([]:List Int),v3.2.2.2.2.1,()),()))) n (a1,(a1.length:Int),(0:Int),acJ,r2.1,()))))))
def aci:Entry:=⟨29,[.val qy [], .val (.sl 48 iG) []],[.own M4 [2,5,100,103] [] []],fun n c=>nG n c.1 c.2.1⟩
def afG:Hint:=⟨0,[38,40],[(0,[4,6,22,23,24],[130,194])],[],[(73,some 15,Zc),(67,some 21,V6),(74,some 30,ach)],[],[],[],[]⟩
theorem ajd:gT T afG Tryz.f29 aci:=by intro n c; kernel_rfl
theorem akh [Fr] (n:Nat):aj Tryz.prog n aci:=ak mixed aK Tryz.func29 (by kernel_rfl) (hi:=afG) (aa (af1 n) (aa (acz n) (aa (akg n) aD))) ajd
def gV (n:Nat) (a0:List Int) (a1:List Int):Option (Bool×Unit):=(if (!decide ((a0.length:Int)=(a1.length:Int)))=true then some (false,()) else (rounds (fun L1 (v1:(List Int)×(List Int)×Int×Int×Unit)=>(if decide (v1.2.2.2.1<v1.2.2.1)=true then (if aI v1.2.2.2.1 v1.1.length then (if aI v1.2.2.2.1 v1.2.1.length then (if (!decide ((v1.1.getD v1.2.2.2.1.toNat (0:Int))=(v1.2.1.getD v1.2.2.2.1.toNat (0:Int))))=true then some (false,()) else L1 (v1.1,v1.2.1,v1.2.2.1,IntKind.i64.wrap (v1.2.2.2.1+(1:Int)),())) else none) else none) else some (true,()))) n (a0,a1,(a0.length:Int),(0:Int),())))
def acj:Entry:=⟨111,[.val (.sl 5 (.int .u8)) [], .val (.sl 5 (.int .u8)) []],[.val .bool [] []],fun n c=>gV n c.1 c.2.1⟩
def afH:Hint:=⟨0,[],[(0,[0,1,12,13],[])],[],[],[],[],[],[]⟩
theorem aje:gT T afH Tryz.f111 acj:=by intro n c; kernel_rfl
theorem aki [Fr] (n:Nat):aj Tryz.prog n acj:=ak mixed aK Tryz.func111 (by kernel_rfl) (hi:=afH) aD aje
def kL (n:Nat) (a0:rA) (a1:rA):Option (Bool×Unit):=(if decide (a0.1=a1.1)=true then (if decide (a0.2.1=a1.2.1)=true then (if decide (a0.2.2.1=a1.2.2.1)=true then ((gV n a0.2.2.2.1 a1.2.2.2.1).bind fun r1=>some (r1.1,())) else some (false,())) else some (false,())) else some (false,()))
def ack:Entry:=⟨80,[.val zA [], .val zA []],[.val .bool [] []],fun n c=>kL n c.1 c.2.1⟩
def afI:Hint:=⟨0,[],[],[],[(111,some 29,acj)],[],[],[],[]⟩
theorem ajf:gT T afI Tryz.f80 ack:=by intro n c; kernel_rfl
theorem akj [Fr] (n:Nat):aj Tryz.prog n ack:=ak mixed aK Tryz.func80 (by kernel_rfl) (hi:=afI) (aa (aki n) aD) ajf
def aM (n:Nat) (a0:List rA) (a1:List rA):Option (Bool×Unit):=(if (!decide ((a0.length:Int)=(a1.length:Int)))=true then some (false,()) else (rounds (fun L1 (v1:(List rA)×(List rA)×Int×Int×Unit)=>(if decide (v1.2.2.2.1<v1.2.2.1)=true then (if aI v1.2.2.2.1 v1.2.1.length then (if aI v1.2.2.2.1 v1.1.length then ((kL n (v1.2.1.getD v1.2.2.2.1.toNat kG) (v1.1.getD v1.2.2.2.1.toNat kG)).bind fun r2=>(if (!r2.1)=true then some (false,()) else L1 (v1.1,v1.2.1,v1.2.2.1,IntKind.i64.wrap (v1.2.2.2.1+(1:Int)),()))) else none) else none) else some (true,()))) n (a1,a0,(a0.length:Int),(0:Int),())))
def VP:Entry:=⟨79,[.val (.sl 103 zA) [], .val (.sl 103 zA) [], .fn 80 []],[.val .bool [] []],fun n c=>aM n c.1 c.2.1⟩
def aat:Hint:=⟨0,[],[(0,[1,2,15,16,17],[])],[],[(80,some 29,ack)],[],[],[],[]⟩
theorem ad7:gT T aat Tryz.f79 VP:=by intro n c; kernel_rfl
theorem afL [Fr] (n:Nat):aj Tryz.prog n VP:=ak mixed aK Tryz.func79 (by kernel_rfl) (hi:=aat) (aa (akj n) aD) ad7
def kI (n:Nat) (a0:dQ) (a1:dQ):Option (Bool×Unit):=(if decide (a0.1=a1.1)=true then (if decide (a0.2.1=a1.2.1)=true then (if decide (a0.2.2.1=a1.2.2.1)=true then ((aM n a0.2.2.2.1 a1.2.2.2.1).bind fun r1=>some (r1.1,())) else some (false,())) else some (false,())) else some (false,()))
def VQ:Entry:=⟨78,[.val nL [], .val nL []],[.val .bool [] []],fun n c=>kI n c.1 c.2.1⟩
def aau:Hint:=⟨0,[],[],[],[(79,some 29,VP)],[],[],[],[]⟩
theorem ad8:gT T aau Tryz.f78 VQ:=by intro n c; kernel_rfl
theorem afM [Fr] (n:Nat):aj Tryz.prog n VQ:=ak mixed aK Tryz.func78 (by kernel_rfl) (hi:=aau) (aa (afL n) aD) ad8
def bu (n:Nat) (a0:List dQ) (a1:List dQ):Option (Bool×Unit):=(if (!decide ((a0.length:Int)=(a1.length:Int)))=true then some (false,()) else (rounds (fun L1 (v1:(List dQ)×(List dQ)×Int×Int×Unit)=>(if decide (v1.2.2.2.1<v1.2.2.1)=true then (if aI v1.2.2.2.1 v1.2.1.length then (if aI v1.2.2.2.1 v1.1.length then ((kI n (v1.2.1.getD v1.2.2.2.1.toNat dF) (v1.1.getD v1.2.2.2.1.toNat dF)).bind fun r2=>(if (!r2.1)=true then some (false,()) else L1 (v1.1,v1.2.1,v1.2.2.1,IntKind.i64.wrap (v1.2.2.2.1+(1:Int)),()))) else none) else none) else some (true,()))) n (a1,a0,(a0.length:Int),(0:Int),())))
def VS:Entry:=⟨77,[.val (.sl 100 nL) [], .val (.sl 100 nL) [], .fn 78 []],[.val .bool [] []],fun n c=>bu n c.1 c.2.1⟩
def aav:Hint:=⟨0,[],[(0,[1,2,15,16,17],[])],[],[(78,some 29,VQ)],[],[],[],[]⟩
theorem ad9:gT T aav Tryz.f77 VS:=by intro n c; kernel_rfl
theorem afN [Fr] (n:Nat):aj Tryz.prog n VS:=ak mixed aK Tryz.func77 (by kernel_rfl) (hi:=aav) (aa (afM n) aD) ad9
def jW (n:Nat) (a0:fI) (a1:fI):Option (Bool×Unit):=(if decide (a0.1=a1.1)=true then ((bu n a0.2.1 a1.2.1).bind fun r1=>some (r1.1,())) else some (false,()))
def VT:Entry:=⟨32,[.val qy [], .val qy []],[.val .bool [] []],fun n c=>jW n c.1 c.2.1⟩
def aaw:Hint:=⟨0,[],[],[],[(77,some 15,VS)],[],[],[],[]⟩
theorem aea:gT T aaw Tryz.f32 VT:=by intro n c; kernel_rfl
theorem afO [Fr] (n:Nat):aj Tryz.prog n VT:=ak mixed aK Tryz.func32 (by kernel_rfl) (hi:=aaw) (aa (afN n) aD) aea
def nV (n:Nat) (a0:vV):Option (Int×Unit):=(if decide ((IntKind.i64.wrap ((a0.2.1.length:Int)+(a0.2.2.1.length:Int)))>(8000:Int))=true then some ((2:Int),()) else (if (!a0.1)=true then (if decide ((a0.2.2.1.length:Int)>(0:Int))=true then some ((1:Int),()) else (if (!decide (a0.2.2.2.1.1=(0:Int)))=true then some ((1:Int),()) else (if decide ((a0.2.2.2.1.2.1.length:Int)>(0:Int))=true then some ((1:Int),()) else (if (!a0.1)=true then some ((0:Int),()) else ((iB n a0.2.2.2.1).bind fun r1=>(if (!decide (r1.1=(0:Int)))=true then some (r1.1,()) else ((kY n a0).bind fun r2=>(if (!r2.2.1)=true then some ((5:Int),()) else ((wD n).bind fun r3=>((nG n r3.1 r2.1).bind fun r4=>(if (!decide (r4.1.1=(0:Int)))=true then some ((9:Int),()) else ((jW n r4.1.2.2.1 a0.2.2.2.1).bind fun r5=>(if (!r5.1)=true then some ((9:Int),()) else some ((0:Int),())))))))))))))) else (if (!a0.1)=true then some ((0:Int),()) else ((iB n a0.2.2.2.1).bind fun r6=>(if (!decide (r6.1=(0:Int)))=true then some (r6.1,()) else ((kY n a0).bind fun r7=>(if (!r7.2.1)=true then some ((5:Int),()) else ((wD n).bind fun r8=>((nG n r8.1 r7.1).bind fun r9=>(if (!decide (r9.1.1=(0:Int)))=true then some ((9:Int),()) else ((jW n r9.1.2.2.1 a0.2.2.2.1).bind fun NU=>(if (!NU.1)=true then some ((9:Int),()) else some ((0:Int),())))))))))))))
def VU:Entry:=⟨31,[.val xX []],[.val (.int .i64) [] []],fun n c=>nV n c.1⟩
def aax:Hint:=⟨0,[],[],[],[(73,some 45,Zc),(64,some 51,ab2),(76,some 56,ab3),(29,some 58,aci),(32,some 67,VT)],[],[],[],[]⟩
theorem aeb:gT T aax Tryz.f31 VU:=by intro n c; kernel_rfl
theorem afP [Fr] (n:Nat):aj Tryz.prog n VU:=ak mixed aK Tryz.func31 (by kernel_rfl) (hi:=aax) (aa (af1 n) (aa (aj2 n) (aa (aj3 n) (aa (akh n) (aa (afO n) aD))))) aeb
def uQ (n:Nat) (a0:vV):Option (Int×Unit):=((nV n a0).bind fun r1=>(if (!decide (r1.1=(0:Int)))=true then some (r1.1,()) else (if (!a0.1)=true then some ((9:Int),()) else some ((0:Int),()))))
def VV:Entry:=⟨48,[.val xX []],[.val (.int .i64) [] []],fun n c=>uQ n c.1⟩
def aay:Hint:=⟨0,[],[],[],[(31,some 5,VU)],[],[],[],[]⟩
theorem aec:gT T aay Tryz.f48 VV:=by intro n c; kernel_rfl
theorem afQ [Fr] (n:Nat):aj Tryz.prog n VV:=ak mixed aK Tryz.func48 (by kernel_rfl) (hi:=aay) (aa (afP n) aD) aec
def UT:Go.Shelf.Ren:=⟨fun | 4=>87 | n=>n,fun | 22=>22 | 25=>5 | 3=>3 | 4=>4 | 9=>9 | 20=>20 | 0=>0 | n=>n,fun | n=>n⟩
theorem agp:Go.Proofs.Lays8.n4 Tryz.prog UT:={
 mixed:=by kernel_rfl
 f4:=⟨Tryz.f87.name,by decide,Tryz.func87.trans (congrArg some (by kernel_rfl))⟩
 t0:=Tryz.underlying0
 a0:=Tryz.isAgg0
 z0:=Tryz.sizeOf0
 v0:=Tryz.zeroValue0
 t3:=Tryz.underlying3
 a3:=Tryz.isAgg3
 z3:=Tryz.sizeOf3
 v3:=Tryz.zeroValue3
 t4:=Tryz.underlying4
 a4:=Tryz.isAgg4
 z4:=Tryz.sizeOf4
 v4:=Tryz.zeroValue4
 t9:=Tryz.underlying9
 a9:=Tryz.isAgg9
 z9:=Tryz.sizeOf9
 v9:=Tryz.zeroValue9
 t20:=Tryz.underlying20
 a20:=Tryz.isAgg20
 z20:=Tryz.sizeOf20
 v20:=Tryz.zeroValue20
 t22:=Tryz.underlying22
 a22:=Tryz.isAgg22
 z22:=Tryz.sizeOf22
 v22:=Tryz.zeroValue22 }
def sM (n:Nat) (a0:Int):Option (List Int×Unit):=if 0≤a0∧a0≤1073741824 then some ([],()) else none
def Yx:List dD:=[.into 0 [], .val (.int .i64) []]
def adM:List mY:=[.own (.sl 5 (.int .u8)) [5] [] []]
def aas:Entry:=⟨87,Yx,adM,fun n (c:Cont (kin Yx))=>sM n c.1⟩
theorem afR [Fr] (n:Nat):aj Tryz.prog n aas:=SH.RB (t:=22) (T:=T) agp rfl rfl ((Sm aK).ty 22 _ (by kernel_rfl)) (by kernel_rfl) (Go.MuLone.run_callFunc_enter Tryz.func87 (by kernel_rfl) rfl)
def gG (n:Nat) (a0:List (List Int)):Option ((List Int)×Unit):=(rounds (fun L1 (v1:(List (List Int))×Int×(List (List Int))×Int×Int×Unit)=>(if decide (v1.2.2.2.2.1<v1.2.2.2.1)=true then (if aI v1.2.2.2.2.1 v1.2.2.1.length then (if decide ((IntKind.i64.wrap (v1.2.1+((v1.2.2.1.getD v1.2.2.2.2.1.toNat ([]:List Int)).length:Int)))<(0:Int))=true then none else L1 (v1.1,IntKind.i64.wrap (v1.2.1+((v1.2.2.1.getD v1.2.2.2.2.1.toNat ([]:List Int)).length:Int)),v1.2.2.1,v1.2.2.2.1,IntKind.i64.wrap (v1.2.2.2.2.1+(1:Int)),())) else none) else ((sM n v1.2.1).bind fun r2=>(rounds (fun L3 (v3:(List (List Int))×Int×Int×(List Int)×Unit)=>(if decide (v3.2.2.1<v3.2.1)=true then (if aI v3.2.2.1 v3.1.length then (if (v3.2.2.2.1.length+(v3.1.getD v3.2.2.1.toNat ([]:List Int)).length) * 1≤140737488355328 then L3 (v3.1,v3.2.1,IntKind.i64.wrap (v3.2.2.1+(1:Int)),v3.2.2.2.1++(v3.1.getD v3.2.2.1.toNat ([]:List Int)),()) else none) else none) else some (v3.2.2.2.1,()))) n (v1.1,(v1.1.length:Int),(0:Int),r2.1,()))))) n (a0,(0:Int),a0,(a0.length:Int),(0:Int),()))
def VW:Entry:=⟨51,[.val (.sl 22 (.sl 5 (.int .u8))) []],[.own (.sl 5 (.int .u8)) [5] [] []],fun n c=>gG n c.1⟩
def aaz:Hint:=⟨0,[],[(0,[0,3,9,10,11],[]),(2,[6,25,26,27],[770])],[],[(87,some 24,aas)],[],[],[],[]⟩
theorem aed:gT T aaz Tryz.f51 VW:=by intro n c; kernel_rfl
theorem afS [Fr] (n:Nat):aj Tryz.prog n VW:=ak mixed aK Tryz.func51 (by kernel_rfl) (hi:=aaz) (aa (afR n) aD) aed
def sF (n:Nat) (a0:vV):Option (vV×Unit):=((gG n [a0.2.1,a0.2.2.1]).bind fun r1=>((jh n a0.2.2.2.1).bind fun r2=>some ((true,r1.1,([]:List Int),r2.1,()),())))
def VX:Entry:=⟨69,[.val xX []],[.own xX [5,100,103] [] []],fun n c=>sF n c.1⟩
def aaA:Hint:=⟨0,[],[],[],[(51,some 8,VW),(67,some 11,V6)],[],[],[],[]⟩
theorem aee:gT T aaA Tryz.f69 VX:=by intro n c; kernel_rfl
theorem afT [Fr] (n:Nat):aj Tryz.prog n VX:=ak mixed aK Tryz.func69 (by kernel_rfl) (hi:=aaA) (aa (afS n) (aa (acz n) aD)) aee
def jU (n:Nat) (a0:vV):Option (OJ×Unit):=((uQ n a0).bind fun r1=>(if (!decide (r1.1=(0:Int)))=true then some ((r1.1,([]:List Int),agf,()),()) else ((sF n a0).bind fun r2=>some (((0:Int),([]:List Int),r2.1,()),()))))
def SF:Entry:=⟨21,[.val xX []],[.own M5 [2,5,100,103] [] []],fun n c=>jU n c.1⟩
def aaB:Hint:=⟨0,[],[],[],[(48,some 5,VV),(69,some 11,VX)],[],[],[],[]⟩
theorem aef:gT T aaB Tryz.f21 SF:=by intro n c; kernel_rfl
theorem aaC [Fr] (n:Nat):aj Tryz.prog n SF:=ak mixed aK Tryz.func21 (by kernel_rfl) (hi:=aaB) (aa (afQ n) (aa (afT n) aD)) aef
def qM (n:Nat) (a0:List Int) (a1:List Int):Option (Bool×Unit):=(if (!decide ((a0.length:Int)=(a1.length:Int)))=true then some (false,()) else (rounds (fun L1 (v1:(List Int)×Zt0)=>(if decide (v1.2.2.1<(v1.1.length:Int))=true then (if aI v1.2.2.1 v1.1.length then (if aI v1.2.2.1 v1.2.1.length then (if (!decide ((v1.1.getD v1.2.2.1.toNat (0:Int))=(v1.2.1.getD v1.2.2.1.toNat (0:Int))))=true then some (false,()) else L1 (v1.1,v1.2.1,IntKind.i64.wrap (v1.2.2.1+(1:Int)),())) else none) else none) else some (true,()))) n (a0,a1,(0:Int),())))
def qi:List dD:=[.val (.sl 2 (.int .i64)) [], .val (.sl 2 (.int .i64)) []]
def zR:List mY:=[.val .bool [] []]
def vQ:Entry:=⟨52,qi,zR,fun n (c:Cont (kin qi))=>qM n c.1 c.2.1⟩
def A9:Hint:=⟨0,[],[(0,[0,1,5],[])],[],[],[],[],[],[]⟩
theorem G7:∀n (c:Cont (kin qi)),kE T A9 Tryz.f52 qi zR n c=vQ.F n c:=by intro n c; kernel_rfl
theorem Ho [Fr] (n:Nat):aj Tryz.prog n vQ:=ak mixed aK Tryz.func52 (by kernel_rfl) (hi:=A9) aD G7
def kZ (n:Nat) (a0:List Int) (a1:List Int):Option (Bool×Unit):=(if (!decide ((a0.length:Int)=(a1.length:Int)))=true then some (false,()) else (rounds (fun L1 (v1:(List Int)×Zt0)=>(if decide (v1.2.2.1<(v1.1.length:Int))=true then (if aI v1.2.2.1 v1.1.length then (if aI v1.2.2.1 v1.2.1.length then (if (!decide ((v1.1.getD v1.2.2.1.toNat (0:Int))=(v1.2.1.getD v1.2.2.1.toNat (0:Int))))=true then some (false,()) else L1 (v1.1,v1.2.1,IntKind.i64.wrap (v1.2.2.1+(1:Int)),())) else none) else none) else some (true,()))) n (a0,a1,(0:Int),())))
def qU:List dD:=[.val (.sl 5 (.int .u8)) [], .val (.sl 5 (.int .u8)) []]
def Bl:List mY:=[.val .bool [] []]
def oO:Entry:=⟨53,qU,Bl,fun n (c:Cont (kin qU))=>kZ n c.1 c.2.1⟩
def BF:Hint:=⟨0,[],[(0,[0,1,5],[])],[],[],[],[],[],[]⟩
theorem Iw:∀n (c:Cont (kin qU)),kE T BF Tryz.f53 qU Bl n c=oO.F n c:=by intro n c; kernel_rfl
theorem xm [Fr] (n:Nat):aj Tryz.prog n oO:=ak mixed aK Tryz.func53 (by kernel_rfl) (hi:=BF) aD Iw
def lq (n:Nat) (a0:rA) (a1:rA):Option (Bool×Unit):=(if (!decide (a0.1=a1.1))=true then some (false,()) else (if (!decide (a0.2.1=a1.2.1))=true then some (false,()) else (if (!decide (a0.2.2.1=a1.2.2.1))=true then some (false,()) else ((kZ n a0.2.2.2.1 a1.2.2.2.1).bind fun r1=>(if (!r1.1)=true then some (false,()) else some (true,()))))))
def oF:List dD:=[.val zA [], .val zA []]
def yB:List mY:=[.val .bool [] []]
def uh:Entry:=⟨192,oF,yB,fun n (c:Cont (kin oF))=>lq n c.1 c.2.1⟩
def zh:Hint:=⟨0,[],[],[],[(53,some 24,oO)],[],[],[],[]⟩
theorem Fx:∀n (c:Cont (kin oF)),kE T zh Tryz.f192 oF yB n c=uh.F n c:=by intro n c; kernel_rfl
theorem FL [Fr] (n:Nat):aj Tryz.prog n uh:=ak mixed aK Tryz.func192 (by kernel_rfl) (hi:=zh) (aa (xm n) aD) Fx
def nW (n:Nat) (a0:List rA) (a1:List rA):Option (Bool×Unit):=(if (!decide ((a0.length:Int)=(a1.length:Int)))=true then some (false,()) else (rounds (fun L1 (v1:(List rA)×(List rA)×Int×Unit)=>(if decide (v1.2.2.1<(v1.1.length:Int))=true then (if aI v1.2.2.1 v1.1.length then (if aI v1.2.2.1 v1.2.1.length then ((lq n (v1.1.getD v1.2.2.1.toNat kG) (v1.2.1.getD v1.2.2.1.toNat kG)).bind fun r2=>(if (!r2.1)=true then some (false,()) else L1 (v1.1,v1.2.1,IntKind.i64.wrap (v1.2.2.1+(1:Int)),()))) else none) else none) else some (true,()))) n (a0,a1,(0:Int),())))
def ni:List dD:=[.val (.sl 103 zA) [], .val (.sl 103 zA) []]
def xN:List mY:=[.val .bool [] []]
def rW:Entry:=⟨160,ni,xN,fun n (c:Cont (kin ni))=>nW n c.1 c.2.1⟩
def yf:Hint:=⟨0,[],[(0,[0,1,5],[])],[],[(192,some 25,uh)],[],[],[],[]⟩
theorem Ed:∀n (c:Cont (kin ni)),kE T yf Tryz.f160 ni xN n c=rW.F n c:=by intro n c; kernel_rfl
theorem En [Fr] (n:Nat):aj Tryz.prog n rW:=ak mixed aK Tryz.func160 (by kernel_rfl) (hi:=yf) (aa (FL n) aD) Ed
def sG (n:Nat) (a0:dQ) (a1:dQ):Option (Bool×Unit):=(if (!decide (a0.1=a1.1))=true then some (false,()) else (if (!decide (a0.2.1=a1.2.1))=true then some (false,()) else (if (!decide (a0.2.2.1=a1.2.2.1))=true then some (false,()) else ((nW n a0.2.2.2.1 a1.2.2.2.1).bind fun r1=>(if (!r1.1)=true then some (false,()) else some (true,()))))))
def vg:List dD:=[.val nL [], .val nL []]
def Dr:List mY:=[.val .bool [] []]
def Ab:Entry:=⟨119,vg,Dr,fun n (c:Cont (kin vg))=>sG n c.1 c.2.1⟩
def Ei:Hint:=⟨0,[],[],[],[(160,some 24,rW)],[],[],[],[]⟩
theorem MQ:∀n (c:Cont (kin vg)),kE T Ei Tryz.f119 vg Dr n c=Ab.F n c:=by intro n c; kernel_rfl
theorem MU [Fr] (n:Nat):aj Tryz.prog n Ab:=ak mixed aK Tryz.func119 (by kernel_rfl) (hi:=Ei) (aa (En n) aD) MQ
def uR (n:Nat) (a0:List dQ) (a1:List dQ):Option (Bool×Unit):=(if (!decide ((a0.length:Int)=(a1.length:Int)))=true then some (false,()) else (rounds (fun L1 (v1:(List dQ)×(List dQ)×Int×Unit)=>(if decide (v1.2.2.1<(v1.1.length:Int))=true then (if aI v1.2.2.1 v1.1.length then (if aI v1.2.2.1 v1.2.1.length then ((sG n (v1.1.getD v1.2.2.1.toNat dF) (v1.2.1.getD v1.2.2.1.toNat dF)).bind fun r2=>(if (!r2.1)=true then some (false,()) else L1 (v1.1,v1.2.1,IntKind.i64.wrap (v1.2.2.1+(1:Int)),()))) else none) else none) else some (true,()))) n (a0,a1,(0:Int),())))
def tL:List dD:=[.val (.sl 100 nL) [], .val (.sl 100 nL) []]
def Co:List mY:=[.val .bool [] []]
def yP:Entry:=⟨88,tL,Co,fun n (c:Cont (kin tL))=>uR n c.1 c.2.1⟩
def Di:Hint:=⟨0,[],[(0,[0,1,5],[])],[],[(119,some 25,Ab)],[],[],[],[]⟩
theorem KP:∀n (c:Cont (kin tL)),kE T Di Tryz.f88 tL Co n c=yP.F n c:=by intro n c; kernel_rfl
theorem KV [Fr] (n:Nat):aj Tryz.prog n yP:=ak mixed aK Tryz.func88 (by kernel_rfl) (hi:=Di) (aa (MU n) aD) KP
def sH (n:Nat) (a0:fI) (a1:fI):Option (Bool×Unit):=(if (!decide (a0.1=a1.1))=true then some (false,()) else ((uR n a0.2.1 a1.2.1).bind fun r1=>(if (!r1.1)=true then some (false,()) else some (true,()))))
def qV:List dD:=[.val qy [], .val qy []]
def Bn:List mY:=[.val .bool [] []]
def wX:Entry:=⟨54,qV,Bn,fun n (c:Cont (kin qV))=>sH n c.1 c.2.1⟩
def BG:Hint:=⟨0,[],[],[],[(88,some 14,yP)],[],[],[],[]⟩
theorem Iy:∀n (c:Cont (kin qV)),kE T BG Tryz.f54 qV Bn n c=wX.F n c:=by intro n c; kernel_rfl
theorem IL [Fr] (n:Nat):aj Tryz.prog n wX:=ak mixed aK Tryz.func54 (by kernel_rfl) (hi:=BG) (aa (KV n) aD) Iy
def lu (n:Nat) (a0:vV) (a1:vV):Option (Bool×Unit):=(if (!(a0.1 == a1.1))=true then some (false,()) else ((kZ n a0.2.1 a1.2.1).bind fun r1=>(if (!r1.1)=true then some (false,()) else ((kZ n a0.2.2.1 a1.2.2.1).bind fun r2=>(if (!r2.1)=true then some (false,()) else ((sH n a0.2.2.2.1 a1.2.2.2.1).bind fun r3=>(if (!r3.1)=true then some (false,()) else some (true,()))))))))
def qW:List dD:=[.val xX [], .val xX []]
def Bo:List mY:=[.val .bool [] []]
def rX:Entry:=⟨14,qW,Bo,fun n (c:Cont (kin qW))=>lu n c.1 c.2.1⟩
def BH:Hint:=⟨0,[],[],[],[(53,some 14,oO),(53,some 20,oO),(54,some 26,wX)],[],[],[],[]⟩
theorem Iz:∀n (c:Cont (kin qW)),kE T BH Tryz.f14 qW Bo n c=rX.F n c:=by intro n c; kernel_rfl
theorem BO [Fr] (n:Nat):aj Tryz.prog n rX:=ak mixed aK Tryz.func14 (by kernel_rfl) (hi:=BH) (aa (xm n) (aa (xm n) (aa (IL n) aD))) Iz
def fF (n:Nat) (a0:OJ) (a1:OJ):Option (Bool×Unit):=(if (!decide (a0.1=a1.1))=true then some (false,()) else ((qM n a0.2.1 a1.2.1).bind fun r1=>(if (!r1.1)=true then some (false,()) else ((lu n a0.2.2.1 a1.2.2.1).bind fun r2=>(if (!r2.1)=true then some (false,()) else some (true,()))))))
def jM:List dD:=[.val M5 [], .val M5 []]
def ug:List mY:=[.val .bool [] []]
def ig:Entry:=⟨13,jM,ug,fun n (c:Cont (kin jM))=>fF n c.1 c.2.1⟩
def vB:Hint:=⟨0,[],[],[],[(52,some 14,vQ),(14,some 20,rX)],[],[],[],[]⟩
theorem BC:∀n (c:Cont (kin jM)),kE T vB Tryz.f13 jM ug n c=ig.F n c:=by intro n c; kernel_rfl
theorem o9 [Fr] (n:Nat):aj Tryz.prog n ig:=ak mixed aK Tryz.func13 (by kernel_rfl) (hi:=vB) (aa (Ho n) (aa (BO n) aD)) BC
def ji (n:Nat) (a0:List Int) (a1:Int):Option (Int×(List Int)×Unit):=(rounds (fun L1 (v1:Int×Int×(List Int)×Unit)=>(if decide (v1.2.1<(v1.2.2.1.length:Int))=true then (if aI v1.2.1 v1.2.2.1.length then L1 (IntKind.i64.wrap (v1.1+(1:Int)),IntKind.i64.wrap (v1.2.1+(1:Int)),v1.2.2.1.set v1.2.1.toNat (IntKind.u8.wrap v1.1),()) else none) else some (v1.1,v1.2.2.1,()))) n (a1,(0:Int),a0,()))
def oJ:List dD:=[.jC (.sl 5 (.int .u8)) [5] [5], .val (.int .i64) []]
def yF:List mY:=[.val (.int .i64) [] []]
def kU:Entry:=⟨55,oJ,yF,fun n (c:Cont (kin oJ))=>ji n c.1 c.2.1⟩
def zn:Hint:=⟨0,[],[(0,[0,1,5],[0])],[],[],[],[],[],[]⟩
theorem FC:∀n (c:Cont (kin oJ)),kE T zn Tryz.f55 oJ yF n c=kU.F n c:=by intro n c; kernel_rfl
theorem uA [Fr] (n:Nat):aj Tryz.prog n kU:=ak mixed aK Tryz.func55 (by kernel_rfl) (hi:=zn) aD FC
def iE (n:Nat) (a0:Int):Option ((List Int)×Unit):=(if decide (a0≤(0:Int))=true then some ([109,48],()) else (rounds (fun L1 (v1:Int×(List Int)×Unit)=>(if decide (v1.1>(0:Int))=true then (if (10:Int)≠0 then (if [IntKind.u8.wrap (IntKind.i64.wrap ((48:Int)+(v1.1.tmod (10:Int))))].length+v1.2.1.length≤9223372036854775807 then (if (10:Int)≠0 then L1 (IntKind.i64.wrap (v1.1.tdiv (10:Int)),[IntKind.u8.wrap (IntKind.i64.wrap ((48:Int)+(v1.1.tmod (10:Int))))]++v1.2.1,()) else none) else none) else none) else (if [109].length+v1.2.1.length≤9223372036854775807 then some ([109]++v1.2.1,()) else none))) n (a0,([]:List Int),())))
def qm:List dD:=[.val (.int .i64) []]
def zU:List mY:=[.val .str [] []]
def qL:Entry:=⟨120,qm,zU,fun n (c:Cont (kin qm))=>iE n c.1⟩
def Bc:Hint:=⟨0,[],[(0,[0,3],[])],[],[],[],[],[],[]⟩
theorem He:∀n (c:Cont (kin qm)),kE T Bc Tryz.f120 qm zU n c=qL.F n c:=by intro n c; kernel_rfl
theorem Bd [Fr] (n:Nat):aj Tryz.prog n qL:=ak mixed aK Tryz.func120 (by kernel_rfl) (hi:=Bc) aD He
def kP (n:Nat) (a0:List rA) (a1:Int):Option (Int×(List rA)×Unit):=(rounds (fun L1 (v1:Int×Int×(List rA)×Unit)=>(if decide (v1.2.1<(v1.2.2.1.length:Int))=true then (if aI v1.2.1 v1.2.2.1.length then (if aI v1.2.1 (iR v1.2.2.1 v1.2.1.toNat kG fun z1=>(v1.1,z1.2)).length then (if aI v1.2.1 (iR (iR v1.2.2.1 v1.2.1.toNat kG fun z1=>(v1.1,z1.2)) v1.2.1.toNat kG fun z1=>(z1.1,IntKind.i64.wrap (v1.1+(1:Int)),z1.2.2)).length then (if aI v1.2.1 (iR (iR (iR v1.2.2.1 v1.2.1.toNat kG fun z1=>(v1.1,z1.2)) v1.2.1.toNat kG fun z1=>(z1.1,IntKind.i64.wrap (v1.1+(1:Int)),z1.2.2)) v1.2.1.toNat kG fun z1=>(z1.1,z1.2.1,IntKind.i64.wrap ((IntKind.i64.wrap (v1.1+(1:Int)))+(1:Int)),z1.2.2.2)).length then ((ji n ((((((iR (iR (iR v1.2.2.1 v1.2.1.toNat kG fun z1=>(v1.1,z1.2)) v1.2.1.toNat kG fun z1=>(z1.1,IntKind.i64.wrap (v1.1+(1:Int)),z1.2.2)) v1.2.1.toNat kG fun z1=>(z1.1,z1.2.1,IntKind.i64.wrap ((IntKind.i64.wrap (v1.1+(1:Int)))+(1:Int)),z1.2.2.2)).getD v1.2.1.toNat kG).2).2).2).1) (IntKind.i64.wrap ((IntKind.i64.wrap ((IntKind.i64.wrap (v1.1+(1:Int)))+(1:Int)))+(1:Int)))).bind fun r2=>L1 (r2.1,IntKind.i64.wrap (v1.2.1+(1:Int)),(iR (iR (iR (iR v1.2.2.1 v1.2.1.toNat kG fun z1=>(v1.1,z1.2)) v1.2.1.toNat kG fun z1=>(z1.1,IntKind.i64.wrap (v1.1+(1:Int)),z1.2.2)) v1.2.1.toNat kG fun z1=>(z1.1,z1.2.1,IntKind.i64.wrap ((IntKind.i64.wrap (v1.1+(1:Int)))+(1:Int)),z1.2.2.2)) v1.2.1.toNat kG fun z1=>(z1.1,z1.2.1,z1.2.2.1,r2.2.1,z1.2.2.2.2)),())) else none) else none) else none) else none) else some (v1.1,v1.2.2.1,()))) n (a1,(0:Int),a0,()))
def j6:List dD:=[.jC (.sl 103 zA) [5,103] [5,103,4294967295], .val (.int .i64) []]
def vN:List mY:=[.val (.int .i64) [] []]
def qw:Entry:=⟨121,j6,vN,fun n (c:Cont (kin j6))=>kP n c.1 c.2.1⟩
def wm:Hint:=⟨0,[37],[(0,[0,1,5],[0])],[],[(55,some 39,kU)],[],[],[],[]⟩
theorem C9:∀n (c:Cont (kin j6)),kE T wm Tryz.f121 j6 vN n c=qw.F n c:=by intro n c; kernel_rfl
theorem Db [Fr] (n:Nat):aj Tryz.prog n qw:=ak mixed aK Tryz.func121 (by kernel_rfl) (hi:=wm) (aa (uA n) aD) C9
def qN (n:Nat) (a0:List dQ) (a1:Int):Option fI:=(rounds (fun L1 (v1:Int×fI)=>(if decide (v1.2.1<(v1.2.2.1.length:Int))=true then ((iE n v1.1).bind fun r2=>(if aI v1.2.1 v1.2.2.1.length then (if aI v1.2.1 (iR v1.2.2.1 v1.2.1.toNat dF fun z1=>(r2.1,z1.2)).length then (if aI v1.2.1 (iR (iR v1.2.2.1 v1.2.1.toNat dF fun z1=>(r2.1,z1.2)) v1.2.1.toNat dF fun z1=>(z1.1,IntKind.i64.wrap (v1.1+(1:Int)),z1.2.2)).length then (if aI v1.2.1 (iR (iR (iR v1.2.2.1 v1.2.1.toNat dF fun z1=>(r2.1,z1.2)) v1.2.1.toNat dF fun z1=>(z1.1,IntKind.i64.wrap (v1.1+(1:Int)),z1.2.2)) v1.2.1.toNat dF fun z1=>(z1.1,z1.2.1,IntKind.i64.wrap ((IntKind.i64.wrap (v1.1+(1:Int)))+(1:Int)),z1.2.2.2)).length then ((kP n ((((((iR (iR (iR v1.2.2.1 v1.2.1.toNat dF fun z1=>(r2.1,z1.2)) v1.2.1.toNat dF fun z1=>(z1.1,IntKind.i64.wrap (v1.1+(1:Int)),z1.2.2)) v1.2.1.toNat dF fun z1=>(z1.1,z1.2.1,IntKind.i64.wrap ((IntKind.i64.wrap (v1.1+(1:Int)))+(1:Int)),z1.2.2.2)).getD v1.2.1.toNat dF).2).2).2).1) (IntKind.i64.wrap ((IntKind.i64.wrap ((IntKind.i64.wrap (v1.1+(1:Int)))+(1:Int)))+(1:Int)))).bind fun r3=>L1 (r3.1,IntKind.i64.wrap (v1.2.1+(1:Int)),(iR (iR (iR (iR v1.2.2.1 v1.2.1.toNat dF fun z1=>(r2.1,z1.2)) v1.2.1.toNat dF fun z1=>(z1.1,IntKind.i64.wrap (v1.1+(1:Int)),z1.2.2)) v1.2.1.toNat dF fun z1=>(z1.1,z1.2.1,IntKind.i64.wrap ((IntKind.i64.wrap (v1.1+(1:Int)))+(1:Int)),z1.2.2.2)) v1.2.1.toNat dF fun z1=>(z1.1,z1.2.1,z1.2.2.1,r3.2.1,z1.2.2.2.2)),())) else none) else none) else none) else none)) else some (v1.1,v1.2.2.1,()))) n (a1,(0:Int),a0,()))
def ql:List dD:=[.jC (.sl 100 nL) [5,100,103] [5,100,103,4294967295], .val (.int .i64) []]
def zT:List mY:=[.val (.int .i64) [] []]
def vS:Entry:=⟨89,ql,zT,fun n (c:Cont (kin ql))=>qN n c.1 c.2.1⟩
def Bb:Hint:=⟨0,[38],[(0,[0,1,5],[0])],[],[(120,some 15,qL),(121,some 40,qw)],[],[],[],[]⟩
theorem G9:∀n (c:Cont (kin ql)),kE T Bb Tryz.f89 ql zT n c=vS.F n c:=by intro n c; kernel_rfl
theorem Hr [Fr] (n:Nat):aj Tryz.prog n vS:=ak mixed aK Tryz.func89 (by kernel_rfl) (hi:=Bb) (aa (Bd n) (aa (Db n) aD)) G9
def pW (n:Nat) (a0:fI) (a1:Int):Option (Int×fI×Unit):=((qN n a0.2.1 a1).bind fun r1=>some (r1.1,(a0.1,r1.2.1,a0.2.2),()))
def oK:List dD:=[.jC qy [5,100,103] [5,100,103,4294967295], .val (.int .i64) []]
def yG:List mY:=[.val (.int .i64) [] []]
def uo:Entry:=⟨56,oK,yG,fun n (c:Cont (kin oK))=>pW n c.1 c.2.1⟩
def zo:Hint:=⟨0,[],[],[],[(89,some 8,vS)],[],[],[],[]⟩
theorem FD:∀n (c:Cont (kin oK)),kE T zo Tryz.f56 oK yG n c=uo.F n c:=by intro n c; kernel_rfl
theorem FO [Fr] (n:Nat):aj Tryz.prog n uo:=ak mixed aK Tryz.func56 (by kernel_rfl) (hi:=zo) (aa (Hr n) aD) FD
def lF (n:Nat) (a0:vV) (a1:Int):Option (Int×vV×Unit):=((ji n a0.2.1 a1).bind fun r1=>((ji n a0.2.2.1 r1.1).bind fun r2=>((pW n a0.2.2.2.1 r2.1).bind fun r3=>some (r3.1,(a0.1,r1.2.1,r2.2.1,r3.2.1,a0.2.2.2.2),()))))
def oL:List dD:=[.jC xX [5,100,103] [5,100,103,4294967295], .val (.int .i64) []]
def yH:List mY:=[.val (.int .i64) [] []]
def pR:Entry:=⟨15,oL,yH,fun n (c:Cont (kin oL))=>lF n c.1 c.2.1⟩
def zq:Hint:=⟨0,[],[],[],[(55,some 8,kU),(55,some 12,kU),(56,some 16,uo)],[],[],[],[]⟩
theorem FE:∀n (c:Cont (kin oL)),kE T zq Tryz.f15 oL yH n c=pR.F n c:=by intro n c; kernel_rfl
theorem zy [Fr] (n:Nat):aj Tryz.prog n pR:=ak mixed aK Tryz.func15 (by kernel_rfl) (hi:=zq) (aa (uA n) (aa (uA n) (aa (FO n) aD))) FE
def nX (n:Nat) (a0:List Int) (a1:Int):Option (Int×(List Int)×Unit):=(rounds (fun L1 (v1:Int×Int×(List Int)×Unit)=>(if decide (v1.2.1<(v1.2.2.1.length:Int))=true then (if aI v1.2.1 v1.2.2.1.length then L1 (IntKind.i64.wrap (v1.1+(1:Int)),IntKind.i64.wrap (v1.2.1+(1:Int)),v1.2.2.1.set v1.2.1.toNat v1.1,()) else none) else some (v1.1,v1.2.2.1,()))) n (a1,(0:Int),a0,()))
def nu:List dD:=[.jC (.sl 2 (.int .i64)) [2] [2], .val (.int .i64) []]
def xP:List mY:=[.val (.int .i64) [] []]
def rZ:Entry:=⟨57,nu,xP,fun n (c:Cont (kin nu))=>nX n c.1 c.2.1⟩
def yh:Hint:=⟨0,[],[(0,[0,1,5],[0])],[],[],[],[],[],[]⟩
theorem Ef:∀n (c:Cont (kin nu)),kE T yh Tryz.f57 nu xP n c=rZ.F n c:=by intro n c; kernel_rfl
theorem Ep [Fr] (n:Nat):aj Tryz.prog n rZ:=ak mixed aK Tryz.func57 (by kernel_rfl) (hi:=yh) aD Ef
def iU (n:Nat) (a0:OJ) (a1:Int):Option (Int×OJ×Unit):=((nX n a0.2.1 a1).bind fun r1=>((lF n a0.2.2.1 r1.1).bind fun r2=>some (r2.1,(a0.1,r1.2.1,r2.2.1,a0.2.2.2),())))
def iD:List dD:=[.jC M5 [2,5,100,103] [2,5,100,103,4294967295], .val (.int .i64) []]
def rT:List mY:=[.val (.int .i64) [] []]
def mF:Entry:=⟨16,iD,rT,fun n (c:Cont (kin iD))=>iU n c.1 c.2.1⟩
def sU:Hint:=⟨0,[],[],[],[(57,some 8,rZ),(15,some 12,pR)],[],[],[],[]⟩
theorem Aa:∀n (c:Cont (kin iD)),kE T sU Tryz.f16 iD rT n c=mF.F n c:=by intro n c; kernel_rfl
theorem Ae [Fr] (n:Nat):aj Tryz.prog n mF:=ak mixed aK Tryz.func16 (by kernel_rfl) (hi:=sU) (aa (Ep n) (aa (zy n) aD)) Aa
def jX (n:Nat) (a0:List Int) (a1:Int):Option (Int×Unit):=(rounds (fun L1 (v1:(List Int)×Int×Int×Unit)=>(if decide (v1.2.2.1<(v1.1.length:Int))=true then (if aI v1.2.2.1 v1.1.length then (if (!decide ((v1.1.getD v1.2.2.1.toNat (0:Int))=v1.2.1))=true then some ((-1:Int),()) else L1 (v1.1,IntKind.i64.wrap (v1.2.1+(1:Int)),IntKind.i64.wrap (v1.2.2.1+(1:Int)),())) else none) else some (v1.2.1,()))) n (a0,a1,(0:Int),()))
def nk:List dD:=[.val (.sl 2 (.int .i64)) [], .val (.int .i64) []]
def xO:List mY:=[.val (.int .i64) [] []]
def rY:Entry:=⟨58,nk,xO,fun n (c:Cont (kin nk))=>jX n c.1 c.2.1⟩
def yg:Hint:=⟨0,[],[(0,[0,1,5],[])],[],[],[],[],[],[]⟩
theorem Ee:∀n (c:Cont (kin nk)),kE T yg Tryz.f58 nk xO n c=rY.F n c:=by intro n c; kernel_rfl
theorem Eo [Fr] (n:Nat):aj Tryz.prog n rY:=ak mixed aK Tryz.func58 (by kernel_rfl) (hi:=yg) aD Ee
def fG (n:Nat) (a0:List Int) (a1:Int):Option (Int×Unit):=(rounds (fun L1 (v1:(List Int)×Int×Int×Unit)=>(if decide (v1.2.2.1<(v1.1.length:Int))=true then (if aI v1.2.2.1 v1.1.length then (if (!decide ((v1.1.getD v1.2.2.1.toNat (0:Int))=(IntKind.u8.wrap v1.2.1)))=true then some ((-1:Int),()) else L1 (v1.1,IntKind.i64.wrap (v1.2.1+(1:Int)),IntKind.i64.wrap (v1.2.2.1+(1:Int)),())) else none) else some (v1.2.1,()))) n (a0,a1,(0:Int),()))
def oG:List dD:=[.val (.sl 5 (.int .u8)) [], .val (.int .i64) []]
def yC:List mY:=[.val (.int .i64) [] []]
def kT:Entry:=⟨90,oG,yC,fun n (c:Cont (kin oG))=>fG n c.1 c.2.1⟩
def zi:Hint:=⟨0,[],[(0,[0,1,5],[])],[],[],[],[],[],[]⟩
theorem Fy:∀n (c:Cont (kin oG)),kE T zi Tryz.f90 oG yC n c=kT.F n c:=by intro n c; kernel_rfl
theorem uz [Fr] (n:Nat):aj Tryz.prog n kT:=ak mixed aK Tryz.func90 (by kernel_rfl) (hi:=zi) aD Fy
def kN (n:Nat) (a0:List rA) (a1:Int):Option (Int×Unit):=(rounds (fun L1 (v1:(List rA)×Int×Int×Unit)=>(if decide (v1.2.2.1<(v1.1.length:Int))=true then (if aI v1.2.2.1 v1.1.length then (if (!decide (((v1.1.getD v1.2.2.1.toNat kG).1)=v1.2.1))=true then some ((-1:Int),()) else (if aI v1.2.2.1 v1.1.length then (if (!decide ((((v1.1.getD v1.2.2.1.toNat kG).2).1)=(IntKind.i64.wrap (v1.2.1+(1:Int)))))=true then some ((-1:Int),()) else (if aI v1.2.2.1 v1.1.length then (if (!decide (((((v1.1.getD v1.2.2.1.toNat kG).2).2).1)=(IntKind.i64.wrap ((IntKind.i64.wrap (v1.2.1+(1:Int)))+(1:Int)))))=true then some ((-1:Int),()) else (if aI v1.2.2.1 v1.1.length then ((fG n (((((v1.1.getD v1.2.2.1.toNat kG).2).2).2).1) (IntKind.i64.wrap ((IntKind.i64.wrap ((IntKind.i64.wrap (v1.2.1+(1:Int)))+(1:Int)))+(1:Int)))).bind fun r2=>(if decide (r2.1<(0:Int))=true then some ((-1:Int),()) else L1 (v1.1,r2.1,IntKind.i64.wrap (v1.2.2.1+(1:Int)),()))) else none)) else none)) else none)) else none) else some (v1.2.1,()))) n (a0,a1,(0:Int),()))
def j5:List dD:=[.val (.sl 103 zA) [], .val (.int .i64) []]
def vM:List mY:=[.val (.int .i64) [] []]
def qp:Entry:=⟨161,j5,vM,fun n (c:Cont (kin j5))=>kN n c.1 c.2.1⟩
def vZ:Hint:=⟨0,[],[(0,[0,1,5],[])],[],[(90,some 45,kT)],[],[],[],[]⟩
theorem C8:∀n (c:Cont (kin j5)),kE T vZ Tryz.f161 j5 vM n c=qp.F n c:=by intro n c; kernel_rfl
theorem Da [Fr] (n:Nat):aj Tryz.prog n qp:=ak mixed aK Tryz.func161 (by kernel_rfl) (hi:=vZ) (aa (uz n) aD) C8
def nJ (n:Nat) (a0:List dQ) (a1:Int):Option (Int×Unit):=(rounds (fun L1 (v1:(List dQ)×Int×Int×Unit)=>(if decide (v1.2.2.1<(v1.1.length:Int))=true then (if aI v1.2.2.1 v1.1.length then ((iE n v1.2.1).bind fun r2=>(if (!decide (((v1.1.getD v1.2.2.1.toNat dF).1)=r2.1))=true then some ((-1:Int),()) else (if aI v1.2.2.1 v1.1.length then (if (!decide ((((v1.1.getD v1.2.2.1.toNat dF).2).1)=(IntKind.i64.wrap (v1.2.1+(1:Int)))))=true then some ((-1:Int),()) else (if aI v1.2.2.1 v1.1.length then (if (!decide (((((v1.1.getD v1.2.2.1.toNat dF).2).2).1)=(IntKind.i64.wrap ((IntKind.i64.wrap (v1.2.1+(1:Int)))+(1:Int)))))=true then some ((-1:Int),()) else (if aI v1.2.2.1 v1.1.length then ((kN n (((((v1.1.getD v1.2.2.1.toNat dF).2).2).2).1) (IntKind.i64.wrap ((IntKind.i64.wrap ((IntKind.i64.wrap (v1.2.1+(1:Int)))+(1:Int)))+(1:Int)))).bind fun r3=>(if decide (r3.1<(0:Int))=true then some ((-1:Int),()) else L1 (v1.1,r3.1,IntKind.i64.wrap (v1.2.2.1+(1:Int)),()))) else none)) else none)) else none))) else none) else some (v1.2.1,()))) n (a0,a1,(0:Int),()))
def qj:List dD:=[.val (.sl 100 nL) [], .val (.int .i64) []]
def zS:List mY:=[.val (.int .i64) [] []]
def vR:Entry:=⟨122,qj,zS,fun n (c:Cont (kin qj))=>nJ n c.1 c.2.1⟩
def Ba:Hint:=⟨0,[],[(0,[0,1,5],[])],[],[(120,some 18,qL),(161,some 46,qp)],[],[],[],[]⟩
theorem G8:∀n (c:Cont (kin qj)),kE T Ba Tryz.f122 qj zS n c=vR.F n c:=by intro n c; kernel_rfl
theorem Hq [Fr] (n:Nat):aj Tryz.prog n vR:=ak mixed aK Tryz.func122 (by kernel_rfl) (hi:=Ba) (aa (Bd n) (aa (Da n) aD)) G8
def lC (n:Nat) (a0:fI) (a1:Int):Option (Int×Unit):=((nJ n a0.2.1 a1).bind fun r1=>(if decide (r1.1<(0:Int))=true then some ((-1:Int),()) else some (r1.1,())))
def oH:List dD:=[.val qy [], .val (.int .i64) []]
def yD:List mY:=[.val (.int .i64) [] []]
def uj:Entry:=⟨91,oH,yD,fun n (c:Cont (kin oH))=>lC n c.1 c.2.1⟩
def zl:Hint:=⟨0,[],[],[],[(122,some 8,vR)],[],[],[],[]⟩
theorem Fz:∀n (c:Cont (kin oH)),kE T zl Tryz.f91 oH yD n c=uj.F n c:=by intro n c; kernel_rfl
theorem FM [Fr] (n:Nat):aj Tryz.prog n uj:=ak mixed aK Tryz.func91 (by kernel_rfl) (hi:=zl) (aa (Hq n) aD) Fz
def lD (n:Nat) (a0:vV) (a1:Int):Option (Int×Unit):=((fG n a0.2.1 a1).bind fun r1=>(if decide (r1.1<(0:Int))=true then some ((-1:Int),()) else ((fG n a0.2.2.1 r1.1).bind fun r2=>(if decide (r2.1<(0:Int))=true then some ((-1:Int),()) else ((lC n a0.2.2.2.1 r2.1).bind fun r3=>(if decide (r3.1<(0:Int))=true then some ((-1:Int),()) else some (r3.1,())))))))
def oI:List dD:=[.val xX [], .val (.int .i64) []]
def yE:List mY:=[.val (.int .i64) [] []]
def um:Entry:=⟨59,oI,yE,fun n (c:Cont (kin oI))=>lD n c.1 c.2.1⟩
def zm:Hint:=⟨0,[],[],[],[(90,some 8,kT),(90,some 14,kT),(91,some 20,uj)],[],[],[],[]⟩
theorem FB:∀n (c:Cont (kin oI)),kE T zm Tryz.f59 oI yE n c=um.F n c:=by intro n c; kernel_rfl
theorem FN [Fr] (n:Nat):aj Tryz.prog n um:=ak mixed aK Tryz.func59 (by kernel_rfl) (hi:=zm) (aa (uz n) (aa (uz n) (aa (FM n) aD))) FB
def fZ (n:Nat) (a0:OJ) (a1:Int):Option (Int×Unit):=((jX n a0.2.1 a1).bind fun r1=>(if decide (r1.1<(0:Int))=true then some ((-1:Int),()) else ((lD n a0.2.2.1 r1.1).bind fun r2=>(if decide (r2.1<(0:Int))=true then some ((-1:Int),()) else some (r2.1,())))))
def iC:List dD:=[.val M5 [], .val (.int .i64) []]
def rR:List mY:=[.val (.int .i64) [] []]
def iT:Entry:=⟨17,iC,rR,fun n (c:Cont (kin iC))=>fZ n c.1 c.2.1⟩
def sS:Hint:=⟨0,[],[],[],[(58,some 8,rY),(59,some 14,um)],[],[],[],[]⟩
theorem z8:∀n (c:Cont (kin iC)),kE T sS Tryz.f17 iC rR n c=iT.F n c:=by intro n c; kernel_rfl
theorem sW [Fr] (n:Nat):aj Tryz.prog n iT:=ak mixed aK Tryz.func17 (by kernel_rfl) (hi:=sS) (aa (Eo n) (aa (FN n) aD)) z8
def ko (n:Nat) (a0:vV):Option (Bool×Unit):=((o7 n a0 (1048576:Int)).bind fun r1=>(if decide (r1.1<(0:Int))=true then some (true,()) else ((jy n a0).bind fun r2=>((og n r2.1).bind fun r3=>((jy n a0).bind fun r4=>((jU n r4.1).bind fun r5=>((fF n r5.1 r3.1).bind fun r6=>(if (!r6.1)=true then some (false,()) else ((jy n a0).bind fun r7=>((lu n r4.1 r7.1).bind fun r8=>(if (!r8.1)=true then some (false,()) else ((lF n r4.1 (1:Int)).bind fun r9=>(if decide (r9.1<(0:Int))=true then some (false,()) else ((fF n r5.1 r3.1).bind fun NU=>(if (!NU.1)=true then some (false,()) else ((iU n r5.1 (1:Int)).bind fun Ir=>((fZ n Ir.2.1 (1:Int)).bind fun Km=>(if decide (Km.1<(0:Int))=true then some (false,()) else (if (!decide (Km.1=Ir.1))=true then some (false,()) else ((jy n a0).bind fun Oj=>((jU n Oj.1).bind fun Yz=>((fF n Yz.1 r3.1).bind fun TK=>(if (!TK.1)=true then some (false,()) else ((fZ n Ir.2.1 (1:Int)).bind fun r16=>(if decide (r16.1<(0:Int))=true then some (false,()) else (if (!decide (r16.1=Ir.1))=true then some (false,()) else some (true,())))))))))))))))))))))))))))
def bV:List dD:=[.val QJ []]
def qo:List mY:=[.val .bool [] []]
def kg:Entry:=⟨5,bV,qo,fun n (c:Cont (kin bV))=>ko n c.1⟩
def qF:Hint:=⟨0,[32,43],[],[],[(9,some 13,wZ),(11,some 17,kW),(20,some 18,abO),(11,some 20,kW),(21,some 22,SF),(13,some 25,ig),(11,some 29,kW),(14,some 30,rX),(15,some 34,pR),(13,some 40,ig),(16,some 45,mF),(17,some 48,iT),(11,some 55,kW),(21,some 56,SF),(13,some 59,ig),(17,some 63,iT)],[],[],[],[]⟩
theorem yO:∀n (c:Cont (kin bV)),kE T qF Tryz.f5 bV qo n c=kg.F n c:=by intro n c; kernel_rfl
theorem yU [Fr] (n:Nat):aj Tryz.prog n kg:=ak mixed aK Tryz.func5 (by kernel_rfl) (hi:=qF) (aa (IP n) (aa (sZ n) (aa (ajM n) (aa (sZ n) (aa (aaC n) (aa (o9 n) (aa (sZ n) (aa (BO n) (aa (zy n) (aa (o9 n) (aa (Ae n) (aa (sW n) (aa (sZ n) (aa (aaC n) (aa (o9 n) (aa (sW n) aD)))))))))))))))) yO
end Go.Proofs.YtailcbngagacaabGreat.ry

/- What the functions of this law compute, as plain functions, and that the reading comes to them. No condition. -/
import Derived.Test.YtdknpknohipffaaGreatProg
import Derived.Test.YtdknpknohipffaaGreatOwF
import Derived.Test.YtdknpknohipffaaGreatCutLib
import Derived.Test.YtdknpknohipffaaGreatPartLib
import Derived.Test.YtdknpknohipffaaGreatPurgeLib
import Derived.Test.YtdknpknohipffaaGreatTakeLib
import Derived.KernelRfl
set_option linter.unusedSectionVars false
set_option linter.unusedVariables false
set_option linter.unusedSimpArgs false
namespace Go.Proofs.YtdknpknohipffaaGreat.Uf
open Go Go.Proofs.YtdknpknohipffaaGreat Go.Proofs.YtdknpknohipffaaGreat.Ow
abbrev Zk0:K:=(.st (.pair .str (.pair (.int .u64) .unit)))
abbrev Zt0:Type:=(List Int)×Int×Unit
abbrev Xn:K:=(.st (.pair (.sl 5 (.int .u8)) (.pair .bool .unit)))
abbrev Zt1:Type:=(List Int)×Bool×Unit
abbrev Xo:K:=(.st (.pair (.sl 5 (.int .u8)) (.pair (.int .i64) (.pair .bool .unit))))
abbrev Zt2:Type:=(List Int)×Int×Bool×Unit
abbrev Zk3:K:=(.st (.pair .str (.pair (.int .i64) (.pair (.int .i64) (.pair (.id 162) .unit)))))
abbrev Zt3:Type:=(List Int)×Int×Int×Nat×Unit
abbrev Zk4:K:=(.st (.pair (.int .i64) (.pair (.int .i64) (.pair .bool (.pair (.int .u8) .unit)))))
abbrev Ov:K:=(.st (.pair (.int .i64) (.pair (.int .i64) (.pair (.int .i64) (.pair (.id 5) .unit)))))
abbrev Ql:Type:=Int×Int×Int×Nat×Unit
abbrev Al:K:=(.st (.pair .str (.pair (.int .i64) (.pair (.sl 2 (.int .i64)) (.pair (.int .i64) .unit)))))
abbrev H6:Type:=(List Int)×Int×Zt0
abbrev BO:K:=(.st (.pair (.int .i64) (.pair (.int .i64) (.pair (.int .i64) (.pair (.sl 5 (.int .u8)) .unit)))))
abbrev tN:Type:=Int×Int×Int×(List Int)×Unit
abbrev Zk8:K:=(.st (.pair (.int .i64) (.pair (.sl 147 Zk3) .unit)))
abbrev Zt8:Type:=Int×(List (Zt3))×Unit
abbrev Zk9:K:=(.st (.pair .str (.pair (.int .i64) (.pair (.int .i64) (.pair (.sl 203 Ov) .unit)))))
abbrev Zt9:Type:=(List Int)×Int×Int×(List (Ql))×Unit
abbrev KJ:K:=(.st (.pair .str (.pair (.int .i64) (.pair (.int .i64) (.pair (.sl 162 Ov) .unit)))))
abbrev kr:K:=(.st (.pair (.int .i64) (.pair .str (.pair .str (.pair (.sl 2 (.int .i64)) (.pair (.int .i64) (.pair (.int .i64) (.pair (.int .i64) (.pair (.sl 5 (.int .u8)) .unit)))))))))
abbrev iD:Type:=Int×(List Int)×(List Int)×(List Int)×tN
abbrev Mf:K:=(.st (.pair .str (.pair (.int .i64) (.pair (.int .i64) (.pair (.sl 203 BO) .unit)))))
abbrev dR:Type:=(List Int)×Int×Int×(List (tN))×Unit
abbrev oL:K:=(.st (.pair .str (.pair (.int .i64) (.pair (.int .i64) (.pair (.sl 162 BO) .unit)))))
abbrev ajy:K:=(.st (.pair (.int .i64) (.pair (.sl 2 (.int .i64)) (.pair Zk8 .unit))))
abbrev Uw:K:=(.st (.pair (.int .i64) (.pair (.sl 142 Zk9) .unit)))
abbrev RX:K:=(.st (.pair (.int .i64) (.pair (.sl 147 KJ) .unit)))
abbrev acM:K:=(.st (.pair .bool (.pair (.sl 5 (.int .u8)) (.pair (.sl 5 (.int .u8)) (.pair Zk8 .unit)))))
abbrev Ux:K:=(.st (.pair (.int .i64) (.pair (.sl 142 Mf) .unit)))
abbrev fJ:Type:=Int×(List (dR))×Unit
abbrev rV:K:=(.st (.pair (.int .i64) (.pair (.sl 147 oL) .unit)))
abbrev Mg:K:=(.st (.pair (.int .i64) (.pair (.int .i64) (.pair kr .unit))))
abbrev anD:Type:=Int×Int×(iD)×Unit
abbrev Xp:K:=(.st (.pair (.int .i64) (.pair (.sl 2 (.int .i64)) (.pair RX .unit))))
abbrev ajz:K:=(.st (.pair (.int .i64) (.pair (.sl 2 (.int .i64)) (.pair acM .unit))))
abbrev Qj:K:=(.st (.pair (.int .i64) (.pair (.sl 2 (.int .i64)) (.pair rV .unit))))
abbrev Jv:Type:=Int×(List Int)×(fJ)×Unit
abbrev Uy:K:=(.st (.pair .bool (.pair (.sl 5 (.int .u8)) (.pair (.sl 5 (.int .u8)) (.pair Uw .unit)))))
abbrev RY:K:=(.st (.pair .bool (.pair (.sl 5 (.int .u8)) (.pair (.sl 5 (.int .u8)) (.pair RX .unit)))))
abbrev Uz:K:=(.st (.pair .bool (.pair (.sl 5 (.int .u8)) (.pair (.sl 5 (.int .u8)) (.pair Ux .unit)))))
abbrev Be:Type:=Bool×(List Int)×(List Int)×(fJ)×Unit
abbrev CR:K:=(.st (.pair .bool (.pair (.sl 5 (.int .u8)) (.pair (.sl 5 (.int .u8)) (.pair rV .unit)))))
abbrev afM:K:=(.st (.pair acM (.pair (.sl 74 Al) .unit)))
abbrev Xq:K:=(.st (.pair (.int .i64) (.pair (.sl 2 (.int .i64)) (.pair RY .unit))))
abbrev ZE:K:=(.st (.pair (.int .i64) (.pair (.sl 2 (.int .i64)) (.pair CR .unit))))
abbrev afO:Type:=Int×(List Int)×(Be)×Unit
abbrev ajB:K:=(.st (.pair (.int .i64) (.pair (.sl 9 .str) (.pair afM .unit))))
abbrev Xr:K:=(.st (.pair Uy (.pair (.sl 79 Al) .unit)))
abbrev UA:K:=(.st (.pair RY (.pair (.sl 74 Al) .unit)))
abbrev UB:K:=(.st (.pair Uz (.pair (.sl 79 Al) .unit)))
abbrev xY:Type:=(Be)×(List (H6))×Unit
abbrev FT:K:=(.st (.pair CR (.pair (.sl 74 Al) .unit)))
abbrev Xt:K:=(.st (.pair (.int .i64) (.pair (.sl 9 .str) (.pair UA .unit))))
abbrev Qk:K:=(.st (.pair (.int .i64) (.pair (.sl 9 .str) (.pair FT .unit))))
abbrev RZ:Type:=Int×(List (List Int))×(xY)×Unit
abbrev H7:iD:=((0:Int),([]:List Int),([]:List Int),([]:List Int),(0:Int),(0:Int),(0:Int),([]:List Int),())
abbrev ZG:xY:=((false,([]:List Int),([]:List Int),((0:Int),([]:List dR),()),()),([]:List H6),())
abbrev ZF:Be:=(false,([]:List Int),([]:List Int),((0:Int),([]:List dR),()),())
abbrev afP:Jv:=((0:Int),([]:List Int),((0:Int),([]:List dR),()),())
abbrev xP:H6:=(([]:List Int),(0:Int),([]:List Int),(0:Int),())
abbrev dH:dR:=(([]:List Int),(0:Int),(0:Int),([]:List tN),())
abbrev lH:tN:=((0:Int),(0:Int),(0:Int),([]:List Int),())
abbrev Qm:Ql:=((0:Int),(0:Int),(0:Int),(0:Nat),())
abbrev R3:fJ:=((0:Int),([]:List dR),())
def tyL:YU:={ ty:=[(2,(.int .i64)),(3,(.int .i64)),(4, .bool),(5,(.int .u8)),(6,(.int .u8)),(7,Zk4),(8,Zk4),(9, .str),(10, .str),(11, .str),(12,(.int .u64)),(13,Zk0),(14,Zk0),(21,(.int .i32)),(22,(.sl 5 (.int .u8))),(23,(.sl 142 Mf)),(24,Ux),(25,Ux),(26,Uz),(27,Uz),(28,(.sl 79 Al)),(29,UB),(30,UB),(32,(.sl 9 .str)),(33,(.sl 147 oL)),(34,rV),(35,rV),(36,CR),(37,CR),(38,(.sl 74 Al)),(39,FT),(40,FT),(41,Qk),(42,Qk),(57,(.sl 2 (.int .i64))),(58,ZE),(59,ZE),(73,Al),(74,Al),(79,Al),(85,(.sl 121 kr)),(88,Qj),(89,Qj),(120,kr),(121,kr),(122,Mg),(123,Mg),(137,(.sl 22 (.sl 5 (.int .u8)))),(140,(.sl 203 BO)),(141,Mf),(142,Mf),(145,(.sl 162 BO)),(146,oL),(147,oL),(161,BO),(162,BO),(166,Xn),(167,Xn),(179,Xo),(180,Xo),(203,BO),(219,(.int .u32)),(220,(.int .u8)),(221,(.int .u8)),(224,(.int .i32)),(225,(.int .i32))],bytes:=[(2,8),(3,8),(4,1),(5,1),(6,1),(7,24),(8,24),(9,16),(10,16),(11,16),(12,8),(13,24),(14,24),(21,4),(22,24),(23,24),(24,32),(25,32),(26,88),(27,88),(28,24),(29,112),(30,112),(32,24),(33,24),(34,32),(35,32),(36,88),(37,88),(38,24),(39,112),(40,112),(41,144),(42,144),(57,24),(58,120),(59,120),(73,56),(74,56),(79,56),(85,24),(88,64),(89,64),(120,112),(121,112),(122,128),(123,128),(137,24),(140,24),(141,56),(142,56),(145,24),(146,56),(147,56),(161,48),(162,48),(166,32),(167,32),(179,40),(180,40),(203,48),(219,4),(220,1),(221,1),(224,4),(225,4)],ptr:=[15,16,17,55,81,83,116,144,151,165,177,182,223] }
def T:jF:=tyL.tab
theorem aI:Fa Tryz.prog tyL=true:=by kernel_rfl
theorem mixed:Tryz.prog.follows .mixedOrders=true:=by kernel_rfl
def mZ (n:Nat) (a0:List Int) (a1:Int):Option (Int×Unit):=(if decide ((IntKind.i64.wrap (a1 - (a0.length:Int)))<(0:Int))=true then some ((-1:Int),()) else some (IntKind.i64.wrap (a1 - (a0.length:Int)),()))
def sS:List dn:=[.val (.sl 5 (.int .u8)) [], .val (.int .i64) []]
def DT:List jY:=[.val (.int .i64) [] []]
def qp:Entry:=⟨38,sS,DT,fun n (c:Cont (kin sS))=>mZ n c.1 c.2.1⟩
def Eg:Hint:=⟨0,[],[],[],[],[],[],[],[]⟩
theorem Ls:∀n (c:Cont (kin sS)),fQ T Eg Tryz.f38 sS DT n c=qp.F n c:=by intro n c; kernel_rfl
theorem zf [Fr] (n:Nat):ak Tryz.prog n qp:=aj mixed aI Tryz.func38 (by kernel_rfl) (hi:=Eg) aA Ls
def ng (n:Nat) (a0:tN) (a1:Int):Option (Int×Unit):=((mZ n a0.2.2.2.1 a1).bind fun r1=>(if decide (r1.1<(0:Int))=true then some ((-1:Int),()) else some (r1.1,())))
def qh:List dn:=[.val BO [], .val (.int .i64) []]
def AP:List jY:=[.val (.int .i64) [] []]
def vV:Entry:=⟨169,qh,AP,fun n (c:Cont (kin qh))=>ng n c.1 c.2.1⟩
def BJ:Hint:=⟨0,[],[],[],[(38,some 8,qp)],[],[],[],[]⟩
theorem I8:∀n (c:Cont (kin qh)),fQ T BJ Tryz.f169 qh AP n c=vV.F n c:=by intro n c; kernel_rfl
theorem Jm [Fr] (n:Nat):ak Tryz.prog n vV:=aj mixed aI Tryz.func169 (by kernel_rfl) (hi:=BJ) (aa (zf n) aA) I8
def pE (n:Nat) (a0:List tN) (a1:Int):Option (Int×Unit):=(if decide ((IntKind.i64.wrap (a1 - (a0.length:Int)))<(0:Int))=true then some ((-1:Int),()) else (rounds (fun L1 (v1:(List tN)×Int×Int×Unit)=>(if decide (v1.2.2.1<(v1.1.length:Int))=true then (if aH v1.2.2.1 v1.1.length then ((ng n (v1.1.getD v1.2.2.1.toNat lH) v1.2.1).bind fun r2=>(if decide (r2.1<(0:Int))=true then some ((-1:Int),()) else L1 (v1.1,r2.1,IntKind.i64.wrap (v1.2.2.1+(1:Int)),()))) else none) else some (v1.2.1,()))) n (a0,IntKind.i64.wrap (a1 - (a0.length:Int)),(0:Int),())))
def oo:List dn:=[.val (.sl 203 BO) [], .val (.int .i64) []]
def zM:List jY:=[.val (.int .i64) [] []]
def uA:Entry:=⟨133,oo,zM,fun n (c:Cont (kin oo))=>pE n c.1 c.2.1⟩
def Af:Hint:=⟨0,[],[(0,[0,1,5],[])],[],[(169,some 23,vV)],[],[],[],[]⟩
theorem G6:∀n (c:Cont (kin oo)),fQ T Af Tryz.f133 oo zM n c=uA.F n c:=by intro n c; kernel_rfl
theorem Hw [Fr] (n:Nat):ak Tryz.prog n uA:=aj mixed aI Tryz.func133 (by kernel_rfl) (hi:=Af) (aa (Jm n) aA) G6
def uI (n:Nat) (a0:dR) (a1:Int):Option (Int×Unit):=(if decide ((IntKind.i64.wrap (a1 - (a0.1.length:Int)))<(0:Int))=true then some ((-1:Int),()) else ((pE n a0.2.2.2.1 (IntKind.i64.wrap (a1 - (a0.1.length:Int)))).bind fun r1=>(if decide (r1.1<(0:Int))=true then some ((-1:Int),()) else some (r1.1,()))))
def xm:List dn:=[.val Mf [], .val (.int .i64) []]
def Gb:List jY:=[.val (.int .i64) [] []]
def CF:Entry:=⟨107,xm,Gb,fun n (c:Cont (kin xm))=>uI n c.1 c.2.1⟩
def Hg:Hint:=⟨0,[],[],[],[(133,some 15,uA)],[],[],[],[]⟩
theorem P9:∀n (c:Cont (kin xm)),fQ T Hg Tryz.f107 xm Gb n c=CF.F n c:=by intro n c; kernel_rfl
theorem Qc [Fr] (n:Nat):ak Tryz.prog n CF:=aj mixed aI Tryz.func107 (by kernel_rfl) (hi:=Hg) (aa (Hw n) aA) P9
def wS (n:Nat) (a0:List dR) (a1:Int):Option (Int×Unit):=(if decide ((IntKind.i64.wrap (a1 - (a0.length:Int)))<(0:Int))=true then some ((-1:Int),()) else (rounds (fun L1 (v1:(List dR)×Int×Int×Unit)=>(if decide (v1.2.2.1<(v1.1.length:Int))=true then (if aH v1.2.2.1 v1.1.length then ((uI n (v1.1.getD v1.2.2.1.toNat dH) v1.2.1).bind fun r2=>(if decide (r2.1<(0:Int))=true then some ((-1:Int),()) else L1 (v1.1,r2.1,IntKind.i64.wrap (v1.2.2.1+(1:Int)),()))) else none) else some (v1.2.1,()))) n (a0,IntKind.i64.wrap (a1 - (a0.length:Int)),(0:Int),())))
def vD:List dn:=[.val (.sl 142 Mf) [], .val (.int .i64) []]
def EW:List jY:=[.val (.int .i64) [] []]
def Ba:Entry:=⟨78,vD,EW,fun n (c:Cont (kin vD))=>wS n c.1 c.2.1⟩
def F3:Hint:=⟨0,[],[(0,[0,1,5],[])],[],[(107,some 23,CF)],[],[],[],[]⟩
theorem Oi:∀n (c:Cont (kin vD)),fQ T F3 Tryz.f78 vD EW n c=Ba.F n c:=by intro n c; kernel_rfl
theorem Oo [Fr] (n:Nat):ak Tryz.prog n Ba:=aj mixed aI Tryz.func78 (by kernel_rfl) (hi:=F3) (aa (Qc n) aA) Oi
def y5 (n:Nat) (a0:fJ) (a1:Int):Option (Int×Unit):=((wS n a0.2.1 a1).bind fun r1=>(if decide (r1.1<(0:Int))=true then some ((-1:Int),()) else some (r1.1,())))
def sU:List dn:=[.val Ux [], .val (.int .i64) []]
def DU:List jY:=[.val (.int .i64) [] []]
def yT:Entry:=⟨39,sU,DU,fun n (c:Cont (kin sU))=>y5 n c.1 c.2.1⟩
def Eh:Hint:=⟨0,[],[],[],[(78,some 8,Ba)],[],[],[],[]⟩
theorem Lt:∀n (c:Cont (kin sU)),fQ T Eh Tryz.f39 sU DU n c=yT.F n c:=by intro n c; kernel_rfl
theorem LK [Fr] (n:Nat):ak Tryz.prog n yT:=aj mixed aI Tryz.func39 (by kernel_rfl) (hi:=Eh) (aa (Oo n) aA) Lt
def uK (n:Nat) (a0:Be) (a1:Int):Option (Int×Unit):=((mZ n a0.2.1 a1).bind fun r1=>(if decide (r1.1<(0:Int))=true then some ((-1:Int),()) else ((mZ n a0.2.2.1 r1.1).bind fun r2=>(if decide (r2.1<(0:Int))=true then some ((-1:Int),()) else ((y5 n a0.2.2.2.1 r2.1).bind fun r3=>(if decide (r3.1<(0:Int))=true then some ((-1:Int),()) else some (r3.1,())))))))
def sV:List dn:=[.val Uz [], .val (.int .i64) []]
def DV:List jY:=[.val (.int .i64) [] []]
def yU:Entry:=⟨16,sV,DV,fun n (c:Cont (kin sV))=>uK n c.1 c.2.1⟩
def Ei:Hint:=⟨0,[],[],[],[(38,some 8,qp),(38,some 14,qp),(39,some 20,yT)],[],[],[],[]⟩
theorem Lu:∀n (c:Cont (kin sV)),fQ T Ei Tryz.f16 sV DV n c=yU.F n c:=by intro n c; kernel_rfl
theorem LM [Fr] (n:Nat):ak Tryz.prog n yU:=aj mixed aI Tryz.func16 (by kernel_rfl) (hi:=Ei) (aa (zf n) (aa (zf n) (aa (LK n) aA))) Lu
def xW (n:Nat) (a0:List Int) (a1:Int):Option (Int×Unit):=(if decide ((IntKind.i64.wrap (a1 - (a0.length:Int)))<(0:Int))=true then some ((-1:Int),()) else some (IntKind.i64.wrap (a1 - (a0.length:Int)),()))
def rJ:List dn:=[.val (.sl 2 (.int .i64)) [], .val (.int .i64) []]
def Cq:List jY:=[.val (.int .i64) [] []]
def xU:Entry:=⟨79,rJ,Cq,fun n (c:Cont (kin rJ))=>xW n c.1 c.2.1⟩
def Dy:Hint:=⟨0,[],[],[],[],[],[],[],[]⟩
theorem KA:∀n (c:Cont (kin rJ)),fQ T Dy Tryz.f79 rJ Cq n c=xU.F n c:=by intro n c; kernel_rfl
theorem KH [Fr] (n:Nat):ak Tryz.prog n xU:=aj mixed aI Tryz.func79 (by kernel_rfl) (hi:=Dy) aA KA
def ni (n:Nat) (a0:H6) (a1:Int):Option (Int×Unit):=(if decide ((IntKind.i64.wrap (a1 - (a0.1.length:Int)))<(0:Int))=true then some ((-1:Int),()) else ((xW n a0.2.2.1 (IntKind.i64.wrap (a1 - (a0.1.length:Int)))).bind fun r1=>(if decide (r1.1<(0:Int))=true then some ((-1:Int),()) else some (r1.1,()))))
def qi:List dn:=[.val Al [], .val (.int .i64) []]
def AQ:List jY:=[.val (.int .i64) [] []]
def vW:Entry:=⟨40,qi,AQ,fun n (c:Cont (kin qi))=>ni n c.1 c.2.1⟩
def BK:Hint:=⟨0,[],[],[],[(79,some 15,xU)],[],[],[],[]⟩
theorem I9:∀n (c:Cont (kin qi)),fQ T BK Tryz.f40 qi AQ n c=vW.F n c:=by intro n c; kernel_rfl
theorem Jn [Fr] (n:Nat):ak Tryz.prog n vW:=aj mixed aI Tryz.func40 (by kernel_rfl) (hi:=BK) (aa (KH n) aA) I9
def uJ (n:Nat) (a0:List H6) (a1:Int):Option (Int×Unit):=(if decide ((IntKind.i64.wrap (a1 - (a0.length:Int)))<(0:Int))=true then some ((-1:Int),()) else (rounds (fun L1 (v1:(List H6)×Int×Int×Unit)=>(if decide (v1.2.2.1<(v1.1.length:Int))=true then (if aH v1.2.2.1 v1.1.length then ((ni n (v1.1.getD v1.2.2.1.toNat xP) v1.2.1).bind fun r2=>(if decide (r2.1<(0:Int))=true then some ((-1:Int),()) else L1 (v1.1,r2.1,IntKind.i64.wrap (v1.2.2.1+(1:Int)),()))) else none) else some (v1.2.1,()))) n (a0,IntKind.i64.wrap (a1 - (a0.length:Int)),(0:Int),())))
def oq:List dn:=[.val (.sl 79 Al) [], .val (.int .i64) []]
def zN:List jY:=[.val (.int .i64) [] []]
def uB:Entry:=⟨17,oq,zN,fun n (c:Cont (kin oq))=>uJ n c.1 c.2.1⟩
def Ag:Hint:=⟨0,[],[(0,[0,1,5],[])],[],[(40,some 23,vW)],[],[],[],[]⟩
theorem G7:∀n (c:Cont (kin oq)),fQ T Ag Tryz.f17 oq zN n c=uB.F n c:=by intro n c; kernel_rfl
theorem Hy [Fr] (n:Nat):ak Tryz.prog n uB:=aj mixed aI Tryz.func17 (by kernel_rfl) (hi:=Ag) (aa (Jn n) aA) G7
def uL (n:Nat) (a0:xY) (a1:Int):Option (Int×Unit):=((uK n a0.1 a1).bind fun r1=>(if decide (r1.1<(0:Int))=true then some ((-1:Int),()) else ((uJ n a0.2.1 r1.1).bind fun r2=>(if decide (r2.1<(0:Int))=true then some ((-1:Int),()) else some (r2.1,())))))
def sW:List dn:=[.val UB [], .val (.int .i64) []]
def DW:List jY:=[.val (.int .i64) [] []]
def yV:Entry:=⟨5,sW,DW,fun n (c:Cont (kin sW))=>uL n c.1 c.2.1⟩
def Ej:Hint:=⟨0,[],[],[],[(16,some 8,yU),(17,some 14,uB)],[],[],[],[]⟩
theorem Lv:∀n (c:Cont (kin sW)),fQ T Ej Tryz.f5 sW DW n c=yV.F n c:=by intro n c; kernel_rfl
theorem LP [Fr] (n:Nat):ak Tryz.prog n yV:=aj mixed aI Tryz.func5 (by kernel_rfl) (hi:=Ej) (aa (LM n) (aa (Hy n) aA)) Lv
def nk (n:Nat) (a0:List Int):Option ((List Int)×Unit):=(if (a0.length:Int)=(a0.length:Int)∧0≤(a0.length:Int)∧(a0.length:Int) * 1≤140737488355328 then (rounds (fun L1 (v1:(List Int)×Int×(List Int)×Unit)=>(if decide (v1.2.1<(v1.1.length:Int))=true then (if aH v1.2.1 v1.1.length then (if aH v1.2.1 v1.2.2.1.length then L1 (v1.1,IntKind.i64.wrap (v1.2.1+(1:Int)),v1.2.2.1.set v1.2.1.toNat (v1.1.getD v1.2.1.toNat (0:Int)),()) else none) else none) else some (v1.2.2.1,()))) n (a0,(0:Int),List.replicate (a0.length:Int).toNat (0:Int),())) else none)
def sZ:List dn:=[.val (.sl 5 (.int .u8)) []]
def DX:List jY:=[.own (.sl 5 (.int .u8)) [5] [] []]
def qw:Entry:=⟨49,sZ,DX,fun n (c:Cont (kin sZ))=>nk n c.1⟩
def Em:Hint:=⟨0,[],[(0,[0,3,4],[226])],[],[],[],[],[],[]⟩
theorem Lx:∀n (c:Cont (kin sZ)),fQ T Em Tryz.f49 sZ DX n c=qw.F n c:=by intro n c; kernel_rfl
theorem zh [Fr] (n:Nat):ak Tryz.prog n qw:=aj mixed aI Tryz.func49 (by kernel_rfl) (hi:=Em) aA Lx
def nu (n:Nat) (a0:tN):Option (tN×Unit):=((nk n a0.2.2.2.1).bind fun r1=>some ((a0.1,a0.2.1,a0.2.2.1,r1.1,()),()))
def qj:List dn:=[.val BO []]
def AR:List jY:=[.own BO [5] [] []]
def vX:Entry:=⟨172,qj,AR,fun n (c:Cont (kin qj))=>nu n c.1⟩
def BL:Hint:=⟨0,[17],[],[],[(49,some 15,qw)],[],[],[],[]⟩
theorem Ja:∀n (c:Cont (kin qj)),fQ T BL Tryz.f172 qj AR n c=vX.F n c:=by intro n c; kernel_rfl
theorem Jo [Fr] (n:Nat):ak Tryz.prog n vX:=aj mixed aI Tryz.func172 (by kernel_rfl) (hi:=BL) (aa (zh n) aA) Ja
def pF (n:Nat) (a0:List tN):Option ((List tN)×Unit):=(if (a0.length:Int)=(a0.length:Int)∧0≤(a0.length:Int)∧(a0.length:Int) * 48≤140737488355328 then (rounds (fun L1 (v1:(List tN)×Int×(List tN)×Unit)=>(if decide (v1.2.1<(v1.1.length:Int))=true then (if aH v1.2.1 v1.1.length then ((nu n (v1.1.getD v1.2.1.toNat lH)).bind fun r2=>(if aH v1.2.1 v1.2.2.1.length then L1 (v1.1,IntKind.i64.wrap (v1.2.1+(1:Int)),v1.2.2.1.set v1.2.1.toNat r2.1,()) else none)) else none) else some (v1.2.2.1,()))) n (a0,(0:Int),List.replicate (a0.length:Int).toNat lH,())) else none)
def ou:List dn:=[.val (.sl 203 BO) []]
def zP:List jY:=[.own (.sl 162 BO) [5,162] [] []]
def uC:Entry:=⟨150,ou,zP,fun n (c:Cont (kin ou))=>pF n c.1⟩
def Ah:Hint:=⟨0,[],[(0,[0,3,4],[226])],[],[(172,some 20,vX)],[],[],[],[]⟩
theorem G8:∀n (c:Cont (kin ou)),fQ T Ah Tryz.f150 ou zP n c=uC.F n c:=by intro n c; kernel_rfl
theorem Hz [Fr] (n:Nat):ak Tryz.prog n uC:=aj mixed aI Tryz.func150 (by kernel_rfl) (hi:=Ah) (aa (Jo n) aA) G8
def uM (n:Nat) (a0:dR):Option (dR×Unit):=((pF n a0.2.2.2.1).bind fun r1=>some ((a0.1,a0.2.1,a0.2.2.1,r1.1,()),()))
def xq:List dn:=[.val Mf []]
def Gc:List jY:=[.own oL [5,162] [] []]
def CG:Entry:=⟨115,xq,Gc,fun n (c:Cont (kin xq))=>uM n c.1⟩
def Ho:Hint:=⟨0,[17],[],[],[(150,some 15,uC)],[],[],[],[]⟩
theorem Qa:∀n (c:Cont (kin xq)),fQ T Ho Tryz.f115 xq Gc n c=CG.F n c:=by intro n c; kernel_rfl
theorem Qd [Fr] (n:Nat):ak Tryz.prog n CG:=aj mixed aI Tryz.func115 (by kernel_rfl) (hi:=Ho) (aa (Hz n) aA) Qa
def wT (n:Nat) (a0:List dR):Option ((List dR)×Unit):=(if (a0.length:Int)=(a0.length:Int)∧0≤(a0.length:Int)∧(a0.length:Int) * 56≤140737488355328 then (rounds (fun L1 (v1:(List dR)×fJ)=>(if decide (v1.2.1<(v1.1.length:Int))=true then (if aH v1.2.1 v1.1.length then ((uM n (v1.1.getD v1.2.1.toNat dH)).bind fun r2=>(if aH v1.2.1 v1.2.2.1.length then L1 (v1.1,IntKind.i64.wrap (v1.2.1+(1:Int)),v1.2.2.1.set v1.2.1.toNat r2.1,()) else none)) else none) else some (v1.2.2.1,()))) n (a0,(0:Int),List.replicate (a0.length:Int).toNat dH,())) else none)
def vE:List dn:=[.val (.sl 142 Mf) []]
def EX:List jY:=[.own (.sl 147 oL) [5,147,162] [] []]
def Bb:Entry:=⟨90,vE,EX,fun n (c:Cont (kin vE))=>wT n c.1⟩
def F4:Hint:=⟨0,[],[(0,[0,3,4],[226])],[],[(115,some 20,CG)],[],[],[],[]⟩
theorem Oj:∀n (c:Cont (kin vE)),fQ T F4 Tryz.f90 vE EX n c=Bb.F n c:=by intro n c; kernel_rfl
theorem Oq [Fr] (n:Nat):ak Tryz.prog n Bb:=aj mixed aI Tryz.func90 (by kernel_rfl) (hi:=F4) (aa (Qd n) aA) Oj
def uO (n:Nat) (a0:fJ):Option (fJ×Unit):=((wT n a0.2.1).bind fun r1=>some ((a0.1,r1.1,()),()))
def tq:List dn:=[.val Ux []]
def DY:List jY:=[.own rV [5,147,162] [] []]
def yX:Entry:=⟨50,tq,DY,fun n (c:Cont (kin tq))=>uO n c.1⟩
def En:Hint:=⟨0,[11],[],[],[(90,some 9,Bb)],[],[],[],[]⟩
theorem LA:∀n (c:Cont (kin tq)),fQ T En Tryz.f50 tq DY n c=yX.F n c:=by intro n c; kernel_rfl
theorem LQ [Fr] (n:Nat):ak Tryz.prog n yX:=aj mixed aI Tryz.func50 (by kernel_rfl) (hi:=En) (aa (Oq n) aA) LA
def uP (n:Nat) (a0:Be):Option (Be×Unit):=((nk n a0.2.1).bind fun r1=>((nk n a0.2.2.1).bind fun r2=>((uO n a0.2.2.2.1).bind fun r3=>some ((a0.1,r1.1,r2.1,r3.1,()),()))))
def tu:List dn:=[.val Uz []]
def DZ:List jY:=[.own CR [5,147,162] [] []]
def yY:Entry:=⟨22,tu,DZ,fun n (c:Cont (kin tu))=>uP n c.1⟩
def Eo:Hint:=⟨0,[19],[],[],[(49,some 9,qw),(49,some 13,qw),(50,some 17,yX)],[],[],[],[]⟩
theorem LB:∀n (c:Cont (kin tu)),fQ T Eo Tryz.f22 tu DZ n c=yY.F n c:=by intro n c; kernel_rfl
theorem LU [Fr] (n:Nat):ak Tryz.prog n yY:=aj mixed aI Tryz.func22 (by kernel_rfl) (hi:=Eo) (aa (zh n) (aa (zh n) (aa (LQ n) aA))) LB
def sJ (n:Nat) (a0:List Int):Option ((List Int)×Unit):=(if (a0.length:Int)=(a0.length:Int)∧0≤(a0.length:Int)∧(a0.length:Int) * 8≤140737488355328 then (rounds (fun L1 (v1:(List Int)×Int×(List Int)×Unit)=>(if decide (v1.2.1<(v1.1.length:Int))=true then (if aH v1.2.1 v1.1.length then (if aH v1.2.1 v1.2.2.1.length then L1 (v1.1,IntKind.i64.wrap (v1.2.1+(1:Int)),v1.2.2.1.set v1.2.1.toNat (v1.1.getD v1.2.1.toNat (0:Int)),()) else none) else none) else some (v1.2.2.1,()))) n (a0,(0:Int),List.replicate (a0.length:Int).toNat (0:Int),())) else none)
def rM:List dn:=[.val (.sl 2 (.int .i64)) []]
def Cr:List jY:=[.own (.sl 2 (.int .i64)) [2] [] []]
def xV:Entry:=⟨91,rM,Cr,fun n (c:Cont (kin rM))=>sJ n c.1⟩
def Dz:Hint:=⟨0,[],[(0,[0,3,4],[226])],[],[],[],[],[],[]⟩
theorem KC:∀n (c:Cont (kin rM)),fQ T Dz Tryz.f91 rM Cr n c=xV.F n c:=by intro n c; kernel_rfl
theorem KI [Fr] (n:Nat):ak Tryz.prog n xV:=aj mixed aI Tryz.func91 (by kernel_rfl) (hi:=Dz) aA KC
def qZ (n:Nat) (a0:H6):Option (H6×Unit):=((sJ n a0.2.2.1).bind fun r1=>some ((a0.1,a0.2.1,r1.1,a0.2.2.2.1,()),()))
def ql:List dn:=[.val Al []]
def AU:List jY:=[.own Al [2] [] []]
def vY:Entry:=⟨51,ql,AU,fun n (c:Cont (kin ql))=>qZ n c.1⟩
def BM:Hint:=⟨0,[17],[],[],[(91,some 12,xV)],[],[],[],[]⟩
theorem Jb:∀n (c:Cont (kin ql)),fQ T BM Tryz.f51 ql AU n c=vY.F n c:=by intro n c; kernel_rfl
theorem Jp [Fr] (n:Nat):ak Tryz.prog n vY:=aj mixed aI Tryz.func51 (by kernel_rfl) (hi:=BM) (aa (KI n) aA) Jb
def uN (n:Nat) (a0:List H6):Option ((List H6)×Unit):=(if (a0.length:Int)=(a0.length:Int)∧0≤(a0.length:Int)∧(a0.length:Int) * 56≤140737488355328 then (rounds (fun L1 (v1:(List H6)×Int×(List H6)×Unit)=>(if decide (v1.2.1<(v1.1.length:Int))=true then (if aH v1.2.1 v1.1.length then ((qZ n (v1.1.getD v1.2.1.toNat xP)).bind fun r2=>(if aH v1.2.1 v1.2.2.1.length then L1 (v1.1,IntKind.i64.wrap (v1.2.1+(1:Int)),v1.2.2.1.set v1.2.1.toNat r2.1,()) else none)) else none) else some (v1.2.2.1,()))) n (a0,(0:Int),List.replicate (a0.length:Int).toNat xP,())) else none)
def oz:List dn:=[.val (.sl 79 Al) []]
def zQ:List jY:=[.own (.sl 74 Al) [2,74] [] []]
def uD:Entry:=⟨23,oz,zQ,fun n (c:Cont (kin oz))=>uN n c.1⟩
def Ai:Hint:=⟨0,[],[(0,[0,3,4],[226])],[],[(51,some 20,vY)],[],[],[],[]⟩
theorem G9:∀n (c:Cont (kin oz)),fQ T Ai Tryz.f23 oz zQ n c=uD.F n c:=by intro n c; kernel_rfl
theorem HV [Fr] (n:Nat):ak Tryz.prog n uD:=aj mixed aI Tryz.func23 (by kernel_rfl) (hi:=Ai) (aa (Jp n) aA) G9
def jQ (n:Nat) (a0:xY):Option (xY×Unit):=((uP n a0.1).bind fun r1=>((uN n a0.2.1).bind fun r2=>some ((r1.1,r2.1,()),())))
def tC:List dn:=[.val UB []]
def D5:List jY:=[.own FT [2,5,74,147,162] [] []]
def mF:Entry:=⟨7,tC,D5,fun n (c:Cont (kin tC))=>jQ n c.1⟩
def Ep:Hint:=⟨0,[12],[],[],[(22,some 6,yY),(23,some 10,uD)],[],[],[],[]⟩
theorem LC:∀n (c:Cont (kin tC)),fQ T Ep Tryz.f7 tC D5 n c=mF.F n c:=by intro n c; kernel_rfl
theorem uZ [Fr] (n:Nat):ak Tryz.prog n mF:=aj mixed aI Tryz.func7 (by kernel_rfl) (hi:=Ep) (aa (LU n) (aa (HV n) aA)) LC
def bM (n:Nat) (a0:Int) (a1:Int) (a2:Int):Option (Bool×Unit):=(if decide (a0≥a1)=true then some (decide (a0≤a2),()) else some (false,()))
def Ud:Entry:=⟨74,[.val (.int .i64) [], .val (.int .i64) [], .val (.int .i64) []],[.val .bool [] []],fun n c=>bM n c.1 c.2.1 c.2.2.1⟩
def H_0:Hint:=⟨0,[],[],[],[],[],[],[],[]⟩
theorem D_0:gK T H_0 Tryz.f74 Ud:=by intro n c; kernel_rfl
theorem V5 [Fr] (n:Nat):ak Tryz.prog n Ud:=aj mixed aI Tryz.func74 (by kernel_rfl) (hi:=H_0) aA D_0
def jr (n:Nat) (a0:List Int):Option (Bool×Unit):=(rounds (fun L1 (v1:Zt0)=>(if decide (v1.2.1<(v1.1.length:Int))=true then (if aH v1.2.1 v1.1.length then (if decide ((v1.1.getD v1.2.1.toNat 0)<(97:Int))=true then some (false,()) else (if aH v1.2.1 v1.1.length then (if decide ((v1.1.getD v1.2.1.toNat 0)>(122:Int))=true then some (false,()) else L1 (v1.1,IntKind.i64.wrap (v1.2.1+(1:Int)),())) else none)) else none) else ((bM n (v1.1.length:Int) (1:Int) (8:Int)).bind fun r2=>some (r2.1,())))) n (a0,(0:Int),()))
def E_1:Entry:=⟨85,[.val .str []],[.val .bool [] []],fun n c=>jr n c.1⟩
def H_1:Hint:=⟨0,[],[(0,[0,3],[])],[],[(74,some 22,Ud)],[],[],[],[]⟩
theorem D_1:gK T H_1 Tryz.f85 E_1:=by intro n c; kernel_rfl
theorem K_1 [Fr] (n:Nat):ak Tryz.prog n E_1:=aj mixed aI Tryz.func85 (by kernel_rfl) (hi:=H_1) (aa (V5 n) aA) D_1
def gX (n:Nat) (a0:tN):Option (Int×Unit):=((bM n a0.1 (1:Int) (999:Int)).bind fun r1=>(if (!r1.1)=true then some ((3:Int),()) else ((bM n a0.2.1 (0:Int) (15:Int)).bind fun r2=>(if (!r2.1)=true then some ((3:Int),()) else ((bM n a0.2.2.1 (0:Int) (9999:Int)).bind fun r3=>(if (!r3.1)=true then some ((3:Int),()) else (if decide ((a0.2.2.2.1.length:Int)>(400:Int))=true then some ((2:Int),()) else some ((0:Int),()))))))))
def E_2:Entry:=⟨134,[.ro BO],[.val (.int .i64) [] []],fun n c=>gX n c.1⟩
def H_2:Hint:=⟨0,[],[],[],[(74,some 7,Ud),(74,some 14,Ud),(74,some 22,Ud)],[],[],[],[]⟩
theorem D_2:gK T H_2 Tryz.f134 E_2:=by intro n c; kernel_rfl
theorem K_2 [Fr] (n:Nat):ak Tryz.prog n E_2:=aj mixed aI Tryz.func134 (by kernel_rfl) (hi:=H_2) (aa (V5 n) (aa (V5 n) (aa (V5 n) aA))) D_2
def nS (n:Nat) (a0:dR):Option (Int×Unit):=((jr n a0.1).bind fun r1=>(if (!r1.1)=true then some ((5:Int),()) else ((bM n a0.2.1 (1:Int) (999:Int)).bind fun r2=>(if (!r2.1)=true then some ((3:Int),()) else ((bM n a0.2.2.1 (1:Int) (1000:Int)).bind fun r3=>(if (!r3.1)=true then some ((3:Int),()) else (if decide ((a0.2.2.2.1.length:Int)>(6:Int))=true then some ((2:Int),()) else (rounds (fun L4 (v4:dR×Int×Unit)=>(if decide (v4.2.1<(v4.1.2.2.2.1.length:Int))=true then (if aH v4.2.1 v4.1.2.2.2.1.length then ((gX n (v4.1.2.2.2.1.getD v4.2.1.toNat lH)).bind fun r5=>(if (!decide (r5.1=(0:Int)))=true then some (r5.1,()) else (if decide (v4.2.1>(0:Int))=true then (if aH v4.2.1 v4.1.2.2.2.1.length then (if aH (IntKind.i64.wrap (v4.2.1 - (1:Int))) v4.1.2.2.2.1.length then (if decide (((v4.1.2.2.2.1.getD v4.2.1.toNat lH).1)≤((v4.1.2.2.2.1.getD (IntKind.i64.wrap (v4.2.1 - (1:Int))).toNat lH).1))=true then some ((1:Int),()) else (if aH v4.2.1 v4.1.2.2.2.1.length then (if decide (((v4.1.2.2.2.1.getD v4.2.1.toNat lH).1)≥v4.1.2.2.1)=true then some ((1:Int),()) else L4 (v4.1,IntKind.i64.wrap (v4.2.1+(1:Int)),())) else none)) else none) else none) else (if aH v4.2.1 v4.1.2.2.2.1.length then (if decide (((v4.1.2.2.2.1.getD v4.2.1.toNat lH).1)≥v4.1.2.2.1)=true then some ((1:Int),()) else L4 (v4.1,IntKind.i64.wrap (v4.2.1+(1:Int)),())) else none)))) else none) else some ((0:Int),()))) n (a0,(0:Int),())))))))))
def E_3:Entry:=⟨108,[.ro oL],[.val (.int .i64) [] []],fun n c=>nS n c.1⟩
def H_3:Hint:=⟨0,[],[(0,[0,3],[])],[],[(85,some 9,E_1),(74,some 15,Ud),(74,some 22,Ud),(134,some 46,E_2)],[],[],[],[]⟩
theorem D_3:gK T H_3 Tryz.f108 E_3:=by intro n c; kernel_rfl
theorem K_3 [Fr] (n:Nat):ak Tryz.prog n E_3:=aj mixed aI Tryz.func108 (by kernel_rfl) (hi:=H_3) (aa (K_1 n) (aa (V5 n) (aa (V5 n) (aa (K_2 n) aA)))) D_3
def jR (n:Nat) (a0:fJ):Option (Int×Unit):=((bM n a0.1 (1:Int) (1000:Int)).bind fun r1=>(if (!r1.1)=true then some ((3:Int),()) else (if decide ((a0.2.1.length:Int)>(3:Int))=true then some ((2:Int),()) else (rounds (fun L2 (v2:fJ×Int×Unit)=>(if decide (v2.2.1<(v2.1.2.1.length:Int))=true then (if aH v2.2.1 v2.1.2.1.length then ((nS n (v2.1.2.1.getD v2.2.1.toNat dH)).bind fun r3=>(if (!decide (r3.1=(0:Int)))=true then some (r3.1,()) else (if aH v2.2.1 v2.1.2.1.length then (if decide ((((v2.1.2.1.getD v2.2.1.toNat dH).2).1)≥v2.1.1)=true then some ((9:Int),()) else (rounds (fun L4 (v4:fJ×Int×Int×Unit)=>(if decide (v4.2.2.1<v4.2.1)=true then (if aH v4.2.2.1 v4.1.2.1.length then (if aH v4.2.1 v4.1.2.1.length then (if decide (((v4.1.2.1.getD v4.2.2.1.toNat dH).1)=((v4.1.2.1.getD v4.2.1.toNat dH).1))=true then some ((6:Int),()) else (if aH v4.2.2.1 v4.1.2.1.length then (if aH v4.2.1 v4.1.2.1.length then (if decide ((((v4.1.2.1.getD v4.2.2.1.toNat dH).2).1)=(((v4.1.2.1.getD v4.2.1.toNat dH).2).1))=true then some ((6:Int),()) else L4 (v4.1,v4.2.1,IntKind.i64.wrap (v4.2.2.1+(1:Int)),())) else none) else none)) else none) else none) else L2 (v4.1,IntKind.i64.wrap (v4.2.1+(1:Int)),()))) n (v2.1,v2.2.1,(0:Int),()))) else none))) else none) else some ((0:Int),()))) n (a0,(0:Int),())))))
def E_4:Entry:=⟨80,[.ro rV],[.val (.int .i64) [] []],fun n c=>jR n c.1⟩
def H_4:Hint:=⟨0,[],[(0,[0,3],[]),(2,[0,3,5],[])],[],[(74,some 10,Ud),(108,some 33,E_3)],[],[],[],[]⟩
theorem D_4:gK T H_4 Tryz.f80 E_4:=by intro n c; kernel_rfl
theorem K_4 [Fr] (n:Nat):ak Tryz.prog n E_4:=aj mixed aI Tryz.func80 (by kernel_rfl) (hi:=H_4) (aa (V5 n) (aa (K_3 n) aA)) D_4
def dm (n:Nat) (a0:Zt2):Option (Int×Zt2×Unit):=(if decide (a0.2.1≥(a0.1.length:Int))=true then some ((0:Int),(a0.1,a0.2.1,true,a0.2.2.2),()) else (if aH (IntKind.i64.wrap ((IntKind.i64.wrap (a0.2.1+(1:Int))) - (1:Int))) a0.1.length then some (IntKind.i64.wrap (a0.1.getD (IntKind.i64.wrap ((IntKind.i64.wrap (a0.2.1+(1:Int))) - (1:Int))).toNat (0:Int)),(a0.1,IntKind.i64.wrap (a0.2.1+(1:Int)),a0.2.2),()) else none))
def Zd:Entry:=⟨136,[.rw Xo [] [4294967295] []],[.val (.int .i64) [] []],fun n c=>dm n c.1⟩
def H_5:Hint:=⟨0,[],[],[],[],[],[],[],[]⟩
theorem D_5:gK T H_5 Tryz.f136 Zd:=by intro n c; kernel_rfl
theorem K_5 [Fr] (n:Nat):ak Tryz.prog n Zd:=aj mixed aI Tryz.func136 (by kernel_rfl) (hi:=H_5) aA D_5
def iC (n:Nat) (a0:Zt2) (a1:Int):Option ((List Int)×Zt2×Unit):=(rounds (fun L1 (v1:Int×Zt2×(List Int)×Unit)=>(if decide (v1.1>(0:Int))=true then (if (!v1.2.1.2.2.1)=true then ((dm n v1.2.1).bind fun r2=>(if (v1.2.2.1.length+[IntKind.u8.wrap r2.1].length) * 1≤140737488355328 then L1 (IntKind.i64.wrap (v1.1 - (1:Int)),r2.2.1,v1.2.2.1++[IntKind.u8.wrap r2.1],()) else none)) else some (v1.2.2.1,v1.2.1,())) else some (v1.2.2.1,v1.2.1,()))) n (a1,a0,([]:List Int),()))
def E_6:Entry:=⟨137,[.rw Xo [] [4294967295] [], .val (.int .i64) []],[.own (.sl 5 (.int .u8)) [5] [] []],fun n c=>iC n c.1 c.2.1⟩
def H_6:Hint:=⟨0,[],[(0,[0,1,5],[0,194])],[],[(136,some 20,Zd)],[],[],[],[]⟩
theorem D_6:gK T H_6 Tryz.f137 E_6:=by intro n c; kernel_rfl
theorem K_6 [Fr] (n:Nat):ak Tryz.prog n E_6:=aj mixed aI Tryz.func137 (by kernel_rfl) (hi:=H_6) (aa (K_5 n) aA) D_6
def fZ (n:Nat) (a0:Zt2):Option (Int×Zt2×Unit):=((dm n a0).bind fun r1=>((dm n r1.2.1).bind fun r2=>some (IntKind.i64.wrap ((IntKind.i64.wrap (r1.1 * (256:Int)))+r2.1),r2.2.1,())))
def E_7:Entry:=⟨138,[.rw Xo [] [4294967295] []],[.val (.int .i64) [] []],fun n c=>fZ n c.1⟩
def H_7:Hint:=⟨0,[],[],[],[(136,some 5,Zd),(136,some 9,Zd)],[],[],[],[]⟩
theorem D_7:gK T H_7 Tryz.f138 E_7:=by intro n c; kernel_rfl
theorem K_7 [Fr] (n:Nat):ak Tryz.prog n E_7:=aj mixed aI Tryz.func138 (by kernel_rfl) (hi:=H_7) (aa (K_5 n) (aa (K_5 n) aA)) D_7
def xg (n:Nat) (a0:List Int):Option (iD×Unit):=((dm n (a0,(2:Int),false,())).bind fun r1=>((dm n r1.2.1).bind fun r2=>((iC n r2.2.1 r2.1).bind fun r3=>((dm n r3.2.1).bind fun r4=>((iC n r4.2.1 r4.1).bind fun r5=>((dm n r5.2.1).bind fun r6=>(rounds (fun L7 (v7:Int×iD×Zt2×iD×Unit)=>(if decide (v7.1>(0:Int))=true then (if (!v7.2.2.1.2.2.1)=true then ((fZ n v7.2.2.1).bind fun r8=>(if (v7.2.2.2.1.2.2.2.1.length+[r8.1].length) * 8≤140737488355328 then L7 (IntKind.i64.wrap (v7.1 - (1:Int)),v7.2.1,r8.2.1,(v7.2.2.2.1.1,v7.2.2.2.1.2.1,v7.2.2.2.1.2.2.1,v7.2.2.2.1.2.2.2.1++[r8.1],v7.2.2.2.1.2.2.2.2),()) else none)) else ((dm n v7.2.2.1).bind fun r9=>((dm n r9.2.1).bind fun Rb=>((fZ n Rb.2.1).bind fun Lf=>((fZ n Lf.2.1).bind fun NJ=>((iC n NJ.2.1 NJ.1).bind fun RA=>some ((v7.2.2.2.1.1,v7.2.2.2.1.2.1,v7.2.2.2.1.2.2.1,v7.2.2.2.1.2.2.2.1,r9.1,Rb.1,Lf.1,RA.1,v7.2.2.2.1.2.2.2.2.2.2.2.2),()))))))) else ((dm n v7.2.2.1).bind fun r14=>((dm n r14.2.1).bind fun WS=>((fZ n WS.2.1).bind fun r16=>((fZ n r16.2.1).bind fun r17=>((iC n r17.2.1 r17.1).bind fun r18=>some ((v7.2.2.2.1.1,v7.2.2.2.1.2.1,v7.2.2.2.1.2.2.1,v7.2.2.2.1.2.2.2.1,r14.1,WS.1,r16.1,r18.1,v7.2.2.2.1.2.2.2.2.2.2.2.2),())))))))) n (r6.1,H7,r6.2.1,(r1.1,r3.1,r5.1,([]:List Int),(0:Int),(0:Int),(0:Int),([]:List Int),()),()))))))))
def E_8:Entry:=⟨110,[.val (.sl 5 (.int .u8)) []],[.own kr [2,5] [] []],fun n c=>xg n c.1⟩
def H_8:Hint:=⟨0,[30,45],[(0,[2,3,4,5],[66,98,130])],[],[(136,some 9,Zd),(136,some 11,Zd),(137,some 12,E_6),(136,some 15,Zd),(137,some 16,E_6),(136,some 19,Zd),(138,some 31,E_7),(136,some 35,Zd),(136,some 37,Zd),(138,some 39,E_7),(138,some 41,E_7),(137,some 43,E_6)],[],[],[],[]⟩
theorem D_8:gK T H_8 Tryz.f110 E_8:=by intro n c; kernel_rfl
theorem K_8 [Fr] (n:Nat):ak Tryz.prog n E_8:=aj mixed aI Tryz.func110 (by kernel_rfl) (hi:=H_8) (aa (K_5 n) (aa (K_5 n) (aa (K_6 n) (aa (K_5 n) (aa (K_6 n) (aa (K_5 n) (aa (K_7 n) (aa (K_5 n) (aa (K_5 n) (aa (K_7 n) (aa (K_7 n) (aa (K_6 n) aA)))))))))))) D_8
def iM (n:Nat) (a0:Int):Option (Bool×Unit):=(if decide (a0=(5:Int))=true then some (true,()) else some (decide (a0=(6:Int)),()))
def E_9:Entry:=⟨140,[.val (.int .i64) []],[.val .bool [] []],fun n c=>iM n c.1⟩
def H_9:Hint:=⟨0,[],[],[],[],[],[],[],[]⟩
theorem D_9:gK T H_9 Tryz.f140 E_9:=by intro n c; kernel_rfl
theorem K_9 [Fr] (n:Nat):ak Tryz.prog n E_9:=aj mixed aI Tryz.func140 (by kernel_rfl) (hi:=H_9) aA D_9
def wZ (n:Nat) (a0:iD):Option (Bool×Unit):=((bM n a0.1 (1:Int) (7:Int)).bind fun r1=>(if (!r1.1)=true then some (false,()) else ((iM n a0.1).bind fun r2=>(if (!r2.1)=true then (if (!decide (a0.2.2.1=([]:List Int)))=true then some (false,()) else ((iM n a0.1).bind fun r3=>(if (!r3.1)=true then (if (!decide (a0.1=(4:Int)))=true then (if decide ((a0.2.2.2.1.length:Int)>(0:Int))=true then some (false,()) else (if (!decide (a0.1=(4:Int)))=true then (if (!decide (a0.2.2.2.2.1=(0:Int)))=true then some (false,()) else (if (!decide (a0.1=(3:Int)))=true then (if (!decide (a0.2.2.2.2.2.2.1=(0:Int)))=true then some (false,()) else (if decide ((a0.2.2.2.2.2.2.2.1.length:Int)>(0:Int))=true then some (false,()) else (if decide (a0.1=(3:Int))=true then some (true,()) else (if decide (a0.1=(4:Int))=true then some (true,()) else some (decide (a0.2.2.2.2.2.1=(0:Int)),()))))) else (if decide (a0.1=(3:Int))=true then some (true,()) else (if decide (a0.1=(4:Int))=true then some (true,()) else some (decide (a0.2.2.2.2.2.1=(0:Int)),()))))) else (if (!decide (a0.1=(3:Int)))=true then (if (!decide (a0.2.2.2.2.2.2.1=(0:Int)))=true then some (false,()) else (if decide ((a0.2.2.2.2.2.2.2.1.length:Int)>(0:Int))=true then some (false,()) else (if decide (a0.1=(3:Int))=true then some (true,()) else (if decide (a0.1=(4:Int))=true then some (true,()) else some (decide (a0.2.2.2.2.2.1=(0:Int)),()))))) else (if decide (a0.1=(3:Int))=true then some (true,()) else (if decide (a0.1=(4:Int))=true then some (true,()) else some (decide (a0.2.2.2.2.2.1=(0:Int)),())))))) else (if (!decide (a0.1=(4:Int)))=true then (if (!decide (a0.2.2.2.2.1=(0:Int)))=true then some (false,()) else (if (!decide (a0.1=(3:Int)))=true then (if (!decide (a0.2.2.2.2.2.2.1=(0:Int)))=true then some (false,()) else (if decide ((a0.2.2.2.2.2.2.2.1.length:Int)>(0:Int))=true then some (false,()) else (if decide (a0.1=(3:Int))=true then some (true,()) else (if decide (a0.1=(4:Int))=true then some (true,()) else some (decide (a0.2.2.2.2.2.1=(0:Int)),()))))) else (if decide (a0.1=(3:Int))=true then some (true,()) else (if decide (a0.1=(4:Int))=true then some (true,()) else some (decide (a0.2.2.2.2.2.1=(0:Int)),()))))) else (if (!decide (a0.1=(3:Int)))=true then (if (!decide (a0.2.2.2.2.2.2.1=(0:Int)))=true then some (false,()) else (if decide ((a0.2.2.2.2.2.2.2.1.length:Int)>(0:Int))=true then some (false,()) else (if decide (a0.1=(3:Int))=true then some (true,()) else (if decide (a0.1=(4:Int))=true then some (true,()) else some (decide (a0.2.2.2.2.2.1=(0:Int)),()))))) else (if decide (a0.1=(3:Int))=true then some (true,()) else (if decide (a0.1=(4:Int))=true then some (true,()) else some (decide (a0.2.2.2.2.2.1=(0:Int)),())))))) else (if (!decide (a0.1=(4:Int)))=true then (if (!decide (a0.2.2.2.2.1=(0:Int)))=true then some (false,()) else (if (!decide (a0.1=(3:Int)))=true then (if (!decide (a0.2.2.2.2.2.2.1=(0:Int)))=true then some (false,()) else (if decide ((a0.2.2.2.2.2.2.2.1.length:Int)>(0:Int))=true then some (false,()) else (if decide (a0.1=(3:Int))=true then some (true,()) else (if decide (a0.1=(4:Int))=true then some (true,()) else some (decide (a0.2.2.2.2.2.1=(0:Int)),()))))) else (if decide (a0.1=(3:Int))=true then some (true,()) else (if decide (a0.1=(4:Int))=true then some (true,()) else some (decide (a0.2.2.2.2.2.1=(0:Int)),()))))) else (if (!decide (a0.1=(3:Int)))=true then (if (!decide (a0.2.2.2.2.2.2.1=(0:Int)))=true then some (false,()) else (if decide ((a0.2.2.2.2.2.2.2.1.length:Int)>(0:Int))=true then some (false,()) else (if decide (a0.1=(3:Int))=true then some (true,()) else (if decide (a0.1=(4:Int))=true then some (true,()) else some (decide (a0.2.2.2.2.2.1=(0:Int)),()))))) else (if decide (a0.1=(3:Int))=true then some (true,()) else (if decide (a0.1=(4:Int))=true then some (true,()) else some (decide (a0.2.2.2.2.2.1=(0:Int)),())))))))) else ((iM n a0.1).bind fun r4=>(if (!r4.1)=true then (if (!decide (a0.1=(4:Int)))=true then (if decide ((a0.2.2.2.1.length:Int)>(0:Int))=true then some (false,()) else (if (!decide (a0.1=(4:Int)))=true then (if (!decide (a0.2.2.2.2.1=(0:Int)))=true then some (false,()) else (if (!decide (a0.1=(3:Int)))=true then (if (!decide (a0.2.2.2.2.2.2.1=(0:Int)))=true then some (false,()) else (if decide ((a0.2.2.2.2.2.2.2.1.length:Int)>(0:Int))=true then some (false,()) else (if decide (a0.1=(3:Int))=true then some (true,()) else (if decide (a0.1=(4:Int))=true then some (true,()) else some (decide (a0.2.2.2.2.2.1=(0:Int)),()))))) else (if decide (a0.1=(3:Int))=true then some (true,()) else (if decide (a0.1=(4:Int))=true then some (true,()) else some (decide (a0.2.2.2.2.2.1=(0:Int)),()))))) else (if (!decide (a0.1=(3:Int)))=true then (if (!decide (a0.2.2.2.2.2.2.1=(0:Int)))=true then some (false,()) else (if decide ((a0.2.2.2.2.2.2.2.1.length:Int)>(0:Int))=true then some (false,()) else (if decide (a0.1=(3:Int))=true then some (true,()) else (if decide (a0.1=(4:Int))=true then some (true,()) else some (decide (a0.2.2.2.2.2.1=(0:Int)),()))))) else (if decide (a0.1=(3:Int))=true then some (true,()) else (if decide (a0.1=(4:Int))=true then some (true,()) else some (decide (a0.2.2.2.2.2.1=(0:Int)),())))))) else (if (!decide (a0.1=(4:Int)))=true then (if (!decide (a0.2.2.2.2.1=(0:Int)))=true then some (false,()) else (if (!decide (a0.1=(3:Int)))=true then (if (!decide (a0.2.2.2.2.2.2.1=(0:Int)))=true then some (false,()) else (if decide ((a0.2.2.2.2.2.2.2.1.length:Int)>(0:Int))=true then some (false,()) else (if decide (a0.1=(3:Int))=true then some (true,()) else (if decide (a0.1=(4:Int))=true then some (true,()) else some (decide (a0.2.2.2.2.2.1=(0:Int)),()))))) else (if decide (a0.1=(3:Int))=true then some (true,()) else (if decide (a0.1=(4:Int))=true then some (true,()) else some (decide (a0.2.2.2.2.2.1=(0:Int)),()))))) else (if (!decide (a0.1=(3:Int)))=true then (if (!decide (a0.2.2.2.2.2.2.1=(0:Int)))=true then some (false,()) else (if decide ((a0.2.2.2.2.2.2.2.1.length:Int)>(0:Int))=true then some (false,()) else (if decide (a0.1=(3:Int))=true then some (true,()) else (if decide (a0.1=(4:Int))=true then some (true,()) else some (decide (a0.2.2.2.2.2.1=(0:Int)),()))))) else (if decide (a0.1=(3:Int))=true then some (true,()) else (if decide (a0.1=(4:Int))=true then some (true,()) else some (decide (a0.2.2.2.2.2.1=(0:Int)),())))))) else (if (!decide (a0.1=(4:Int)))=true then (if (!decide (a0.2.2.2.2.1=(0:Int)))=true then some (false,()) else (if (!decide (a0.1=(3:Int)))=true then (if (!decide (a0.2.2.2.2.2.2.1=(0:Int)))=true then some (false,()) else (if decide ((a0.2.2.2.2.2.2.2.1.length:Int)>(0:Int))=true then some (false,()) else (if decide (a0.1=(3:Int))=true then some (true,()) else (if decide (a0.1=(4:Int))=true then some (true,()) else some (decide (a0.2.2.2.2.2.1=(0:Int)),()))))) else (if decide (a0.1=(3:Int))=true then some (true,()) else (if decide (a0.1=(4:Int))=true then some (true,()) else some (decide (a0.2.2.2.2.2.1=(0:Int)),()))))) else (if (!decide (a0.1=(3:Int)))=true then (if (!decide (a0.2.2.2.2.2.2.1=(0:Int)))=true then some (false,()) else (if decide ((a0.2.2.2.2.2.2.2.1.length:Int)>(0:Int))=true then some (false,()) else (if decide (a0.1=(3:Int))=true then some (true,()) else (if decide (a0.1=(4:Int))=true then some (true,()) else some (decide (a0.2.2.2.2.2.1=(0:Int)),()))))) else (if decide (a0.1=(3:Int))=true then some (true,()) else (if decide (a0.1=(4:Int))=true then some (true,()) else some (decide (a0.2.2.2.2.2.1=(0:Int)),())))))))))))
def aeL:Entry:=⟨139,[.ro kr],[.val .bool [] []],fun n c=>wZ n c.1⟩
def ahy:Hint:=⟨0,[],[],[],[(74,some 7,Ud),(140,some 14,E_9),(140,some 28,E_9)],[],[],[],[]⟩
theorem alf:gK T ahy Tryz.f139 aeL:=by intro n c; kernel_rfl
theorem amM [Fr] (n:Nat):ak Tryz.prog n aeL:=aj mixed aI Tryz.func139 (by kernel_rfl) (hi:=ahy) (aa (V5 n) (aa (K_9 n) (aa (K_9 n) aA))) alf
def oU (n:Nat) (a0:List Int):Option (Bool×Unit):=(rounds (fun L1 (v1:Zt0)=>(if decide (v1.2.1<(v1.1.length:Int))=true then (if aH v1.2.1 v1.1.length then ((bM n (v1.1.getD v1.2.1.toNat (0:Int)) (1:Int) (999:Int)).bind fun r2=>(if (!r2.1)=true then some (false,()) else (if decide (v1.2.1>(0:Int))=true then (if aH v1.2.1 v1.1.length then (if aH (IntKind.i64.wrap (v1.2.1 - (1:Int))) v1.1.length then (if decide ((v1.1.getD v1.2.1.toNat (0:Int))≤(v1.1.getD (IntKind.i64.wrap (v1.2.1 - (1:Int))).toNat (0:Int)))=true then some (false,()) else L1 (v1.1,IntKind.i64.wrap (v1.2.1+(1:Int)),())) else none) else none) else L1 (v1.1,IntKind.i64.wrap (v1.2.1+(1:Int)),())))) else none) else some (true,()))) n (a0,(0:Int),()))
def ab9:Entry:=⟨84,[.val (.sl 2 (.int .i64)) []],[.val .bool [] []],fun n c=>oU n c.1⟩
def ahz:Hint:=⟨0,[],[(0,[0,3],[])],[],[(74,some 14,Ud)],[],[],[],[]⟩
theorem alg:gK T ahz Tryz.f84 ab9:=by intro n c; kernel_rfl
theorem ai5 [Fr] (n:Nat):ak Tryz.prog n ab9:=aj mixed aI Tryz.func84 (by kernel_rfl) (hi:=ahz) (aa (V5 n) aA) alg
def qB (n:Nat) (a0:iD):Option (Int×Unit):=((wZ n a0).bind fun r1=>(if (!r1.1)=true then some ((1:Int),()) else ((jr n a0.2.1).bind fun r2=>(if (!r2.1)=true then some ((5:Int),()) else ((iM n a0.1).bind fun r3=>(if r3.1=true then ((jr n a0.2.2.1).bind fun r4=>(if (!r4.1)=true then some ((5:Int),()) else (if decide ((a0.2.2.2.1.length:Int)>(6:Int))=true then some ((2:Int),()) else ((oU n a0.2.2.2.1).bind fun r5=>(if (!r5.1)=true then some ((3:Int),()) else (if decide (a0.1=(4:Int))=true then ((bM n a0.2.2.2.2.1 (1:Int) (3:Int)).bind fun r6=>(if (!r6.1)=true then some ((3:Int),()) else ((bM n a0.2.2.2.2.2.1 (0:Int) (15:Int)).bind fun r7=>(if (!r7.1)=true then some ((3:Int),()) else ((bM n a0.2.2.2.2.2.2.1 (0:Int) (9999:Int)).bind fun r8=>(if (!r8.1)=true then some ((3:Int),()) else (if decide ((a0.2.2.2.2.2.2.2.1.length:Int)>(400:Int))=true then some ((2:Int),()) else some ((0:Int),())))))))) else ((bM n a0.2.2.2.2.2.1 (0:Int) (15:Int)).bind fun r9=>(if (!r9.1)=true then some ((3:Int),()) else ((bM n a0.2.2.2.2.2.2.1 (0:Int) (9999:Int)).bind fun Rb=>(if (!Rb.1)=true then some ((3:Int),()) else (if decide ((a0.2.2.2.2.2.2.2.1.length:Int)>(400:Int))=true then some ((2:Int),()) else some ((0:Int),())))))))))))) else (if decide ((a0.2.2.2.1.length:Int)>(6:Int))=true then some ((2:Int),()) else ((oU n a0.2.2.2.1).bind fun Lf=>(if (!Lf.1)=true then some ((3:Int),()) else (if decide (a0.1=(4:Int))=true then ((bM n a0.2.2.2.2.1 (1:Int) (3:Int)).bind fun NJ=>(if (!NJ.1)=true then some ((3:Int),()) else ((bM n a0.2.2.2.2.2.1 (0:Int) (15:Int)).bind fun RA=>(if (!RA.1)=true then some ((3:Int),()) else ((bM n a0.2.2.2.2.2.2.1 (0:Int) (9999:Int)).bind fun r14=>(if (!r14.1)=true then some ((3:Int),()) else (if decide ((a0.2.2.2.2.2.2.2.1.length:Int)>(400:Int))=true then some ((2:Int),()) else some ((0:Int),())))))))) else ((bM n a0.2.2.2.2.2.1 (0:Int) (15:Int)).bind fun WS=>(if (!WS.1)=true then some ((3:Int),()) else ((bM n a0.2.2.2.2.2.2.1 (0:Int) (9999:Int)).bind fun r16=>(if (!r16.1)=true then some ((3:Int),()) else (if decide ((a0.2.2.2.2.2.2.2.1.length:Int)>(400:Int))=true then some ((2:Int),()) else some ((0:Int),()))))))))))))))))
def acd:Entry:=⟨111,[.ro kr],[.val (.int .i64) [] []],fun n c=>qB n c.1⟩
def ahA:Hint:=⟨0,[],[],[],[(139,some 4,aeL),(85,some 10,E_1),(140,some 17,E_9),(85,some 23,E_1),(84,some 37,ab9),(74,some 50,Ud),(74,some 59,Ud),(74,some 67,Ud)],[],[],[],[]⟩
theorem alh:gK T ahA Tryz.f111 acd:=by intro n c; kernel_rfl
theorem ajc [Fr] (n:Nat):ak Tryz.prog n acd:=aj mixed aI Tryz.func111 (by kernel_rfl) (hi:=ahA) (aa (amM n) (aa (K_1 n) (aa (K_9 n) (aa (K_1 n) (aa (ai5 n) (aa (V5 n) (aa (V5 n) (aa (V5 n) aA)))))))) alh
def nV (n:Nat) (a0:Int):Option ((List Int)×Unit):=(if (256:Int)≠0 then (if (256:Int)≠0 then some ([IntKind.u8.wrap (IntKind.i64.wrap (a0.tdiv (256:Int))),IntKind.u8.wrap (a0.tmod (256:Int))],()) else none) else none)
def Ui:Entry:=⟨141,[.val (.int .i64) []],[.own (.sl 5 (.int .u8)) [5] [] []],fun n c=>nV n c.1⟩
def ahB:Hint:=⟨0,[],[],[],[],[],[],[],[]⟩
theorem ali:gK T ahB Tryz.f141 Ui:=by intro n c; kernel_rfl
theorem Zr [Fr] (n:Nat):ak Tryz.prog n Ui:=aj mixed aI Tryz.func141 (by kernel_rfl) (hi:=ahB) aA ali
def yz (n:Nat) (a0:List Int):Option (Int×Unit):=(rounds (fun L1 (v1:(List Int)×Int×Int×Unit)=>(if decide (v1.2.2.1<(v1.1.length:Int))=true then (if aH v1.2.2.1 v1.1.length then (if (65521:Int)≠0 then L1 (v1.1,(IntKind.i64.wrap ((IntKind.i64.wrap (v1.2.1 * (31:Int)))+(IntKind.i64.wrap (v1.1.getD v1.2.2.1.toNat (0:Int))))).tmod (65521:Int),IntKind.i64.wrap (v1.2.2.1+(1:Int)),()) else none) else none) else some (v1.2.1,()))) n (a0,(1:Int),(0:Int),()))
def aeM:Entry:=⟨142,[.val (.sl 5 (.int .u8)) []],[.val (.int .i64) [] []],fun n c=>yz n c.1⟩
def ahC:Hint:=⟨0,[],[(0,[0,3,4],[])],[],[],[],[],[],[]⟩
theorem alj:gK T ahC Tryz.f142 aeM:=by intro n c; kernel_rfl
theorem amN [Fr] (n:Nat):ak Tryz.prog n aeM:=aj mixed aI Tryz.func142 (by kernel_rfl) (hi:=ahC) aA alj
def xe (n:Nat) (a0:iD):Option ((List Int)×Unit):=(if ([(0:Int),(0:Int),IntKind.u8.wrap a0.1,IntKind.u8.wrap (a0.2.1.length:Int)].length+a0.2.1.length) * 1≤140737488355328 then (if (([(0:Int),(0:Int),IntKind.u8.wrap a0.1,IntKind.u8.wrap (a0.2.1.length:Int)]++a0.2.1).length+[IntKind.u8.wrap (a0.2.2.1.length:Int)].length) * 1≤140737488355328 then (if ((([(0:Int),(0:Int),IntKind.u8.wrap a0.1,IntKind.u8.wrap (a0.2.1.length:Int)]++a0.2.1)++[IntKind.u8.wrap (a0.2.2.1.length:Int)]).length+a0.2.2.1.length) * 1≤140737488355328 then (if (((([(0:Int),(0:Int),IntKind.u8.wrap a0.1,IntKind.u8.wrap (a0.2.1.length:Int)]++a0.2.1)++[IntKind.u8.wrap (a0.2.2.1.length:Int)])++a0.2.2.1).length+[IntKind.u8.wrap (a0.2.2.2.1.length:Int)].length) * 1≤140737488355328 then (rounds (fun L1 (v1:iD×Int×(List Int)×Unit)=>(if decide (v1.2.1<(v1.1.2.2.2.1.length:Int))=true then (if aH v1.2.1 v1.1.2.2.2.1.length then ((nV n (v1.1.2.2.2.1.getD v1.2.1.toNat (0:Int))).bind fun r2=>(if (v1.2.2.1.length+r2.1.length) * 1≤140737488355328 then L1 (v1.1,IntKind.i64.wrap (v1.2.1+(1:Int)),v1.2.2.1++r2.1,()) else none)) else none) else (if (v1.2.2.1.length+[IntKind.u8.wrap v1.1.2.2.2.2.1,IntKind.u8.wrap v1.1.2.2.2.2.2.1].length) * 1≤140737488355328 then ((nV n v1.1.2.2.2.2.2.2.1).bind fun r3=>(if ((v1.2.2.1++[IntKind.u8.wrap v1.1.2.2.2.2.1,IntKind.u8.wrap v1.1.2.2.2.2.2.1]).length+r3.1.length) * 1≤140737488355328 then ((nV n (v1.1.2.2.2.2.2.2.2.1.length:Int)).bind fun r4=>(if (((v1.2.2.1++[IntKind.u8.wrap v1.1.2.2.2.2.1,IntKind.u8.wrap v1.1.2.2.2.2.2.1])++r3.1).length+r4.1.length) * 1≤140737488355328 then (if ((((v1.2.2.1++[IntKind.u8.wrap v1.1.2.2.2.2.1,IntKind.u8.wrap v1.1.2.2.2.2.2.1])++r3.1)++r4.1).length+v1.1.2.2.2.2.2.2.2.1.length) * 1≤140737488355328 then ((nV n (IntKind.i64.wrap ((((((v1.2.2.1++[IntKind.u8.wrap v1.1.2.2.2.2.1,IntKind.u8.wrap v1.1.2.2.2.2.2.1])++r3.1)++r4.1)++v1.1.2.2.2.2.2.2.2.1).length:Int)+(2:Int)))).bind fun r5=>(if r5.1.length≤((((v1.2.2.1++[IntKind.u8.wrap v1.1.2.2.2.2.1,IntKind.u8.wrap v1.1.2.2.2.2.2.1])++r3.1)++r4.1)++v1.1.2.2.2.2.2.2.2.1).length then ((yz n (r5.1++((((v1.2.2.1++[IntKind.u8.wrap v1.1.2.2.2.2.1,IntKind.u8.wrap v1.1.2.2.2.2.2.1])++r3.1)++r4.1)++v1.1.2.2.2.2.2.2.2.1).drop r5.1.length)).bind fun r6=>((nV n r6.1).bind fun r7=>(if ((r5.1++((((v1.2.2.1++[IntKind.u8.wrap v1.1.2.2.2.2.1,IntKind.u8.wrap v1.1.2.2.2.2.2.1])++r3.1)++r4.1)++v1.1.2.2.2.2.2.2.2.1).drop r5.1.length).length+r7.1.length) * 1≤140737488355328 then some ((r5.1++((((v1.2.2.1++[IntKind.u8.wrap v1.1.2.2.2.2.1,IntKind.u8.wrap v1.1.2.2.2.2.2.1])++r3.1)++r4.1)++v1.1.2.2.2.2.2.2.2.1).drop r5.1.length)++r7.1,()) else none))) else none)) else none) else none)) else none)) else none))) n (a0,(0:Int),((([(0:Int),(0:Int),IntKind.u8.wrap a0.1,IntKind.u8.wrap (a0.2.1.length:Int)]++a0.2.1)++[IntKind.u8.wrap (a0.2.2.1.length:Int)])++a0.2.2.1)++[IntKind.u8.wrap (a0.2.2.2.1.length:Int)],())) else none) else none) else none) else none)
def aeN:Entry:=⟨112,[.ro kr],[.own (.sl 5 (.int .u8)) [5] [] []],fun n c=>xe n c.1⟩
def ahD:Hint:=⟨0,[],[(0,[0,3,4],[514])],[],[(141,some 64,Ui),(141,some 83,Ui),(141,some 91,Ui),(141,some 102,Ui),(142,some 106,aeM),(141,some 107,Ui)],[],[],[103],[]⟩
theorem alk:gK T ahD Tryz.f112 aeN:=by intro n c; kernel_rfl
theorem amO [Fr] (n:Nat):ak Tryz.prog n aeN:=aj mixed aI Tryz.func112 (by kernel_rfl) (hi:=ahD) (aa (Zr n) (aa (Zr n) (aa (Zr n) (aa (Zr n) (aa (amN n) (aa (Zr n) aA)))))) alk
def wU (n:Nat) (a0:List Int):Option (anD×Unit):=(if decide ((a0.length:Int)<(2:Int))=true then some (((5:Int),(0:Int),H7,()),()) else (if aH (0:Int) a0.length then (if aH (1:Int) a0.length then (if decide ((IntKind.i64.wrap ((IntKind.i64.wrap ((IntKind.i64.wrap (a0.getD (0:Int).toNat (0:Int))) * (256:Int)))+(IntKind.i64.wrap (a0.getD (1:Int).toNat (0:Int)))))<(2:Int))=true then some (((5:Int),(0:Int),H7,()),()) else (if decide ((IntKind.i64.wrap ((IntKind.i64.wrap ((IntKind.i64.wrap (a0.getD (0:Int).toNat (0:Int))) * (256:Int)))+(IntKind.i64.wrap (a0.getD (1:Int).toNat (0:Int)))))>(a0.length:Int))=true then some (((5:Int),(0:Int),H7,()),()) else (if 0≤(IntKind.i64.wrap ((IntKind.i64.wrap ((IntKind.i64.wrap (a0.getD (0:Int).toNat (0:Int))) * (256:Int)))+(IntKind.i64.wrap (a0.getD (1:Int).toNat (0:Int)))))∧(IntKind.i64.wrap ((IntKind.i64.wrap ((IntKind.i64.wrap (a0.getD (0:Int).toNat (0:Int))) * (256:Int)))+(IntKind.i64.wrap (a0.getD (1:Int).toNat (0:Int)))))≤(a0.length:Int) then ((xg n (a0.take (IntKind.i64.wrap ((IntKind.i64.wrap ((IntKind.i64.wrap (a0.getD (0:Int).toNat (0:Int))) * (256:Int)))+(IntKind.i64.wrap (a0.getD (1:Int).toNat (0:Int))))).toNat)).bind fun r1=>((qB n r1.1).bind fun r2=>(if (!decide (r2.1=(0:Int)))=true then some (((5:Int),(0:Int),H7,()),()) else ((xe n r1.1).bind fun r3=>(if 0≤(IntKind.i64.wrap ((IntKind.i64.wrap ((IntKind.i64.wrap (a0.getD (0:Int).toNat (0:Int))) * (256:Int)))+(IntKind.i64.wrap (a0.getD (1:Int).toNat (0:Int)))))∧(IntKind.i64.wrap ((IntKind.i64.wrap ((IntKind.i64.wrap (a0.getD (0:Int).toNat (0:Int))) * (256:Int)))+(IntKind.i64.wrap (a0.getD (1:Int).toNat (0:Int)))))≤(a0.length:Int) then (if (!decide (r3.1=(a0.take (IntKind.i64.wrap ((IntKind.i64.wrap ((IntKind.i64.wrap (a0.getD (0:Int).toNat (0:Int))) * (256:Int)))+(IntKind.i64.wrap (a0.getD (1:Int).toNat (0:Int))))).toNat)))=true then some (((5:Int),(0:Int),H7,()),()) else some (((0:Int),IntKind.i64.wrap ((IntKind.i64.wrap ((IntKind.i64.wrap (a0.getD (0:Int).toNat (0:Int))) * (256:Int)))+(IntKind.i64.wrap (a0.getD (1:Int).toNat (0:Int)))),r1.1,()),())) else none))))) else none))) else none) else none))
def aeO:Entry:=⟨86,[.val (.sl 5 (.int .u8)) []],[.own Mg [2,5] [] []],fun n c=>wU n c.1⟩
def ahE:Hint:=⟨0,[45],[],[],[(110,some 31,E_8),(111,some 32,acd),(112,some 35,aeN)],[],[],[],[]⟩
theorem alm:gK T ahE Tryz.f86 aeO:=by intro n c; kernel_rfl
theorem amP [Fr] (n:Nat):ak Tryz.prog n aeO:=aj mixed aI Tryz.func86 (by kernel_rfl) (hi:=ahE) (aa (K_8 n) (aa (ajc n) (aa (amO n) aA))) alm
def jE (n:Nat) (a0:List Int):Option ((List iD)×Int×Unit):=(rounds (fun L1 (v1:(List Int)×Int×(List iD)×Unit)=>(if decide (v1.2.1<(v1.1.length:Int))=true then (if 0≤v1.2.1∧v1.2.1≤(v1.1.length:Int) then ((wU n (v1.1.drop v1.2.1.toNat)).bind fun r2=>(if (!decide (r2.1.1=(0:Int)))=true then some (v1.2.2.1,v1.2.1,()) else (if (v1.2.2.1.length+[r2.1.2.2.1].length) * 112≤140737488355328 then L1 (v1.1,IntKind.i64.wrap (v1.2.1+r2.1.2.1),v1.2.2.1++[r2.1.2.2.1],()) else none))) else none) else some (v1.2.2.1,v1.2.1,()))) n (a0,(0:Int),([]:List iD),()))
def Za:Entry:=⟨44,[.val (.sl 5 (.int .u8)) []],[.own (.sl 121 kr) [2,5,121] [] [], .val (.int .i64) [] []],fun n c=>jE n c.1⟩
def ahF:Hint:=⟨0,[21],[(0,[0,4,5],[226])],[],[(86,some 15,aeO)],[],[],[],[]⟩
theorem aln:gK T ahF Tryz.f44 Za:=by intro n c; kernel_rfl
theorem afz [Fr] (n:Nat):ak Tryz.prog n Za:=aj mixed aI Tryz.func44 (by kernel_rfl) (hi:=ahF) (aa (amP n) aA) aln
def wV (n:Nat) (a0:Be):Option ((List iD)×Bool×Unit):=((jE n a0.2.1).bind fun r1=>((jE n a0.2.2.1).bind fun r2=>(if (r1.1.length+r2.1.length) * 112≤140737488355328 then (if decide (r1.2.1=(a0.2.1.length:Int))=true then some (r1.1++r2.1,decide (r2.2.1=(a0.2.2.1.length:Int)),()) else some (r1.1++r2.1,false,())) else none)))
def aeP:Entry:=⟨81,[.ro CR],[.own (.sl 121 kr) [2,5,121] [] [], .val .bool [] []],fun n c=>wV n c.1⟩
def ahG:Hint:=⟨0,[],[],[],[(44,some 13,Za),(44,some 21,Za)],[],[],[],[]⟩
theorem alo:gK T ahG Tryz.f81 aeP:=by intro n c; kernel_rfl
theorem amQ [Fr] (n:Nat):ak Tryz.prog n aeP:=aj mixed aI Tryz.func81 (by kernel_rfl) (hi:=ahG) (aa (afz n) (aa (afz n) aA)) alo
def oJ (n:Nat)  : Option (fJ×Unit):=some (((1:Int),([]:List dR),()),())
def ace:Entry:=⟨46,[],[.own rV [5,147,162] [] []],fun n c=>oJ n⟩
def ahH:Hint:=⟨0,[],[],[],[],[],[],[],[]⟩
theorem alp:gK T ahH Tryz.f46 ace:=by intro n c; kernel_rfl
theorem ajd [Fr] (n:Nat):ak Tryz.prog n ace:=aj mixed aI Tryz.func46 (by kernel_rfl) (hi:=ahH) aA alp
def dY (n:Nat) (a0:Int):Option (Jv×Unit):=some ((a0,([]:List Int),R3,()),())
def KD:Entry:=⟨87,[.val (.int .i64) []],[.own Qj [2,5,147,162] [] []],fun n c=>dY n c.1⟩
def ahI:Hint:=⟨0,[],[],[],[],[],[],[],[]⟩
theorem alq:gK T ahI Tryz.f87 KD:=by intro n c; kernel_rfl
theorem Ol [Fr] (n:Nat):ak Tryz.prog n KD:=aj mixed aI Tryz.func87 (by kernel_rfl) (hi:=ahI) aA alq
def jq (n:Nat) (a0:List Int):Option ((List Int)×Unit):=(if (([]:List Int).length+a0.length) * 1≤140737488355328 then some (([]:List Int)++a0,()) else none)
def Uj:Entry:=⟨47,[.val (.sl 5 (.int .u8)) []],[.own (.sl 5 (.int .u8)) [5] [] []],fun n c=>jq n c.1⟩
def ahJ:Hint:=⟨0,[],[],[],[],[],[],[],[]⟩
theorem alr:gK T ahJ Tryz.f47 Uj:=by intro n c; kernel_rfl
theorem Zt [Fr] (n:Nat):ak Tryz.prog n Uj:=aj mixed aI Tryz.func47 (by kernel_rfl) (hi:=ahJ) aA alr
def pI (n:Nat) (a0:List tN):Option ((List tN)×Unit):=(rounds (fun L1 (v1:(List tN)×Int×(List tN)×Unit)=>(if decide (v1.2.1<(v1.1.length:Int))=true then (if aH v1.2.1 v1.1.length then ((jq n (((((v1.1.getD v1.2.1.toNat lH).2).2).2).1)).bind fun r2=>(if (v1.2.2.1.length+[((v1.1.getD v1.2.1.toNat lH).1,((v1.1.getD v1.2.1.toNat lH).2).1,(((v1.1.getD v1.2.1.toNat lH).2).2).1,r2.1,((((v1.1.getD v1.2.1.toNat lH).2).2).2).2)].length) * 48≤140737488355328 then L1 (v1.1,IntKind.i64.wrap (v1.2.1+(1:Int)),v1.2.2.1++[((v1.1.getD v1.2.1.toNat lH).1,((v1.1.getD v1.2.1.toNat lH).2).1,(((v1.1.getD v1.2.1.toNat lH).2).2).1,r2.1,((((v1.1.getD v1.2.1.toNat lH).2).2).2).2)],()) else none)) else none) else some (v1.2.2.1,()))) n (a0,(0:Int),([]:List tN),()))
def aeQ:Entry:=⟨143,[.val (.sl 162 BO) []],[.own (.sl 162 BO) [5,162] [] []],fun n c=>pI n c.1⟩
def ahK:Hint:=⟨0,[22],[(0,[0,3,4],[194])],[],[(47,some 19,Uj)],[],[],[],[]⟩
theorem als:gK T ahK Tryz.f143 aeQ:=by intro n c; kernel_rfl
theorem amR [Fr] (n:Nat):ak Tryz.prog n aeQ:=aj mixed aI Tryz.func143 (by kernel_rfl) (hi:=ahK) (aa (Zt n) aA) als
def jD (n:Nat) (a0:dR):Option (dR×Unit):=((pI n a0.2.2.2.1).bind fun r1=>some ((a0.1,a0.2.1,a0.2.2.1,r1.1,a0.2.2.2.2),()))
def acf:Entry:=⟨113,[.val oL []],[.own oL [5,162] [] []],fun n c=>jD n c.1⟩
def ahL:Hint:=⟨0,[7],[],[],[(143,some 5,aeQ)],[],[],[],[]⟩
theorem alu:gK T ahL Tryz.f113 acf:=by intro n c; kernel_rfl
theorem aje [Fr] (n:Nat):ak Tryz.prog n acf:=aj mixed aI Tryz.func113 (by kernel_rfl) (hi:=ahL) (aa (amR n) aA) alu
def lC (n:Nat) (a0:fJ):Option (fJ×Unit):=(rounds (fun L1 (v1:Int×fJ×fJ×fJ×Unit)=>(if decide (v1.1<(v1.2.1.2.1.length:Int))=true then (if aH v1.1 v1.2.1.2.1.length then ((jD n (v1.2.1.2.1.getD v1.1.toNat dH)).bind fun r2=>(if (v1.2.2.2.1.2.1.length+[r2.1].length) * 56≤140737488355328 then L1 (IntKind.i64.wrap (v1.1+(1:Int)),v1.2.1,v1.2.2.1,(v1.2.2.2.1.1,v1.2.2.2.1.2.1++[r2.1],v1.2.2.2.1.2.2),()) else none)) else none) else some (v1.2.2.2.1,()))) n ((0:Int),a0,R3,(a0.1,([]:List dR),()),()))
def Xc:Entry:=⟨88,[.val rV []],[.own rV [5,147,162] [] []],fun n c=>lC n c.1⟩
def ahM:Hint:=⟨0,[16,26],[(0,[1,2,3,4],[34,66,98])],[],[(113,some 22,acf)],[],[],[],[]⟩
theorem alv:gK T ahM Tryz.f88 Xc:=by intro n c; kernel_rfl
theorem acv [Fr] (n:Nat):ak Tryz.prog n Xc:=aj mixed aI Tryz.func88 (by kernel_rfl) (hi:=ahM) (aa (aje n) aA) alv
def tV (n:Nat) (a0:fJ) (a1:List Int):Option (Int×Unit):=(rounds (fun L1 (v1:fJ×Zt0)=>(if decide (v1.2.2.1<(v1.1.2.1.length:Int))=true then (if aH v1.2.2.1 v1.1.2.1.length then (if decide (((v1.1.2.1.getD v1.2.2.1.toNat dH).1)=v1.2.1)=true then some (v1.2.2.1,()) else L1 (v1.1,v1.2.1,IntKind.i64.wrap (v1.2.2.1+(1:Int)),())) else none) else some ((-1:Int),()))) n (a0,a1,(0:Int),()))
def Zb:Entry:=⟨145,[.ro rV, .val .str []],[.val (.int .i64) [] []],fun n c=>tV n c.1 c.2.1⟩
def ahN:Hint:=⟨0,[],[(0,[0,1,5],[])],[],[],[],[],[],[]⟩
theorem alx:gK T ahN Tryz.f145 Zb:=by intro n c; kernel_rfl
theorem afA [Fr] (n:Nat):ak Tryz.prog n Zb:=aj mixed aI Tryz.func145 (by kernel_rfl) (hi:=ahN) aA alx
def w9 (n:Nat) (a0:fJ) (a1:iD):Option (Jv×Unit):=((tV n a0 a1.2.1).bind fun r1=>(if decide (r1.1≥(0:Int))=true then ((dY n (6:Int)).bind fun r2=>some (r2.1,())) else (if decide ((a0.2.1.length:Int)≥(3:Int))=true then ((dY n (10:Int)).bind fun r3=>some (r3.1,())) else (if decide (a0.1≥(1000:Int))=true then ((dY n (10:Int)).bind fun r4=>some (r4.1,())) else ((lC n a0).bind fun r5=>(if (r5.1.2.1.length+[(a1.2.1,a0.1,(1:Int),([]:List tN),())].length) * 56≤140737488355328 then some (((0:Int),([]:List Int),(IntKind.i64.wrap (a0.1+(1:Int)),r5.1.2.1++[(a1.2.1,a0.1,(1:Int),([]:List tN),())],r5.1.2.2),()),()) else none))))))
def aeR:Entry:=⟨144,[.val rV [], .ro kr],[.own Qj [2,5,147,162] [] []],fun n c=>w9 n c.1 c.2.1⟩
def ahO:Hint:=⟨0,[26,41],[],[],[(145,some 10,Zb),(87,some 12,KD),(87,some 22,KD),(88,some 24,Xc)],[],[],[],[]⟩
theorem aly:gK T ahO Tryz.f144 aeR:=by intro n c; kernel_rfl
theorem amS [Fr] (n:Nat):ak Tryz.prog n aeR:=aj mixed aI Tryz.func144 (by kernel_rfl) (hi:=ahO) (aa (afA n) (aa (Ol n) (aa (Ol n) (aa (acv n) aA)))) aly
def nU (n:Nat) (a0:dR) (a1:tN):Option (Int×dR×Unit):=((jq n a1.2.2.2.1).bind fun r1=>(if (a0.2.2.2.1.length+[(a0.2.2.1,a1.2.1,a1.2.2.1,r1.1,a1.2.2.2.2)].length) * 48≤140737488355328 then some (a0.2.2.1,(a0.1,a0.2.1,IntKind.i64.wrap (a0.2.2.1+(1:Int)),a0.2.2.2.1++[(a0.2.2.1,a1.2.1,a1.2.2.1,r1.1,a1.2.2.2.2)],a0.2.2.2.2),()) else none))
def acg:Entry:=⟨146,[.rw oL [5,162] [5,162,4294967295] [5,162], .val BO []],[.val (.int .i64) [] []],fun n c=>nU n c.1 c.2.1⟩
def ahP:Hint:=⟨0,[18,19],[],[],[(47,some 12,Uj)],[],[],[],[]⟩
theorem alz:gK T ahP Tryz.f146 acg:=by intro n c; kernel_rfl
theorem ajf [Fr] (n:Nat):ak Tryz.prog n acg:=aj mixed aI Tryz.func146 (by kernel_rfl) (hi:=ahP) (aa (Zt n) aA) alz
def nT (n:Nat) (a0:List Int) (a1:Int):Option (Bool×Unit):=(rounds (fun L1 (v1:(List Int)×Int×Int×Unit)=>(if decide (v1.2.2.1<(v1.1.length:Int))=true then (if aH v1.2.2.1 v1.1.length then (if decide ((v1.1.getD v1.2.2.1.toNat (0:Int))=v1.2.1)=true then some (true,()) else L1 (v1.1,v1.2.1,IntKind.i64.wrap (v1.2.2.1+(1:Int)),())) else none) else some (false,()))) n (a0,a1,(0:Int),()))
def Uk:Entry:=⟨170,[.val (.sl 2 (.int .i64)) [], .val (.int .i64) []],[.val .bool [] []],fun n c=>nT n c.1 c.2.1⟩
def Zn:Hint:=⟨0,[],[(0,[0,1,5],[])],[],[],[],[],[],[]⟩
theorem aeH:gK T Zn Tryz.f170 Uk:=by intro n c; kernel_rfl
theorem afB [Fr] (n:Nat):ak Tryz.prog n Uk:=aj mixed aI Tryz.func170 (by kernel_rfl) (hi:=Zn) aA aeH
def uU (n:Nat) (a0:Int) (a1:Int) (a2:Int):Option (Int×Unit):=(if decide (a1=(2:Int))=true then some (IntKind.i64.wrap ((BitVec.ofInt (IntKind.bits .i64) a0 ||| BitVec.ofInt (IntKind.bits .i64) a2).toNat),()) else (if decide (a1=(3:Int))=true then some (IntKind.i64.wrap ((BitVec.ofInt (IntKind.bits .i64) a0 &&& ~~~ BitVec.ofInt (IntKind.bits .i64) a2).toNat),()) else some (a2,())))
def aeS:Entry:=⟨171,[.val (.int .i64) [], .val (.int .i64) [], .val (.int .i64) []],[.val (.int .i64) [] []],fun n c=>uU n c.1 c.2.1 c.2.2.1⟩
def ahQ:Hint:=⟨0,[],[],[],[],[],[],[],[]⟩
theorem alA:gK T ahQ Tryz.f171 aeS:=by intro n c; kernel_rfl
theorem amT [Fr] (n:Nat):ak Tryz.prog n aeS:=aj mixed aI Tryz.func171 (by kernel_rfl) (hi:=ahQ) aA alA
def wY (n:Nat) (a0:dR) (a1:iD):Option ((List Int)×dR×Unit):=(rounds (fun L1 (v1:iD×Int×dR×(List Int)×Unit)=>(if decide (v1.2.1<(v1.2.2.1.2.2.2.1.length:Int))=true then (if aH v1.2.1 v1.2.2.1.2.2.2.1.length then ((nT n v1.1.2.2.2.1 ((v1.2.2.1.2.2.2.1.getD v1.2.1.toNat lH).1)).bind fun r2=>(if r2.1=true then ((uU n (((v1.2.2.1.2.2.2.1.getD v1.2.1.toNat lH).2).1) v1.1.2.2.2.2.1 v1.1.2.2.2.2.2.1).bind fun r3=>(if (v1.2.2.2.1.length+[((fF v1.2.2.1.2.2.2.1 v1.2.1.toNat lH fun z1=>(z1.1,r3.1,z1.2.2)).getD v1.2.1.toNat lH).1].length) * 8≤140737488355328 then L1 (v1.1,IntKind.i64.wrap (v1.2.1+(1:Int)),(v1.2.2.1.1,v1.2.2.1.2.1,v1.2.2.1.2.2.1,(fF v1.2.2.1.2.2.2.1 v1.2.1.toNat lH fun z1=>(z1.1,r3.1,z1.2.2)),v1.2.2.1.2.2.2.2),v1.2.2.2.1++[((fF v1.2.2.1.2.2.2.1 v1.2.1.toNat lH fun z1=>(z1.1,r3.1,z1.2.2)).getD v1.2.1.toNat lH).1],()) else none)) else L1 (v1.1,IntKind.i64.wrap (v1.2.1+(1:Int)),v1.2.2.1,v1.2.2.2.1,()))) else none) else some (v1.2.2.2.1,v1.2.2.1,()))) n (a1,(0:Int),a0,([]:List Int),()))
def aeT:Entry:=⟨147,[.rw oL [5,162] [162] [], .ro kr],[.own (.sl 2 (.int .i64)) [2] [] []],fun n c=>wY n c.1 c.2.1⟩
def ahR:Hint:=⟨0,[21],[(0,[0,1,5,6],[0,258])],[],[(170,some 32,Uk),(171,some 46,aeS)],[],[],[],[]⟩
theorem alB:gK T ahR Tryz.f147 aeT:=by intro n c; kernel_rfl
theorem amU [Fr] (n:Nat):ak Tryz.prog n aeT:=aj mixed aI Tryz.func147 (by kernel_rfl) (hi:=ahR) (aa (afB n) (aa (amT n) aA)) alB
namespace IdT
def tyI:YU:={ ty:=[(2,(.int .i64)),(3,(.int .i64)),(4, .bool),(5,(.int .u8)),(6,(.int .u8)),(7,Zk4),(8,Zk4),(9, .str),(10, .str),(11, .str),(12,(.int .u64)),(13,Zk0),(14,Zk0),(21,(.int .i32)),(22,(.sl 5 (.int .u8))),(23,(.sl 142 Zk9)),(24,Uw),(25,Uw),(26,Uy),(27,Uy),(28,(.sl 79 Al)),(29,Xr),(30,Xr),(32,(.sl 9 .str)),(33,(.sl 147 KJ)),(34,RX),(35,RX),(36,RY),(37,RY),(38,(.sl 74 Al)),(39,UA),(40,UA),(41,Xt),(42,Xt),(57,(.sl 2 (.int .i64))),(58,Xq),(59,Xq),(73,Al),(74,Al),(79,Al),(85,(.sl 121 kr)),(88,Xp),(89,Xp),(120,kr),(121,kr),(122,Mg),(123,Mg),(137,(.sl 22 (.sl 5 (.int .u8)))),(140,(.sl 203 Ov)),(141,Zk9),(142,Zk9),(145,(.sl 162 Ov)),(146,KJ),(147,KJ),(161,Ov),(162,Ov),(166,Xn),(167,Xn),(179,Xo),(180,Xo),(203,Ov),(219,(.int .u32)),(220,(.int .u8)),(221,(.int .u8)),(224,(.int .i32)),(225,(.int .i32))],bytes:=[(2,8),(3,8),(4,1),(5,1),(6,1),(7,24),(8,24),(9,16),(10,16),(11,16),(12,8),(13,24),(14,24),(21,4),(22,24),(23,24),(24,32),(25,32),(26,88),(27,88),(28,24),(29,112),(30,112),(32,24),(33,24),(34,32),(35,32),(36,88),(37,88),(38,24),(39,112),(40,112),(41,144),(42,144),(57,24),(58,120),(59,120),(73,56),(74,56),(79,56),(85,24),(88,64),(89,64),(120,112),(121,112),(122,128),(123,128),(137,24),(140,24),(141,56),(142,56),(145,24),(146,56),(147,56),(161,48),(162,48),(166,32),(167,32),(179,40),(180,40),(203,48),(219,4),(220,1),(221,1),(224,4),(225,4)],ptr:=[15,16,17,55,81,83,116,144,151,165,177,182,223],ids:=true }
def T:jF:=tyI.tab
theorem aI:Fa Tryz.prog tyI=true:=by kernel_rfl
theorem mixed:Tryz.prog.follows .mixedOrders=true:=by kernel_rfl
def nT (n:Nat) (a0:List Int) (a1:Int):Option (Bool×Unit):=(rounds (fun L1 (v1:(List Int)×Int×Int×Unit)=>(if decide (v1.2.2.1<(v1.1.length:Int))=true then (if aH v1.2.2.1 v1.1.length then (if decide ((v1.1.getD v1.2.2.1.toNat (0:Int))=v1.2.1)=true then some (true,()) else L1 (v1.1,v1.2.1,IntKind.i64.wrap (v1.2.2.1+(1:Int)),())) else none) else some (false,()))) n (a0,a1,(0:Int),()))
def Uk:Entry:=⟨170,[.val (.sl 2 (.int .i64)) [], .val (.int .i64) []],[.val .bool [] []],fun n c=>nT n c.1 c.2.1⟩
def Zn:Hint:=⟨0,[],[(0,[0,1,5],[])],[],[],[],[],[],[]⟩
theorem aeH:gK T Zn Tryz.f170 Uk:=by intro n c; kernel_rfl
theorem afB [Fr] (n:Nat):ak Tryz.prog n Uk:=aj mixed aI Tryz.func170 (by kernel_rfl) (hi:=Zn) aA aeH
def fV (n:Nat) (a0:Zt9) (a1:List Int) (a2:Int):Option ((List Ql)×Zt9×Unit):=(rounds (fun L1 (v1:(List Int)×Int×Int×Zt9×(List Ql)×(List Ql)×Unit)=>(if decide (v1.2.2.1<(v1.2.2.2.1.2.2.2.1.length:Int))=true then (if aH v1.2.2.1 v1.2.2.2.1.2.2.2.1.length then ((nT n v1.1 ((v1.2.2.2.1.2.2.2.1.getD v1.2.2.1.toNat Qm).1)).bind fun r2=>(if r2.1=true then (if (v1.2.2.2.2.1.length+[v1.2.2.2.1.2.2.2.1.getD v1.2.2.1.toNat Qm].length) * 48≤140737488355328 then L1 (v1.1,v1.2.1,IntKind.i64.wrap (v1.2.2.1+(1:Int)),v1.2.2.2.1,v1.2.2.2.2.1++[v1.2.2.2.1.2.2.2.1.getD v1.2.2.1.toNat Qm],v1.2.2.2.2.2.1,()) else none) else (if (!decide ((IntKind.i64.wrap ((BitVec.ofInt (IntKind.bits .i64) (((v1.2.2.2.1.2.2.2.1.getD v1.2.2.1.toNat Qm).2).1) &&& BitVec.ofInt (IntKind.bits .i64) v1.2.1).toNat))=(0:Int)))=true then (if (v1.2.2.2.2.1.length+[v1.2.2.2.1.2.2.2.1.getD v1.2.2.1.toNat Qm].length) * 48≤140737488355328 then L1 (v1.1,v1.2.1,IntKind.i64.wrap (v1.2.2.1+(1:Int)),v1.2.2.2.1,v1.2.2.2.2.1++[v1.2.2.2.1.2.2.2.1.getD v1.2.2.1.toNat Qm],v1.2.2.2.2.2.1,()) else none) else (if (v1.2.2.2.2.2.1.length+[v1.2.2.2.1.2.2.2.1.getD v1.2.2.1.toNat Qm].length) * 48≤140737488355328 then L1 (v1.1,v1.2.1,IntKind.i64.wrap (v1.2.2.1+(1:Int)),v1.2.2.2.1,v1.2.2.2.2.1,v1.2.2.2.2.2.1++[v1.2.2.2.1.2.2.2.1.getD v1.2.2.1.toNat Qm],()) else none)))) else none) else some (v1.2.2.2.2.1,(v1.2.2.2.1.1,v1.2.2.2.1.2.1,v1.2.2.2.1.2.2.1,v1.2.2.2.2.2.1,v1.2.2.2.1.2.2.2.2),()))) n (a1,a2,(0:Int),a0,([]:List Ql),([]:List Ql),()))
def Xd:Entry:=⟨148,[.rw KJ [5,162] [4294967295] [162], .val (.sl 2 (.int .i64)) [], .val (.int .i64) []],[.own (.sl 162 Ov) [162] [] []],fun n c=>fV n c.1 c.2.1 c.2.2.1⟩
def ahS:Hint:=⟨0,[],[(0,[0,1,2,7,8,9],[0,354,386])],[],[(170,some 32,Uk)],[],[],[],[]⟩
theorem alC:gK T ahS Tryz.f148 Xd:=by intro n c; kernel_rfl
theorem acw [Fr] (n:Nat):ak Tryz.prog n Xd:=aj mixed aI Tryz.func148 (by kernel_rfl) (hi:=ahS) (aa (afB n) aA) alC
end IdT
def fV (n:Nat) (a0:List Int×Int×Int×List kT.CQ×Unit) (a1:List Int) (a2:Int):Option (List kT.CQ×(List Int×Int×Int×List kT.CQ×Unit)×Unit):=jZ.Eb jZ.pick n a0 a1 a2
def aeu:List dn:=[.rw oL [5,162] [4294967295,5] [162,4294967294], .val (.sl 2 (.int .i64)) [], .val (.int .i64) []]
def akP:List jY:=[.own (.sl 162 BO) [5,162] [] []]
def Xd:Entry:=⟨148,aeu,akP,fun n (c:Cont (kin aeu))=>fV n c.1 c.2.1 c.2.2.1⟩
theorem amJ {n:Nat} {nm:List Int} {w h:Int} {xs:List Ql} {us:List Int} {fl:Int} (hc:xs.length * 48≤140737488355328) (hn:xs.length<n) (hb:us.length≤1048576) (hu:us.length<n) :
  IdT.fV n (nm,w,h,xs,()) us fl=some (xs.filter (fun x=>jZ.pick us fl x.1 x.2.1),(nm,w,h,xs.filter (fun x=>!jZ.pick us fl x.1 x.2.1),()),()):=
 jZ.YQ (has:=IdT.nT n) (fun _ _=>rfl) (fun x=>jZ.SL (fun _ _=>rfl) hb hu) hc hn
theorem acw [Fr] (n:Nat):ak Tryz.prog n Xd:=jZ.VM (p:=jZ.pick) (e:=5) (m:=162) (i:=2) (ow:=[162]) (FI:=fun n c=>IdT.fV n c.1 c.2.1 c.2.2.1) rfl (fun fr=>IdT.acw n) (fun _ _ _ _ _ _ hc hn hb hu=>amJ hc hn hb hu)
def uT (n:Nat) (a0:fJ) (a1:Int) (a2:iD):Option ((List Int)×Int×fJ×Unit):=((tV n a0 a2.2.2.1).bind fun r1=>(if decide (r1.1<(0:Int))=true then some (([]:List Int),(4:Int),a0,()) else (if decide (a2.1=(6:Int))=true then (if decide (r1.1=a1)=true then some (([]:List Int),(9:Int),a0,()) else (if aH a1 a0.2.1.length then ((jD n (a0.2.1.getD a1.toNat dH)).bind fun r2=>((fV n r2.1 a2.2.2.2.1 (0:Int)).bind fun r3=>(if aH r1.1 a0.2.1.length then (if decide ((IntKind.i64.wrap (((((((a0.2.1.getD r1.1.toNat dH).2).2).2).1).length:Int)+(r3.1.length:Int)))>(6:Int))=true then some (([]:List Int),(10:Int),a0,()) else (if decide ((IntKind.i64.wrap (((((a0.2.1.getD r1.1.toNat dH).2).2).1)+(r3.1.length:Int)))>(1000:Int))=true then some (([]:List Int),(10:Int),a0,()) else (rounds (fun L4 (v4:Int×iD×Int×Int×fJ×dR×(List tN)×(List Int)×Unit)=>(if decide (v4.2.2.2.1<(v4.2.2.2.2.2.2.1.length:Int))=true then (if aH v4.2.2.2.1 v4.2.2.2.2.2.2.1.length then ((nU n (v4.2.2.2.2.1.2.1.getD v4.2.2.1.toNat dH) (v4.2.2.2.2.2.2.1.getD v4.2.2.2.1.toNat lH)).bind fun r5=>(if (v4.2.2.2.2.2.2.2.1.length+[r5.1].length) * 8≤140737488355328 then L4 (v4.1,v4.2.1,v4.2.2.1,IntKind.i64.wrap (v4.2.2.2.1+(1:Int)),(v4.2.2.2.2.1.1,v4.2.2.2.2.1.2.1.set v4.2.2.1.toNat r5.2.1,v4.2.2.2.2.1.2.2),v4.2.2.2.2.2.1,v4.2.2.2.2.2.2.1,v4.2.2.2.2.2.2.2.1++[r5.1],()) else none)) else none) else (if decide (v4.2.1.1=(6:Int))=true then (if aH v4.1 v4.2.2.2.2.1.2.1.length then some (v4.2.2.2.2.2.2.2.1,(0:Int),(v4.2.2.2.2.1.1,v4.2.2.2.2.1.2.1.set v4.1.toNat v4.2.2.2.2.2.1,v4.2.2.2.2.1.2.2),()) else none) else some (v4.2.2.2.2.2.2.2.1,(0:Int),v4.2.2.2.2.1,())))) n (a1,a2,r1.1,(0:Int),a0,r3.2.1,r3.1,([]:List Int),())))) else none))) else none)) else (if aH a1 a0.2.1.length then ((jD n (a0.2.1.getD a1.toNat dH)).bind fun r6=>((fV n r6.1 a2.2.2.2.1 (0:Int)).bind fun r7=>(if aH r1.1 a0.2.1.length then (if decide ((IntKind.i64.wrap (((((((a0.2.1.getD r1.1.toNat dH).2).2).2).1).length:Int)+(r7.1.length:Int)))>(6:Int))=true then some (([]:List Int),(10:Int),a0,()) else (if decide ((IntKind.i64.wrap (((((a0.2.1.getD r1.1.toNat dH).2).2).1)+(r7.1.length:Int)))>(1000:Int))=true then some (([]:List Int),(10:Int),a0,()) else (rounds (fun L8 (v8:Int×iD×Int×Int×fJ×dR×(List tN)×(List Int)×Unit)=>(if decide (v8.2.2.2.1<(v8.2.2.2.2.2.2.1.length:Int))=true then (if aH v8.2.2.2.1 v8.2.2.2.2.2.2.1.length then ((nU n (v8.2.2.2.2.1.2.1.getD v8.2.2.1.toNat dH) (v8.2.2.2.2.2.2.1.getD v8.2.2.2.1.toNat lH)).bind fun r9=>(if (v8.2.2.2.2.2.2.2.1.length+[r9.1].length) * 8≤140737488355328 then L8 (v8.1,v8.2.1,v8.2.2.1,IntKind.i64.wrap (v8.2.2.2.1+(1:Int)),(v8.2.2.2.2.1.1,v8.2.2.2.2.1.2.1.set v8.2.2.1.toNat r9.2.1,v8.2.2.2.2.1.2.2),v8.2.2.2.2.2.1,v8.2.2.2.2.2.2.1,v8.2.2.2.2.2.2.2.1++[r9.1],()) else none)) else none) else (if decide (v8.2.1.1=(6:Int))=true then (if aH v8.1 v8.2.2.2.2.1.2.1.length then some (v8.2.2.2.2.2.2.2.1,(0:Int),(v8.2.2.2.2.1.1,v8.2.2.2.2.1.2.1.set v8.1.toNat v8.2.2.2.2.2.1,v8.2.2.2.2.1.2.2),()) else none) else some (v8.2.2.2.2.2.2.2.1,(0:Int),v8.2.2.2.2.1,())))) n (a1,a2,r1.1,(0:Int),a0,r7.2.1,r7.1,([]:List Int),())))) else none))) else none))))
def aeU:Entry:=⟨149,[.rw rV [5,147,162] [5,147,162,4294967295] [5,162], .val (.int .i64) [], .ro kr],[.own (.sl 2 (.int .i64)) [2] [] [], .val (.int .i64) [] []],fun n c=>uT n c.1 c.2.1 c.2.2.1⟩
def ahT:Hint:=⟨0,[48,94,96],[(0,[0,1,2,9,10,11,12,13],[0,290,1410,2242])],[],[(145,some 19,Zb),(113,some 39,acf),(148,some 44,Xd),(146,some 83,acg)],[],[],[],[]⟩
theorem alD:gK T ahT Tryz.f149 aeU:=by intro n c; kernel_rfl
theorem amV [Fr] (n:Nat):ak Tryz.prog n aeU:=aj mixed aI Tryz.func149 (by kernel_rfl) (hi:=ahT) (aa (afA n) (aa (aje n) (aa (acw n) (aa (ajf n) aA)))) alD
def uS (n:Nat) (a0:fJ) (a1:iD):Option (Jv×Unit):=(if decide (a1.1=(1:Int))=true then ((w9 n a0 a1).bind fun r1=>some (r1.1,())) else ((tV n a0 a1.2.1).bind fun r2=>(if decide (r2.1<(0:Int))=true then ((dY n (4:Int)).bind fun r3=>some (r3.1,())) else ((lC n a0).bind fun r4=>(if aH r2.1 r4.1.2.1.length then (if decide (a1.1=(2:Int))=true then (if 0≤r2.1∧r2.1≤(r4.1.2.1.length:Int) then (if (([]:List dR).length+(r4.1.2.1.take r2.1.toNat).length) * 56≤140737488355328 then (if 0≤(IntKind.i64.wrap (r2.1+(1:Int)))∧(IntKind.i64.wrap (r2.1+(1:Int)))≤(r4.1.2.1.length:Int) then (if ((([]:List dR)++(r4.1.2.1.take r2.1.toNat)).length+(r4.1.2.1.drop (IntKind.i64.wrap (r2.1+(1:Int))).toNat).length) * 56≤140737488355328 then some (((0:Int),([]:List Int),(r4.1.1,(([]:List dR)++(r4.1.2.1.take r2.1.toNat))++(r4.1.2.1.drop (IntKind.i64.wrap (r2.1+(1:Int))).toNat),r4.1.2.2),()),()) else none) else none) else none) else none) else (if decide (a1.1=(3:Int))=true then (if decide (((((((r4.1.2.1.getD r2.1.toNat dH).2).2).2).1).length:Int)≥(6:Int))=true then ((dY n (10:Int)).bind fun r5=>some (r5.1,())) else (if decide (((((r4.1.2.1.getD r2.1.toNat dH).2).2).1)≥(1000:Int))=true then ((dY n (10:Int)).bind fun r6=>some (r6.1,())) else ((nU n (r4.1.2.1.getD r2.1.toNat dH) ((0:Int),a1.2.2.2.2.2.1,a1.2.2.2.2.2.2.1,a1.2.2.2.2.2.2.2.1,())).bind fun r7=>some (((0:Int),[r7.1],(r4.1.1,r4.1.2.1.set r2.1.toNat r7.2.1,r4.1.2.2),()),())))) else (if decide (a1.1=(4:Int))=true then ((wY n (r4.1.2.1.getD r2.1.toNat dH) a1).bind fun r8=>some (((0:Int),r8.1,(r4.1.1,r4.1.2.1.set r2.1.toNat r8.2.1,r4.1.2.2),()),())) else (if decide (a1.1=(7:Int))=true then ((fV n (r4.1.2.1.getD r2.1.toNat dH) ([]:List Int) (8:Int)).bind fun r9=>(rounds (fun L10 (v10:Int×Jv×Jv×(List tN)×Unit)=>(if decide (v10.1<(v10.2.2.2.1.length:Int))=true then (if aH v10.1 v10.2.2.2.1.length then (if (v10.2.2.1.2.1.length+[(v10.2.2.2.1.getD v10.1.toNat lH).1].length) * 8≤140737488355328 then L10 (IntKind.i64.wrap (v10.1+(1:Int)),v10.2.1,(v10.2.2.1.1,v10.2.2.1.2.1++[(v10.2.2.2.1.getD v10.1.toNat lH).1],v10.2.2.1.2.2),v10.2.2.2.1,()) else none) else none) else some (v10.2.2.1,()))) n ((0:Int),afP,((0:Int),([]:List Int),(r4.1.1,r4.1.2.1.set r2.1.toNat r9.2.1,r4.1.2.2),()),r9.1,()))) else ((uT n r4.1 r2.1 a1).bind fun Lf=>(if (!decide (Lf.2.1=(0:Int)))=true then ((dY n Lf.2.1).bind fun NJ=>some (NJ.1,())) else some (((0:Int),Lf.1,Lf.2.2.1,()),()))))))) else none)))))
def aeV:Entry:=⟨114,[.val rV [], .ro kr],[.val Qj [] []],fun n c=>uS n c.1 c.2.1⟩
def ahU:Hint:=⟨0,[34,123,132],[(1,[4,6,9,10],[130,194,3682])],[],[(144,some 20,aeR),(145,some 25,Zb),(87,some 28,KD),(88,some 30,Xc),(87,some 88,KD),(146,some 103,acg),(147,some 110,aeT),(148,some 115,Xd),(149,some 45,aeU),(87,some 51,KD)],[],[],[],[]⟩
theorem alE:gK T ahU Tryz.f114 aeV:=by intro n c; kernel_rfl
theorem amW [Fr] (n:Nat):ak Tryz.prog n aeV:=aj mixed aI Tryz.func114 (by kernel_rfl) (hi:=ahU) (aa (amS n) (aa (afA n) (aa (Ol n) (aa (acv n) (aa (Ol n) (aa (ajf n) (aa (amU n) (aa (acw n) (aa (amV n) (aa (Ol n) aA)))))))))) alE
def uQ (n:Nat) (a0:fJ) (a1:iD):Option (Jv×Unit):=((jR n a0).bind fun r1=>(if (!decide (r1.1=(0:Int)))=true then ((dY n r1.1).bind fun r2=>some (r2.1,())) else ((qB n a1).bind fun r3=>(if (!decide (r3.1=(0:Int)))=true then ((dY n r3.1).bind fun r4=>some (r4.1,())) else ((uS n a0 a1).bind fun r5=>some (r5.1,()))))))
def aeW:Entry:=⟨89,[.val rV [], .val kr []],[.val Qj [] []],fun n c=>uQ n c.1 c.2.1⟩
def ahV:Hint:=⟨0,[],[],[],[(80,some 7,E_4),(87,some 11,KD),(111,some 12,acd),(87,some 16,KD),(114,some 18,aeV)],[],[],[],[]⟩
theorem alF:gK T ahV Tryz.f89 aeW:=by intro n c; kernel_rfl
theorem amX [Fr] (n:Nat):ak Tryz.prog n aeW:=aj mixed aI Tryz.func89 (by kernel_rfl) (hi:=ahV) (aa (K_4 n) (aa (Ol n) (aa (ajc n) (aa (Ol n) (aa (amW n) aA))))) alF
def kE (n:Nat) (a0:fJ) (a1:List iD):Option (Jv×Unit):=(if decide ((a1.length:Int)>(60:Int))=true then ((dY n (2:Int)).bind fun r1=>some (r1.1,())) else ((jR n a0).bind fun r2=>(if (!decide (r2.1=(0:Int)))=true then ((dY n r2.1).bind fun r3=>some (r3.1,())) else ((lC n a0).bind fun r4=>(rounds (fun L5 (v5:(List iD)×Int×Jv×Jv×Unit)=>(if decide (v5.2.1<(v5.1.length:Int))=true then (if aH v5.2.1 v5.1.length then ((uQ n v5.2.2.2.1.2.2.1 (v5.1.getD v5.2.1.toNat H7)).bind fun r6=>(if (!decide (r6.1.1=(0:Int)))=true then ((dY n r6.1.1).bind fun r7=>some (r7.1,())) else L5 (v5.1,IntKind.i64.wrap (v5.2.1+(1:Int)),v5.2.2.1,(v5.2.2.2.1.1,v5.2.2.2.1.2.1,r6.1.2.2.1,v5.2.2.2.1.2.2.2),()))) else none) else some (v5.2.2.2.1,()))) n (a1,(0:Int),afP,((0:Int),([]:List Int),r4.1,()),()))))))
def ach:Entry:=⟨45,[.val rV [], .val (.sl 121 kr) []],[.val Qj [] []],fun n c=>kE n c.1 c.2.1⟩
def ahW:Hint:=⟨0,[43],[(0,[1,4,6,7],[130,194])],[(1000194,[5,147,162])],[(87,some 12,KD),(80,some 13,E_4),(87,some 17,KD),(88,some 19,Xc),(89,some 33,aeW),(87,some 39,KD)],[],[],[],[]⟩
theorem alG:gK T ahW Tryz.f45 ach:=by intro n c; kernel_rfl
theorem ajg [Fr] (n:Nat):ak Tryz.prog n ach:=aj mixed aI Tryz.func45 (by kernel_rfl) (hi:=ahW) (aa (Ol n) (aa (K_4 n) (aa (Ol n) (aa (acv n) (aa (amX n) (aa (Ol n) aA)))))) alG
def kQ (n:Nat) (a0:tN) (a1:tN):Option (Bool×Unit):=(if decide (a0.1=a1.1)=true then (if decide (a0.2.1=a1.2.1)=true then (if decide (a0.2.2.1=a1.2.2.1)=true then some (decide (a0.2.2.2.1=a1.2.2.2.1),()) else some (false,())) else some (false,())) else some (false,()))
def aeX:Entry:=⟨135,[.ro BO, .ro BO],[.val .bool [] []],fun n c=>kQ n c.1 c.2.1⟩
def ahX:Hint:=⟨0,[],[],[],[],[],[],[],[]⟩
theorem alH:gK T ahX Tryz.f135 aeX:=by intro n c; kernel_rfl
theorem amY [Fr] (n:Nat):ak Tryz.prog n aeX:=aj mixed aI Tryz.func135 (by kernel_rfl) (hi:=ahX) aA alH
def q8 (n:Nat) (a0:dR) (a1:dR):Option (Bool×Unit):=(if (!decide (a0.1=a1.1))=true then some (false,()) else (if (!decide (a0.2.1=a1.2.1))=true then some (false,()) else (if (!decide (a0.2.2.1=a1.2.2.1))=true then some (false,()) else (if (!decide ((a0.2.2.2.1.length:Int)=(a1.2.2.2.1.length:Int)))=true then some (false,()) else (rounds (fun L1 (v1:dR×dR×Int×Unit)=>(if decide (v1.2.2.1<(v1.1.2.2.2.1.length:Int))=true then (if aH v1.2.2.1 v1.1.2.2.2.1.length then (if aH v1.2.2.1 v1.2.1.2.2.2.1.length then ((kQ n (v1.1.2.2.2.1.getD v1.2.2.1.toNat lH) (v1.2.1.2.2.2.1.getD v1.2.2.1.toNat lH)).bind fun r2=>(if (!r2.1)=true then some (false,()) else L1 (v1.1,v1.2.1,IntKind.i64.wrap (v1.2.2.1+(1:Int)),()))) else none) else none) else some (true,()))) n (a0,a1,(0:Int),()))))))
def aeY:Entry:=⟨109,[.ro oL, .ro oL],[.val .bool [] []],fun n c=>q8 n c.1 c.2.1⟩
def ahY:Hint:=⟨0,[],[(0,[0,1,5],[])],[],[(135,some 71,aeX)],[],[],[],[]⟩
theorem alI:gK T ahY Tryz.f109 aeY:=by intro n c; kernel_rfl
theorem amZ [Fr] (n:Nat):ak Tryz.prog n aeY:=aj mixed aI Tryz.func109 (by kernel_rfl) (hi:=ahY) (aa (amY n) aA) alI
def wX (n:Nat) (a0:fJ) (a1:fJ):Option (Bool×Unit):=(if (!decide (a0.1=a1.1))=true then some (false,()) else (if (!decide ((a0.2.1.length:Int)=(a1.2.1.length:Int)))=true then some (false,()) else (rounds (fun L1 (v1:fJ×fJ×Int×Unit)=>(if decide (v1.2.2.1<(v1.1.2.1.length:Int))=true then (if aH v1.2.2.1 v1.1.2.1.length then (if aH v1.2.2.1 v1.2.1.2.1.length then ((q8 n (v1.1.2.1.getD v1.2.2.1.toNat dH) (v1.2.1.2.1.getD v1.2.2.1.toNat dH)).bind fun r2=>(if (!r2.1)=true then some (false,()) else L1 (v1.1,v1.2.1,IntKind.i64.wrap (v1.2.2.1+(1:Int)),()))) else none) else none) else some (true,()))) n (a0,a1,(0:Int),()))))
def aeZ:Entry:=⟨82,[.ro rV, .ro rV],[.val .bool [] []],fun n c=>wX n c.1 c.2.1⟩
def ahZ:Hint:=⟨0,[],[(0,[0,1,5],[])],[],[(109,some 49,aeY)],[],[],[],[]⟩
theorem alJ:gK T ahZ Tryz.f82 aeZ:=by intro n c; kernel_rfl
theorem am0 [Fr] (n:Nat):ak Tryz.prog n aeZ:=aj mixed aI Tryz.func82 (by kernel_rfl) (hi:=ahZ) (aa (amZ n) aA) alJ
def kF (n:Nat) (a0:Be):Option (Int×Unit):=(if decide ((IntKind.i64.wrap ((a0.2.1.length:Int)+(a0.2.2.1.length:Int)))>(8000:Int))=true then some ((2:Int),()) else (if (!a0.1)=true then (if decide ((a0.2.2.1.length:Int)>(0:Int))=true then some ((1:Int),()) else (if (!decide (a0.2.2.2.1.1=(0:Int)))=true then some ((1:Int),()) else (if decide ((a0.2.2.2.1.2.1.length:Int)>(0:Int))=true then some ((1:Int),()) else some ((0:Int),())))) else ((jR n a0.2.2.2.1).bind fun r1=>(if (!decide (r1.1=(0:Int)))=true then some (r1.1,()) else ((wV n a0).bind fun r2=>(if (!r2.2.1)=true then some ((5:Int),()) else ((oJ n).bind fun r3=>((kE n r3.1 r2.1).bind fun r4=>(if (!decide (r4.1.1=(0:Int)))=true then some ((9:Int),()) else ((wX n r4.1.2.2.1 a0.2.2.2.1).bind fun r5=>(if (!r5.1)=true then some ((9:Int),()) else some ((0:Int),()))))))))))))
def aci:Entry:=⟨41,[.ro CR],[.val (.int .i64) [] []],fun n c=>kF n c.1⟩
def ah0:Hint:=⟨0,[],[],[],[(80,some 50,E_4),(81,some 56,aeP),(46,some 61,ace),(45,some 63,ach),(82,some 72,aeZ)],[],[],[],[]⟩
theorem alK:gK T ah0 Tryz.f41 aci:=by intro n c; kernel_rfl
theorem ajh [Fr] (n:Nat):ak Tryz.prog n aci:=aj mixed aI Tryz.func41 (by kernel_rfl) (hi:=ah0) (aa (K_4 n) (aa (amQ n) (aa (ajd n) (aa (ajg n) (aa (am0 n) aA))))) alK
def CJ (n:Nat) (a0:Int):Option (Bool×Unit):=((bM n a0 (1:Int) (3:Int)).bind fun r1=>some (r1.1,()))
def ae0:Entry:=⟨83,[.val (.int .i64) []],[.val .bool [] []],fun n c=>CJ n c.1⟩
def ah1:Hint:=⟨0,[],[],[],[(74,some 4,Ud)],[],[],[],[]⟩
theorem alL:gK T ah1 Tryz.f83 ae0:=by intro n c; kernel_rfl
theorem am2 [Fr] (n:Nat):ak Tryz.prog n ae0:=aj mixed aI Tryz.func83 (by kernel_rfl) (hi:=ah1) (aa (V5 n) aA) alL
def pG (n:Nat) (a0:H6):Option (Int×Unit):=((CJ n a0.2.2.2.1).bind fun r1=>(if (!r1.1)=true then some ((3:Int),()) else ((bM n a0.2.1 (0:Int) (999:Int)).bind fun r2=>(if (!r2.1)=true then some ((3:Int),()) else (if decide ((a0.2.2.1.length:Int)>(6:Int))=true then some ((3:Int),()) else ((oU n a0.2.2.1).bind fun r3=>(if (!r3.1)=true then some ((3:Int),()) else (if decide (a0.1=([]:List Int))=true then (if (!decide (a0.2.1=(0:Int)))=true then some ((1:Int),()) else (if decide ((a0.2.2.1.length:Int)>(0:Int))=true then some ((1:Int),()) else some ((0:Int),()))) else ((jr n a0.1).bind fun r4=>(if (!r4.1)=true then some ((1:Int),()) else (if decide (a0.2.1=(0:Int))=true then some ((1:Int),()) else some ((0:Int),()))))))))))))
def ae1:Entry:=⟨42,[.ro Al],[.val (.int .i64) [] []],fun n c=>pG n c.1⟩
def ah2:Hint:=⟨0,[],[],[],[(83,some 7,ae0),(74,some 14,Ud),(84,some 30,ab9),(85,some 55,E_1)],[],[],[],[]⟩
theorem alM:gK T ah2 Tryz.f42 ae1:=by intro n c; kernel_rfl
theorem am3 [Fr] (n:Nat):ak Tryz.prog n ae1:=aj mixed aI Tryz.func42 (by kernel_rfl) (hi:=ah2) (aa (am2 n) (aa (V5 n) (aa (ai5 n) (aa (K_1 n) aA)))) alM
def iL (n:Nat) (a0:xY):Option (Int×Unit):=((kF n a0.1).bind fun r1=>(if (!decide (r1.1=(0:Int)))=true then some (r1.1,()) else (if decide ((a0.2.1.length:Int)<(1:Int))=true then some ((2:Int),()) else (if decide ((a0.2.1.length:Int)>(3:Int))=true then some ((2:Int),()) else (rounds (fun L2 (v2:xY×Int×Unit)=>(if decide (v2.2.1<(v2.1.2.1.length:Int))=true then (if aH v2.2.1 v2.1.2.1.length then ((pG n (v2.1.2.1.getD v2.2.1.toNat xP)).bind fun r3=>(if (!decide (r3.1=(0:Int)))=true then some (r3.1,()) else L2 (v2.1,IntKind.i64.wrap (v2.2.1+(1:Int)),()))) else none) else some ((0:Int),()))) n (a0,(0:Int),()))))))
def ae2:Entry:=⟨18,[.ro FT],[.val (.int .i64) [] []],fun n c=>iL n c.1⟩
def ah3:Hint:=⟨0,[],[(0,[0,4],[])],[],[(41,some 9,aci),(42,some 42,ae1)],[],[],[],[]⟩
theorem alN:gK T ah3 Tryz.f18 ae2:=by intro n c; kernel_rfl
theorem am4 [Fr] (n:Nat):ak Tryz.prog n ae2:=aj mixed aI Tryz.func18 (by kernel_rfl) (hi:=ah3) (aa (ajh n) (aa (am3 n) aA)) alN
def wW (n:Nat) (a0:Int):Option (RZ×Unit):=some ((a0,([]:List (List Int)),ZG,()),())
def acj:Entry:=⟨19,[.val (.int .i64) []],[.own Qk [2,5,9,74,147,162] [] []],fun n c=>wW n c.1⟩
def ah4:Hint:=⟨0,[],[],[],[],[],[],[],[]⟩
theorem alO:gK T ah4 Tryz.f19 acj:=by intro n c; kernel_rfl
theorem aji [Fr] (n:Nat):ak Tryz.prog n acj:=aj mixed aI Tryz.func19 (by kernel_rfl) (hi:=ah4) aA alO
def sj (n:Nat) (a0:Int):Option (afO×Unit):=some ((a0,([]:List Int),ZF,()),())
def Zc:Entry:=⟨43,[.val (.int .i64) []],[.own ZE [2,5,147,162] [] []],fun n c=>sj n c.1⟩
def ah5:Hint:=⟨0,[],[],[],[],[],[],[],[]⟩
theorem alP:gK T ah5 Tryz.f43 Zc:=by intro n c; kernel_rfl
theorem afC [Fr] (n:Nat):ak Tryz.prog n Zc:=aj mixed aI Tryz.func43 (by kernel_rfl) (hi:=ah5) aA alP
def lZ (n:Nat) (a0:Be):Option (afO×Unit):=((kF n a0).bind fun r1=>(if (!decide (r1.1=(0:Int)))=true then ((sj n r1.1).bind fun r2=>some (r2.1,())) else (if a0.1=true then ((sj n (9:Int)).bind fun r3=>some (r3.1,())) else ((jE n a0.2.1).bind fun r4=>((oJ n).bind fun r5=>((kE n r5.1 r4.1).bind fun r6=>(if (!decide (r6.1.1=(0:Int)))=true then ((sj n r6.1.1).bind fun r7=>some (r7.1,())) else (if 0≤r4.2.1∧r4.2.1≤(a0.2.1.length:Int) then ((jq n (a0.2.1.take r4.2.1.toNat)).bind fun r8=>some (((0:Int),([]:List Int),(true,r8.1,([]:List Int),r6.1.2.2.1,()),()),())) else none))))))))
def ae3:Entry:=⟨20,[.val CR []],[.val ZE [] []],fun n c=>lZ n c.1⟩
def ah6:Hint:=⟨0,[],[],[],[(41,some 7,aci),(43,some 11,Zc),(43,some 14,Zc),(44,some 18,Za),(46,some 21,ace),(45,some 23,ach),(43,some 29,Zc),(47,some 34,Uj)],[],[],[],[]⟩
theorem alQ:gK T ah6 Tryz.f20 ae3:=by intro n c; kernel_rfl
theorem am5 [Fr] (n:Nat):ak Tryz.prog n ae3:=aj mixed aI Tryz.func20 (by kernel_rfl) (hi:=ah6) (aa (ajh n) (aa (afC n) (aa (afC n) (aa (afz n) (aa (ajd n) (aa (ajg n) (aa (afC n) (aa (Zt n) aA)))))))) alQ
def y7 (n:Nat) (a0:Be):Option (Be×Unit):=((jq n a0.2.1).bind fun r1=>((jq n a0.2.2.1).bind fun r2=>((lC n a0.2.2.2.1).bind fun r3=>some ((a0.1,r1.1,r2.1,r3.1,()),()))))
def ae4:Entry:=⟨48,[.val CR []],[.own CR [5,147,162] [] []],fun n c=>y7 n c.1⟩
def ah7:Hint:=⟨0,[],[],[],[(47,some 7,Uj),(47,some 10,Uj),(88,some 13,Xc)],[],[],[],[]⟩
theorem alR:gK T ah7 Tryz.f48 ae4:=by intro n c; kernel_rfl
theorem am6 [Fr] (n:Nat):ak Tryz.prog n ae4:=aj mixed aI Tryz.func48 (by kernel_rfl) (hi:=ah7) (aa (Zt n) (aa (Zt n) (aa (acv n) aA))) alR
def uR (n:Nat) (a0:xY):Option (xY×Unit):=((y7 n a0.1).bind fun r1=>(rounds (fun L2 (v2:Int×xY×xY×xY×Unit)=>(if decide (v2.1<(v2.2.1.2.1.length:Int))=true then (if aH v2.1 v2.2.1.2.1.length then (if (([]:List Int).length+((((v2.2.1.2.1.getD v2.1.toNat xP).2).2).1).length) * 8≤140737488355328 then (if (v2.2.2.2.1.2.1.length+[((v2.2.1.2.1.getD v2.1.toNat xP).1,((v2.2.1.2.1.getD v2.1.toNat xP).2).1,([]:List Int)++((((v2.2.1.2.1.getD v2.1.toNat xP).2).2).1),(((v2.2.1.2.1.getD v2.1.toNat xP).2).2).2)].length) * 56≤140737488355328 then L2 (IntKind.i64.wrap (v2.1+(1:Int)),v2.2.1,v2.2.2.1,(v2.2.2.2.1.1,v2.2.2.2.1.2.1++[((v2.2.1.2.1.getD v2.1.toNat xP).1,((v2.2.1.2.1.getD v2.1.toNat xP).2).1,([]:List Int)++((((v2.2.1.2.1.getD v2.1.toNat xP).2).2).1),(((v2.2.1.2.1.getD v2.1.toNat xP).2).2).2)],v2.2.2.2.1.2.2),()) else none) else none) else none) else some (v2.2.2.2.1,()))) n ((0:Int),a0,ZG,(r1.1,([]:List H6),()),())))
def ae5:Entry:=⟨21,[.val FT []],[.own FT [2,5,74,147,162] [] []],fun n c=>uR n c.1⟩
def ah8:Hint:=⟨0,[28,29,33],[(0,[1,2,3,4],[34,66,98])],[],[(48,some 8,ae4)],[],[],[],[]⟩
theorem alS:gK T ah8 Tryz.f21 ae5:=by intro n c; kernel_rfl
theorem am7 [Fr] (n:Nat):ak Tryz.prog n ae5:=aj mixed aI Tryz.func21 (by kernel_rfl) (hi:=ah8) (aa (am6 n) aA) alS
def l9 (n:Nat) (a0:xY):Option (RZ×Unit):=((iL n a0).bind fun r1=>(if (!decide (r1.1=(0:Int)))=true then ((wW n r1.1).bind fun r2=>some (r2.1,())) else ((lZ n a0.1).bind fun r3=>(if (!decide (r3.1.1=(0:Int)))=true then ((wW n r3.1.1).bind fun r4=>some (r4.1,())) else ((uR n a0).bind fun r5=>some (((0:Int),([]:List (List Int)),(r3.1.2.2.1,r5.1.2),()),()))))))
def ae6:Entry:=⟨6,[.val FT []],[.val Qk [] []],fun n c=>l9 n c.1⟩
def ah9:Hint:=⟨0,[25],[],[],[(18,some 6,ae2),(19,some 10,acj),(20,some 13,ae3),(19,some 19,acj),(21,some 21,ae5)],[],[],[],[]⟩
theorem alT:gK T ah9 Tryz.f6 ae6:=by intro n c; kernel_rfl
theorem am8 [Fr] (n:Nat):ak Tryz.prog n ae6:=aj mixed aI Tryz.func6 (by kernel_rfl) (hi:=ah9) (aa (am4 n) (aa (aji n) (aa (am5 n) (aa (aji n) (aa (am7 n) aA))))) alT
def dL (n:Nat) (a0:Int) (a1:Int) (a2:Int):Option (Bool×Unit):=(if decide (a0≥a1)=true then some (decide (a0≤a2),()) else some (false,()))
def Jc:Entry:=⟨53,[.val (.int .i64) [], .val (.int .i64) [], .val (.int .i64) []],[.val .bool [] []],fun n c=>dL n c.1 c.2.1 c.2.2.1⟩
def aia:Hint:=⟨0,[],[],[],[],[],[],[],[]⟩
theorem alU:gK T aia Tryz.f53 Jc:=by intro n c; kernel_rfl
theorem LG [Fr] (n:Nat):ak Tryz.prog n Jc:=aj mixed aI Tryz.func53 (by kernel_rfl) (hi:=aia) aA alU
def nQ (n:Nat) (a0:List Int) (a1:Int):Option (Bool×Unit):=(rounds (fun L1 (v1:(List Int)×Int×Int×Int×Unit)=>(if decide (v1.2.2.2.1<v1.2.2.1)=true then (if aH v1.2.2.2.1 v1.1.length then (if decide ((v1.1.getD v1.2.2.2.1.toNat 0)<(97:Int))=true then some (false,()) else (if aH v1.2.2.2.1 v1.1.length then (if decide ((v1.1.getD v1.2.2.2.1.toNat 0)>(122:Int))=true then some (false,()) else L1 (v1.1,v1.2.1,v1.2.2.1,IntKind.i64.wrap (v1.2.2.2.1+(1:Int)),())) else none)) else none) else (if decide ((v1.1.length:Int)≥(1:Int))=true then some (decide ((v1.1.length:Int)≤v1.2.1),()) else some (false,())))) n (a0,a1,(a0.length:Int),(0:Int),()))
def ae7:Entry:=⟨96,[.val .str [], .val (.int .i64) []],[.val .bool [] []],fun n c=>nQ n c.1 c.2.1⟩
def aib:Hint:=⟨0,[],[(0,[0,1,7,8],[])],[],[],[],[],[],[]⟩
theorem alV:gK T aib Tryz.f96 ae7:=by intro n c; kernel_rfl
theorem am9 [Fr] (n:Nat):ak Tryz.prog n ae7:=aj mixed aI Tryz.func96 (by kernel_rfl) (hi:=aib) aA alV
def jo (n:Nat) (a0:List Int):Option (Bool×Unit):=((nQ n a0 (8:Int)).bind fun r1=>some (r1.1,()))
def Xe:Entry:=⟨57,[.val .str []],[.val .bool [] []],fun n c=>jo n c.1⟩
def aic:Hint:=⟨0,[],[],[],[(96,some 4,ae7)],[],[],[],[]⟩
theorem alW:gK T aic Tryz.f57 Xe:=by intro n c; kernel_rfl
theorem acz [Fr] (n:Nat):ak Tryz.prog n Xe:=aj mixed aI Tryz.func57 (by kernel_rfl) (hi:=aic) (aa (am9 n) aA) alW
def qV (n:Nat) (a0:Int):Option (Bool×Unit):=((dL n a0 (1:Int) (999:Int)).bind fun r1=>some (r1.1,()))
def ack:Entry:=⟨95,[.val (.int .i64) []],[.val .bool [] []],fun n c=>qV n c.1⟩
def aid:Hint:=⟨0,[],[],[],[(53,some 4,Jc)],[],[],[],[]⟩
theorem alX:gK T aid Tryz.f95 ack:=by intro n c; kernel_rfl
theorem ajj [Fr] (n:Nat):ak Tryz.prog n ack:=aj mixed aI Tryz.func95 (by kernel_rfl) (hi:=aid) (aa (LG n) aA) alX
def fD (n:Nat) (a0:Int):Option (Bool×Unit):=((dL n a0 (0:Int) (15:Int)).bind fun r1=>some (r1.1,()))
def acm:Entry:=⟨156,[.val (.int .i64) []],[.val .bool [] []],fun n c=>fD n c.1⟩
def aie:Hint:=⟨0,[],[],[],[(53,some 4,Jc)],[],[],[],[]⟩
theorem alY:gK T aie Tryz.f156 acm:=by intro n c; kernel_rfl
theorem ajk [Fr] (n:Nat):ak Tryz.prog n acm:=aj mixed aI Tryz.func156 (by kernel_rfl) (hi:=aie) (aa (LG n) aA) alY
def ig (n:Nat) (a0:Int):Option (Bool×Unit):=((dL n a0 (0:Int) (9999:Int)).bind fun r1=>some (r1.1,()))
def acn:Entry:=⟨157,[.val (.int .i64) []],[.val .bool [] []],fun n c=>ig n c.1⟩
def aif:Hint:=⟨0,[],[],[],[(53,some 4,Jc)],[],[],[],[]⟩
theorem alZ:gK T aif Tryz.f157 acn:=by intro n c; kernel_rfl
theorem ajl [Fr] (n:Nat):ak Tryz.prog n acn:=aj mixed aI Tryz.func157 (by kernel_rfl) (hi:=aif) (aa (LG n) aA) alZ
def iV (n:Nat) (a0:tN):Option (Int×Unit):=((qV n a0.1).bind fun r1=>(if (!r1.1)=true then some ((3:Int),()) else ((fD n a0.2.1).bind fun r2=>(if (!r2.1)=true then some ((3:Int),()) else ((ig n a0.2.2.1).bind fun r3=>(if (!r3.1)=true then some ((3:Int),()) else (if decide ((a0.2.2.2.1.length:Int)>(400:Int))=true then some ((2:Int),()) else some ((0:Int),()))))))))
def ae8:Entry:=⟨151,[.val BO []],[.val (.int .i64) [] []],fun n c=>iV n c.1⟩
def aih:Hint:=⟨0,[],[],[],[(95,some 6,ack),(156,some 11,acm),(157,some 17,acn)],[],[],[],[]⟩
theorem al0:gK T aih Tryz.f151 ae8:=by intro n c; kernel_rfl
theorem ana [Fr] (n:Nat):ak Tryz.prog n ae8:=aj mixed aI Tryz.func151 (by kernel_rfl) (hi:=aih) (aa (ajj n) (aa (ajk n) (aa (ajl n) aA))) al0
def oG (n:Nat) (a0:dR):Option (Int×Unit):=((jo n a0.1).bind fun r1=>(if (!r1.1)=true then some ((5:Int),()) else ((dL n a0.2.1 (1:Int) (999:Int)).bind fun r2=>(if (!r2.1)=true then some ((3:Int),()) else ((dL n a0.2.2.1 (1:Int) (1000:Int)).bind fun r3=>(if (!r3.1)=true then some ((3:Int),()) else (if decide ((a0.2.2.2.1.length:Int)>(6:Int))=true then some ((2:Int),()) else (rounds (fun L4 (v4:Int×(List tN)×Int×Int×dR×Unit)=>(if decide (v4.2.2.2.1<v4.2.2.1)=true then (if aH v4.2.2.2.1 v4.2.1.length then ((iV n (v4.2.1.getD v4.2.2.2.1.toNat lH)).bind fun r5=>(if (!decide (r5.1=(0:Int)))=true then some (r5.1,()) else (if decide (((v4.2.1.getD v4.2.2.2.1.toNat lH).1)≤v4.1)=true then some ((1:Int),()) else (if decide (((v4.2.1.getD v4.2.2.2.1.toNat lH).1)≥v4.2.2.2.2.1.2.2.1)=true then some ((1:Int),()) else L4 ((v4.2.1.getD v4.2.2.2.1.toNat lH).1,v4.2.1,v4.2.2.1,IntKind.i64.wrap (v4.2.2.2.1+(1:Int)),v4.2.2.2.2.1,()))))) else none) else some ((0:Int),()))) n ((0:Int),a0.2.2.2.1,(a0.2.2.2.1.length:Int),(0:Int),a0,())))))))))
def ae9:Entry:=⟨116,[.val oL []],[.val (.int .i64) [] []],fun n c=>oG n c.1⟩
def aii:Hint:=⟨0,[],[(1,[1,3,29,30,31],[34])],[],[(57,some 10,Xe),(53,some 15,Jc),(53,some 20,Jc),(151,some 36,ae8)],[],[],[],[]⟩
theorem al1:gK T aii Tryz.f116 ae9:=by intro n c; kernel_rfl
theorem anb [Fr] (n:Nat):ak Tryz.prog n ae9:=aj mixed aI Tryz.func116 (by kernel_rfl) (hi:=aii) (aa (acz n) (aa (LG n) (aa (LG n) (aa (ana n) aA)))) al1
def lN (n:Nat) (a0:dR) (a1:dR):Option (Bool×Unit):=(if decide (a0.1=a1.1)=true then some (true,()) else some (decide (a0.2.1=a1.2.1),()))
def afa:Entry:=⟨118,[.val oL [], .ro oL],[.val .bool [] []],fun n c=>lN n c.1 c.2.1⟩
def aij:Hint:=⟨0,[],[],[],[],[],[],[],[]⟩
theorem al2:gK T aij Tryz.f118 afa:=by intro n c; kernel_rfl
theorem anc [Fr] (n:Nat):ak Tryz.prog n afa:=aj mixed aI Tryz.func118 (by kernel_rfl) (hi:=aij) aA al2
def aX (n:Nat) (a0:List dR) (KL:dR):Option (Int×Unit):=(rounds (fun L1 (v1:(List dR)×dR×Int×Int×Unit)=>(if decide (v1.2.2.2.1<v1.2.2.1)=true then (if aH v1.2.2.2.1 v1.1.length then ((lN n (v1.1.getD v1.2.2.2.1.toNat dH) v1.2.1).bind fun r2=>(if r2.1=true then some (v1.2.2.2.1,()) else L1 (v1.1,v1.2.1,v1.2.2.1,IntKind.i64.wrap (v1.2.2.2.1+(1:Int)),()))) else none) else some ((-1:Int),()))) n (a0,KL,(a0.length:Int),(0:Int),()))
def afb:Entry:=⟨152,[.val (.sl 147 oL) [], .fn 118 [oL]],[.val (.int .i64) [] []],fun n c=>aX n c.1 c.2.1⟩
def aik:Hint:=⟨0,[],[(0,[0,1,7,8],[])],[],[(118,some 16,afa)],[],[],[],[]⟩
theorem al3:gK T aik Tryz.f152 afb:=by intro n c; kernel_rfl
theorem ane [Fr] (n:Nat):ak Tryz.prog n afb:=aj mixed aI Tryz.func152 (by kernel_rfl) (hi:=aik) (aa (anc n) aA) al3
def bB (n:Nat) (a0:List dR) (KL:dR):Option (Bool×Unit):=((aX n a0 KL).bind fun r1=>some (decide (r1.1≥(0:Int)),()))
def afc:Entry:=⟨117,[.val (.sl 147 oL) [], .fn 118 [oL]],[.val .bool [] []],fun n c=>bB n c.1 c.2.1⟩
def ail:Hint:=⟨0,[],[],[],[(152,some 7,afb)],[],[],[],[]⟩
theorem al4:gK T ail Tryz.f117 afc:=by intro n c; kernel_rfl
theorem ang [Fr] (n:Nat):ak Tryz.prog n afc:=aj mixed aI Tryz.func117 (by kernel_rfl) (hi:=ail) (aa (ane n) aA) al4
def iG (n:Nat) (a0:fJ):Option (Int×Unit):=((dL n a0.1 (1:Int) (1000:Int)).bind fun r1=>(if (!r1.1)=true then some ((3:Int),()) else (if decide ((a0.2.1.length:Int)>(3:Int))=true then some ((2:Int),()) else (rounds (fun L2 (v2:(List dR)×Int×Int×fJ×Unit)=>(if decide (v2.2.2.1<v2.2.1)=true then (if aH v2.2.2.1 v2.1.length then ((oG n (v2.1.getD v2.2.2.1.toNat dH)).bind fun r3=>(if (!decide (r3.1=(0:Int)))=true then some (r3.1,()) else (if decide ((((v2.1.getD v2.2.2.1.toNat dH).2).1)≥v2.2.2.2.1.1)=true then some ((9:Int),()) else (if 0≤v2.2.2.1∧v2.2.2.1≤(v2.2.2.2.1.2.1.length:Int) then ((bB n (v2.2.2.2.1.2.1.take v2.2.2.1.toNat) (v2.1.getD v2.2.2.1.toNat dH)).bind fun r4=>(if r4.1=true then some ((6:Int),()) else L2 (v2.1,v2.2.1,IntKind.i64.wrap (v2.2.2.1+(1:Int)),v2.2.2.2.1,()))) else none)))) else none) else some ((0:Int),()))) n (a0.2.1,(a0.2.1.length:Int),(0:Int),a0,())))))
def aco:Entry:=⟨92,[.val rV []],[.val (.int .i64) [] []],fun n c=>iG n c.1⟩
def aim:Hint:=⟨0,[],[(1,[1,17,18,19],[34])],[],[(53,some 9,Jc),(116,some 25,ae9),(117,some 41,afc)],[],[],[],[]⟩
theorem al5:gK T aim Tryz.f92 aco:=by intro n c; kernel_rfl
theorem ajm [Fr] (n:Nat):ak Tryz.prog n aco:=aj mixed aI Tryz.func92 (by kernel_rfl) (hi:=aim) (aa (LG n) (aa (anb n) (aa (ang n) aA))) al5
def cO (n:Nat) (a0:List Int):Option (Int×Unit):=some ((a0.length:Int),())
def RH:Entry:=⟨76,[.val (.sl 5 (.int .u8)) []],[.val (.int .i64) [] []],fun n c=>cO n c.1⟩
def ain:Hint:=⟨0,[],[],[],[],[],[],[],[]⟩
theorem al6:gK T ain Tryz.f76 RH:=by intro n c; kernel_rfl
theorem Xh [Fr] (n:Nat):ak Tryz.prog n RH:=aj mixed aI Tryz.func76 (by kernel_rfl) (hi:=ain) aA al6
def eZ (n:Nat) (a0:Zt1) (a1:Int):Option ((List Int)×Zt1×Unit):=(if a0.2.1=true then (if a1=a1∧0≤a1∧a1 * 1≤140737488355328 then some (List.replicate a1.toNat (0:Int),(a0.1,true,a0.2.2),()) else none) else ((cO n a0.1).bind fun r1=>(if decide (a1>r1.1)=true then (if a1=a1∧0≤a1∧a1 * 1≤140737488355328 then some (List.replicate a1.toNat (0:Int),(a0.1,true,a0.2.2),()) else none) else (if 0≤a1∧a1≤(a0.1.length:Int) then (if 0≤a1∧a1≤(a0.1.length:Int) then some (a0.1.take a1.toNat,(a0.1.drop a1.toNat,a0.2),()) else none) else none))))
def Ul:Entry:=⟨125,[.rw Xn [] [4294967295] [5], .val (.int .i64) []],[.val (.sl 5 (.int .u8)) [0] []],fun n c=>eZ n c.1 c.2.1⟩
def aio:Hint:=⟨0,[],[],[],[(76,some 16,RH)],[],[],[],[]⟩
theorem al7:gK T aio Tryz.f125 Ul:=by intro n c; kernel_rfl
theorem Zu [Fr] (n:Nat):ak Tryz.prog n Ul:=aj mixed aI Tryz.func125 (by kernel_rfl) (hi:=aio) (aa (Xh n) aA) al7
def gW (n:Nat) (a0:Zt1):Option (Int×Zt1×Unit):=((eZ n a0 (2:Int)).bind fun r1=>(if aH (0:Int) r1.1.length then (if aH (1:Int) r1.1.length then some (IntKind.i64.wrap ((IntKind.i64.wrap ((IntKind.i64.wrap (r1.1.getD (0:Int).toNat (0:Int))) * (256:Int)))+(IntKind.i64.wrap (r1.1.getD (1:Int).toNat (0:Int)))),r1.2.1,()) else none) else none))
def Xf:Entry:=⟨123,[.rw Xn [] [4294967295] [5]],[.val (.int .i64) [] []],fun n c=>gW n c.1⟩
def aip:Hint:=⟨0,[],[],[],[(125,some 5,Ul)],[],[],[],[]⟩
theorem al8:gK T aip Tryz.f123 Xf:=by intro n c; kernel_rfl
theorem acA [Fr] (n:Nat):ak Tryz.prog n Xf:=aj mixed aI Tryz.func123 (by kernel_rfl) (hi:=aip) (aa (Zu n) aA) al8
def eX (n:Nat) (a0:Zt1):Option (Int×Zt1×Unit):=((eZ n a0 (1:Int)).bind fun r1=>(if aH (0:Int) r1.1.length then some (IntKind.i64.wrap (r1.1.getD (0:Int).toNat (0:Int)),r1.2.1,()) else none))
def RI:Entry:=⟨124,[.rw Xn [] [4294967295] [5]],[.val (.int .i64) [] []],fun n c=>eX n c.1⟩
def aiq:Hint:=⟨0,[],[],[],[(125,some 4,Ul)],[],[],[],[]⟩
theorem al9:gK T aiq Tryz.f124 RI:=by intro n c; kernel_rfl
theorem Xi [Fr] (n:Nat):ak Tryz.prog n RI:=aj mixed aI Tryz.func124 (by kernel_rfl) (hi:=aiq) (aa (Zu n) aA) al9
def oH (n:Nat) (a0:iD):Option (Bool×Unit):=(if decide (a0.1=(5:Int))=true then some (true,()) else some (decide (a0.1=(6:Int)),()))
def Ze:Entry:=⟨155,[.val kr []],[.val .bool [] []],fun n c=>oH n c.1⟩
def air:Hint:=⟨0,[],[],[],[],[],[],[],[]⟩
theorem ama:gK T air Tryz.f155 Ze:=by intro n c; kernel_rfl
theorem afD [Fr] (n:Nat):ak Tryz.prog n Ze:=aj mixed aI Tryz.func155 (by kernel_rfl) (hi:=air) aA ama
def kL (n:Nat) (a0:iD):Option (Bool×Unit):=((oH n a0).bind fun r1=>(if r1.1=true then some (true,()) else some (decide (a0.1=(4:Int)),())))
def afd:Entry:=⟨173,[.val kr []],[.val .bool [] []],fun n c=>kL n c.1⟩
def ais:Hint:=⟨0,[],[],[],[(155,some 4,Ze)],[],[],[],[]⟩
theorem amb:gK T ais Tryz.f173 afd:=by intro n c; kernel_rfl
theorem anh [Fr] (n:Nat):ak Tryz.prog n afd:=aj mixed aI Tryz.func173 (by kernel_rfl) (hi:=ais) (aa (afD n) aA) amb
def qQ (n:Nat) (a0:iD):Option (Bool×Unit):=((oH n a0).bind fun r1=>(if r1.1=true then ((kL n a0).bind fun r2=>(if r2.1=true then (if decide (a0.1=(4:Int))=true then (if decide (a0.1=(4:Int))=true then (if decide (a0.1=(3:Int))=true then some (true,()) else (if decide (a0.2.2.2.2.2.2.1=(0:Int))=true then some (decide ((a0.2.2.2.2.2.2.2.1.length:Int)=(0:Int)),()) else some (false,()))) else (if decide (a0.1=(3:Int))=true then (if decide (a0.1=(3:Int))=true then some (true,()) else (if decide (a0.2.2.2.2.2.2.1=(0:Int))=true then some (decide ((a0.2.2.2.2.2.2.2.1.length:Int)=(0:Int)),()) else some (false,()))) else (if decide (a0.2.2.2.2.2.1=(0:Int))=true then (if decide (a0.1=(3:Int))=true then some (true,()) else (if decide (a0.2.2.2.2.2.2.1=(0:Int))=true then some (decide ((a0.2.2.2.2.2.2.2.1.length:Int)=(0:Int)),()) else some (false,()))) else some (false,())))) else (if decide (a0.2.2.2.2.1=(0:Int))=true then (if decide (a0.1=(4:Int))=true then (if decide (a0.1=(3:Int))=true then some (true,()) else (if decide (a0.2.2.2.2.2.2.1=(0:Int))=true then some (decide ((a0.2.2.2.2.2.2.2.1.length:Int)=(0:Int)),()) else some (false,()))) else (if decide (a0.1=(3:Int))=true then (if decide (a0.1=(3:Int))=true then some (true,()) else (if decide (a0.2.2.2.2.2.2.1=(0:Int))=true then some (decide ((a0.2.2.2.2.2.2.2.1.length:Int)=(0:Int)),()) else some (false,()))) else (if decide (a0.2.2.2.2.2.1=(0:Int))=true then (if decide (a0.1=(3:Int))=true then some (true,()) else (if decide (a0.2.2.2.2.2.2.1=(0:Int))=true then some (decide ((a0.2.2.2.2.2.2.2.1.length:Int)=(0:Int)),()) else some (false,()))) else some (false,())))) else some (false,()))) else (if decide ((a0.2.2.2.1.length:Int)=(0:Int))=true then (if decide (a0.1=(4:Int))=true then (if decide (a0.1=(4:Int))=true then (if decide (a0.1=(3:Int))=true then some (true,()) else (if decide (a0.2.2.2.2.2.2.1=(0:Int))=true then some (decide ((a0.2.2.2.2.2.2.2.1.length:Int)=(0:Int)),()) else some (false,()))) else (if decide (a0.1=(3:Int))=true then (if decide (a0.1=(3:Int))=true then some (true,()) else (if decide (a0.2.2.2.2.2.2.1=(0:Int))=true then some (decide ((a0.2.2.2.2.2.2.2.1.length:Int)=(0:Int)),()) else some (false,()))) else (if decide (a0.2.2.2.2.2.1=(0:Int))=true then (if decide (a0.1=(3:Int))=true then some (true,()) else (if decide (a0.2.2.2.2.2.2.1=(0:Int))=true then some (decide ((a0.2.2.2.2.2.2.2.1.length:Int)=(0:Int)),()) else some (false,()))) else some (false,())))) else (if decide (a0.2.2.2.2.1=(0:Int))=true then (if decide (a0.1=(4:Int))=true then (if decide (a0.1=(3:Int))=true then some (true,()) else (if decide (a0.2.2.2.2.2.2.1=(0:Int))=true then some (decide ((a0.2.2.2.2.2.2.2.1.length:Int)=(0:Int)),()) else some (false,()))) else (if decide (a0.1=(3:Int))=true then (if decide (a0.1=(3:Int))=true then some (true,()) else (if decide (a0.2.2.2.2.2.2.1=(0:Int))=true then some (decide ((a0.2.2.2.2.2.2.2.1.length:Int)=(0:Int)),()) else some (false,()))) else (if decide (a0.2.2.2.2.2.1=(0:Int))=true then (if decide (a0.1=(3:Int))=true then some (true,()) else (if decide (a0.2.2.2.2.2.2.1=(0:Int))=true then some (decide ((a0.2.2.2.2.2.2.2.1.length:Int)=(0:Int)),()) else some (false,()))) else some (false,())))) else some (false,()))) else some (false,())))) else (if decide (a0.2.2.1=([]:List Int))=true then ((kL n a0).bind fun r3=>(if r3.1=true then (if decide (a0.1=(4:Int))=true then (if decide (a0.1=(4:Int))=true then (if decide (a0.1=(3:Int))=true then some (true,()) else (if decide (a0.2.2.2.2.2.2.1=(0:Int))=true then some (decide ((a0.2.2.2.2.2.2.2.1.length:Int)=(0:Int)),()) else some (false,()))) else (if decide (a0.1=(3:Int))=true then (if decide (a0.1=(3:Int))=true then some (true,()) else (if decide (a0.2.2.2.2.2.2.1=(0:Int))=true then some (decide ((a0.2.2.2.2.2.2.2.1.length:Int)=(0:Int)),()) else some (false,()))) else (if decide (a0.2.2.2.2.2.1=(0:Int))=true then (if decide (a0.1=(3:Int))=true then some (true,()) else (if decide (a0.2.2.2.2.2.2.1=(0:Int))=true then some (decide ((a0.2.2.2.2.2.2.2.1.length:Int)=(0:Int)),()) else some (false,()))) else some (false,())))) else (if decide (a0.2.2.2.2.1=(0:Int))=true then (if decide (a0.1=(4:Int))=true then (if decide (a0.1=(3:Int))=true then some (true,()) else (if decide (a0.2.2.2.2.2.2.1=(0:Int))=true then some (decide ((a0.2.2.2.2.2.2.2.1.length:Int)=(0:Int)),()) else some (false,()))) else (if decide (a0.1=(3:Int))=true then (if decide (a0.1=(3:Int))=true then some (true,()) else (if decide (a0.2.2.2.2.2.2.1=(0:Int))=true then some (decide ((a0.2.2.2.2.2.2.2.1.length:Int)=(0:Int)),()) else some (false,()))) else (if decide (a0.2.2.2.2.2.1=(0:Int))=true then (if decide (a0.1=(3:Int))=true then some (true,()) else (if decide (a0.2.2.2.2.2.2.1=(0:Int))=true then some (decide ((a0.2.2.2.2.2.2.2.1.length:Int)=(0:Int)),()) else some (false,()))) else some (false,())))) else some (false,()))) else (if decide ((a0.2.2.2.1.length:Int)=(0:Int))=true then (if decide (a0.1=(4:Int))=true then (if decide (a0.1=(4:Int))=true then (if decide (a0.1=(3:Int))=true then some (true,()) else (if decide (a0.2.2.2.2.2.2.1=(0:Int))=true then some (decide ((a0.2.2.2.2.2.2.2.1.length:Int)=(0:Int)),()) else some (false,()))) else (if decide (a0.1=(3:Int))=true then (if decide (a0.1=(3:Int))=true then some (true,()) else (if decide (a0.2.2.2.2.2.2.1=(0:Int))=true then some (decide ((a0.2.2.2.2.2.2.2.1.length:Int)=(0:Int)),()) else some (false,()))) else (if decide (a0.2.2.2.2.2.1=(0:Int))=true then (if decide (a0.1=(3:Int))=true then some (true,()) else (if decide (a0.2.2.2.2.2.2.1=(0:Int))=true then some (decide ((a0.2.2.2.2.2.2.2.1.length:Int)=(0:Int)),()) else some (false,()))) else some (false,())))) else (if decide (a0.2.2.2.2.1=(0:Int))=true then (if decide (a0.1=(4:Int))=true then (if decide (a0.1=(3:Int))=true then some (true,()) else (if decide (a0.2.2.2.2.2.2.1=(0:Int))=true then some (decide ((a0.2.2.2.2.2.2.2.1.length:Int)=(0:Int)),()) else some (false,()))) else (if decide (a0.1=(3:Int))=true then (if decide (a0.1=(3:Int))=true then some (true,()) else (if decide (a0.2.2.2.2.2.2.1=(0:Int))=true then some (decide ((a0.2.2.2.2.2.2.2.1.length:Int)=(0:Int)),()) else some (false,()))) else (if decide (a0.2.2.2.2.2.1=(0:Int))=true then (if decide (a0.1=(3:Int))=true then some (true,()) else (if decide (a0.2.2.2.2.2.2.1=(0:Int))=true then some (decide ((a0.2.2.2.2.2.2.2.1.length:Int)=(0:Int)),()) else some (false,()))) else some (false,())))) else some (false,()))) else some (false,())))) else some (false,()))))
def afe:Entry:=⟨154,[.val kr []],[.val .bool [] []],fun n c=>qQ n c.1⟩
def ait:Hint:=⟨0,[],[],[],[(155,some 12,Ze),(173,some 20,afd)],[],[],[],[]⟩
theorem amc:gK T ait Tryz.f154 afe:=by intro n c; kernel_rfl
theorem ani [Fr] (n:Nat):ak Tryz.prog n afe:=aj mixed aI Tryz.func154 (by kernel_rfl) (hi:=ait) (aa (afD n) (aa (anh n) aA)) amc
def mH (n:Nat) (a0:List Int):Option (Bool×Unit):=(rounds (fun L1 (v1:(List Int)×(List Int)×Int×Int×Unit)=>(if decide (v1.2.2.2.1<v1.2.2.1)=true then (if aH v1.2.2.2.1 v1.2.1.length then ((qV n (v1.2.1.getD v1.2.2.2.1.toNat (0:Int))).bind fun r2=>(if (!r2.1)=true then some (false,()) else (if decide (v1.2.2.2.1>(0:Int))=true then (if aH (IntKind.i64.wrap (v1.2.2.2.1 - (1:Int))) v1.1.length then (if decide ((v1.1.getD (IntKind.i64.wrap (v1.2.2.2.1 - (1:Int))).toNat (0:Int))≥(v1.2.1.getD v1.2.2.2.1.toNat (0:Int)))=true then some (false,()) else L1 (v1.1,v1.2.1,v1.2.2.1,IntKind.i64.wrap (v1.2.2.2.1+(1:Int)),())) else none) else L1 (v1.1,v1.2.1,v1.2.2.1,IntKind.i64.wrap (v1.2.2.2.1+(1:Int)),())))) else none) else some (true,()))) n (a0,a0,(a0.length:Int),(0:Int),()))
def acp:Entry:=⟨56,[.val (.sl 2 (.int .i64)) []],[.val .bool [] []],fun n c=>mH n c.1⟩
def aiu:Hint:=⟨0,[],[(0,[0,5,6,7],[])],[],[(95,some 13,ack)],[],[],[],[]⟩
theorem amd:gK T aiu Tryz.f56 acp:=by intro n c; kernel_rfl
theorem ajn [Fr] (n:Nat):ak Tryz.prog n acp:=aj mixed aI Tryz.func56 (by kernel_rfl) (hi:=aiu) (aa (ajj n) aA) amd
def qy (n:Nat) (a0:iD):Option (Int×Unit):=((dL n a0.1 (1:Int) (7:Int)).bind fun r1=>(if (!r1.1)=true then some ((1:Int),()) else ((qQ n a0).bind fun r2=>(if (!r2.1)=true then some ((1:Int),()) else ((jo n a0.2.1).bind fun r3=>(if (!r3.1)=true then some ((5:Int),()) else ((oH n a0).bind fun r4=>(if r4.1=true then ((jo n a0.2.2.1).bind fun r5=>(if (!r5.1)=true then some ((5:Int),()) else (if decide ((a0.2.2.2.1.length:Int)>(6:Int))=true then some ((2:Int),()) else ((mH n a0.2.2.2.1).bind fun r6=>(if (!r6.1)=true then some ((3:Int),()) else (if decide (a0.1=(4:Int))=true then ((dL n a0.2.2.2.2.1 (1:Int) (3:Int)).bind fun r7=>(if (!r7.1)=true then some ((3:Int),()) else ((fD n a0.2.2.2.2.2.1).bind fun r8=>(if (!r8.1)=true then some ((3:Int),()) else ((ig n a0.2.2.2.2.2.2.1).bind fun r9=>(if (!r9.1)=true then some ((3:Int),()) else (if decide ((a0.2.2.2.2.2.2.2.1.length:Int)>(400:Int))=true then some ((2:Int),()) else some ((0:Int),())))))))) else ((fD n a0.2.2.2.2.2.1).bind fun Rb=>(if (!Rb.1)=true then some ((3:Int),()) else ((ig n a0.2.2.2.2.2.2.1).bind fun Lf=>(if (!Lf.1)=true then some ((3:Int),()) else (if decide ((a0.2.2.2.2.2.2.2.1.length:Int)>(400:Int))=true then some ((2:Int),()) else some ((0:Int),())))))))))))) else (if decide ((a0.2.2.2.1.length:Int)>(6:Int))=true then some ((2:Int),()) else ((mH n a0.2.2.2.1).bind fun NJ=>(if (!NJ.1)=true then some ((3:Int),()) else (if decide (a0.1=(4:Int))=true then ((dL n a0.2.2.2.2.1 (1:Int) (3:Int)).bind fun RA=>(if (!RA.1)=true then some ((3:Int),()) else ((fD n a0.2.2.2.2.2.1).bind fun r14=>(if (!r14.1)=true then some ((3:Int),()) else ((ig n a0.2.2.2.2.2.2.1).bind fun WS=>(if (!WS.1)=true then some ((3:Int),()) else (if decide ((a0.2.2.2.2.2.2.2.1.length:Int)>(400:Int))=true then some ((2:Int),()) else some ((0:Int),())))))))) else ((fD n a0.2.2.2.2.2.1).bind fun r16=>(if (!r16.1)=true then some ((3:Int),()) else ((ig n a0.2.2.2.2.2.2.1).bind fun r17=>(if (!r17.1)=true then some ((3:Int),()) else (if decide ((a0.2.2.2.2.2.2.2.1.length:Int)>(400:Int))=true then some ((2:Int),()) else some ((0:Int),()))))))))))))))))))
def acr:Entry:=⟨126,[.val kr []],[.val (.int .i64) [] []],fun n c=>qy n c.1⟩
def aiv:Hint:=⟨0,[],[],[],[(53,some 6,Jc),(154,some 10,afe),(57,some 16,Xe),(155,some 20,Ze),(57,some 24,Xe),(56,some 36,acp),(53,some 45,Jc),(156,some 52,acm),(157,some 58,acn)],[],[],[],[]⟩
theorem ame:gK T aiv Tryz.f126 acr:=by intro n c; kernel_rfl
theorem ajo [Fr] (n:Nat):ak Tryz.prog n acr:=aj mixed aI Tryz.func126 (by kernel_rfl) (hi:=aiv) (aa (LG n) (aa (ani n) (aa (acz n) (aa (afD n) (aa (acz n) (aa (ajn n) (aa (LG n) (aa (ajk n) (aa (ajl n) aA))))))))) ame
def qz (n:Nat) (a0:Int):Option ((List Int)×Unit):=(if (256:Int)≠0 then (if (256:Int)≠0 then some ([IntKind.u8.wrap (IntKind.i64.wrap (a0.tdiv (256:Int))),IntKind.u8.wrap (a0.tmod (256:Int))],()) else none) else none)
def Um:Entry:=⟨158,[.val (.int .i64) []],[.own (.sl 5 (.int .u8)) [5] [] []],fun n c=>qz n c.1⟩
def aiw:Hint:=⟨0,[],[],[],[],[],[],[],[]⟩
theorem amf:gK T aiw Tryz.f158 Um:=by intro n c; kernel_rfl
theorem Zv [Fr] (n:Nat):ak Tryz.prog n Um:=aj mixed aI Tryz.func158 (by kernel_rfl) (hi:=aiw) aA amf
def yx (n:Nat) (a0:List Int):Option (Int×Unit):=(rounds (fun L1 (v1:Int×(List Int)×Int×Int×Unit)=>(if decide (v1.2.2.2.1<v1.2.2.1)=true then (if aH v1.2.2.2.1 v1.2.1.length then (if (65521:Int)≠0 then L1 ((IntKind.i64.wrap ((IntKind.i64.wrap (v1.1 * (31:Int)))+(IntKind.i64.wrap (v1.2.1.getD v1.2.2.2.1.toNat (0:Int))))).tmod (65521:Int),v1.2.1,v1.2.2.1,IntKind.i64.wrap (v1.2.2.2.1+(1:Int)),()) else none) else none) else some (v1.1,()))) n ((1:Int),a0,(a0.length:Int),(0:Int),()))
def aff:Entry:=⟨159,[.val (.sl 5 (.int .u8)) []],[.val (.int .i64) [] []],fun n c=>yx n c.1⟩
def aix:Hint:=⟨0,[],[(0,[3,6,7,8],[])],[],[],[],[],[],[]⟩
theorem amg:gK T aix Tryz.f159 aff:=by intro n c; kernel_rfl
theorem ank [Fr] (n:Nat):ak Tryz.prog n aff:=aj mixed aI Tryz.func159 (by kernel_rfl) (hi:=aix) aA amg
def wQ (n:Nat) (a0:iD):Option ((List Int)×Unit):=(if ([IntKind.u8.wrap a0.1,IntKind.u8.wrap (a0.2.1.length:Int)].length+a0.2.1.length) * 1≤140737488355328 then (if (([IntKind.u8.wrap a0.1,IntKind.u8.wrap (a0.2.1.length:Int)]++a0.2.1).length+[IntKind.u8.wrap (a0.2.2.1.length:Int)].length) * 1≤140737488355328 then (if ((([IntKind.u8.wrap a0.1,IntKind.u8.wrap (a0.2.1.length:Int)]++a0.2.1)++[IntKind.u8.wrap (a0.2.2.1.length:Int)]).length+a0.2.2.1.length) * 1≤140737488355328 then (if (((([IntKind.u8.wrap a0.1,IntKind.u8.wrap (a0.2.1.length:Int)]++a0.2.1)++[IntKind.u8.wrap (a0.2.2.1.length:Int)])++a0.2.2.1).length+[IntKind.u8.wrap (a0.2.2.2.1.length:Int)].length) * 1≤140737488355328 then (rounds (fun L1 (v1:(List Int)×Int×Int×iD×(List Int)×Unit)=>(if decide (v1.2.2.1<v1.2.1)=true then (if aH v1.2.2.1 v1.1.length then ((qz n (v1.1.getD v1.2.2.1.toNat (0:Int))).bind fun r2=>(if (v1.2.2.2.2.1.length+r2.1.length) * 1≤140737488355328 then L1 (v1.1,v1.2.1,IntKind.i64.wrap (v1.2.2.1+(1:Int)),v1.2.2.2.1,v1.2.2.2.2.1++r2.1,()) else none)) else none) else (if (v1.2.2.2.2.1.length+[IntKind.u8.wrap v1.2.2.2.1.2.2.2.2.1,IntKind.u8.wrap v1.2.2.2.1.2.2.2.2.2.1].length) * 1≤140737488355328 then ((qz n v1.2.2.2.1.2.2.2.2.2.2.1).bind fun r3=>(if ((v1.2.2.2.2.1++[IntKind.u8.wrap v1.2.2.2.1.2.2.2.2.1,IntKind.u8.wrap v1.2.2.2.1.2.2.2.2.2.1]).length+r3.1.length) * 1≤140737488355328 then ((cO n v1.2.2.2.1.2.2.2.2.2.2.2.1).bind fun r4=>((qz n r4.1).bind fun r5=>(if (((v1.2.2.2.2.1++[IntKind.u8.wrap v1.2.2.2.1.2.2.2.2.1,IntKind.u8.wrap v1.2.2.2.1.2.2.2.2.2.1])++r3.1).length+r5.1.length) * 1≤140737488355328 then (if ((((v1.2.2.2.2.1++[IntKind.u8.wrap v1.2.2.2.1.2.2.2.2.1,IntKind.u8.wrap v1.2.2.2.1.2.2.2.2.2.1])++r3.1)++r5.1).length+v1.2.2.2.1.2.2.2.2.2.2.2.1.length) * 1≤140737488355328 then ((cO n ((((v1.2.2.2.2.1++[IntKind.u8.wrap v1.2.2.2.1.2.2.2.2.1,IntKind.u8.wrap v1.2.2.2.1.2.2.2.2.2.1])++r3.1)++r5.1)++v1.2.2.2.1.2.2.2.2.2.2.2.1)).bind fun r6=>((qz n (IntKind.i64.wrap (r6.1+(4:Int)))).bind fun r7=>(if (r7.1.length+((((v1.2.2.2.2.1++[IntKind.u8.wrap v1.2.2.2.1.2.2.2.2.1,IntKind.u8.wrap v1.2.2.2.1.2.2.2.2.2.1])++r3.1)++r5.1)++v1.2.2.2.1.2.2.2.2.2.2.2.1).length) * 1≤140737488355328 then ((yx n (r7.1++((((v1.2.2.2.2.1++[IntKind.u8.wrap v1.2.2.2.1.2.2.2.2.1,IntKind.u8.wrap v1.2.2.2.1.2.2.2.2.2.1])++r3.1)++r5.1)++v1.2.2.2.1.2.2.2.2.2.2.2.1))).bind fun r8=>((qz n r8.1).bind fun r9=>(if ((r7.1++((((v1.2.2.2.2.1++[IntKind.u8.wrap v1.2.2.2.1.2.2.2.2.1,IntKind.u8.wrap v1.2.2.2.1.2.2.2.2.2.1])++r3.1)++r5.1)++v1.2.2.2.1.2.2.2.2.2.2.2.1)).length+r9.1.length) * 1≤140737488355328 then some ((r7.1++((((v1.2.2.2.2.1++[IntKind.u8.wrap v1.2.2.2.1.2.2.2.2.1,IntKind.u8.wrap v1.2.2.2.1.2.2.2.2.2.1])++r3.1)++r5.1)++v1.2.2.2.1.2.2.2.2.2.2.2.1))++r9.1,()) else none))) else none))) else none) else none))) else none)) else none))) n (a0.2.2.2.1,(a0.2.2.2.1.length:Int),(0:Int),a0,((([IntKind.u8.wrap a0.1,IntKind.u8.wrap (a0.2.1.length:Int)]++a0.2.1)++[IntKind.u8.wrap (a0.2.2.1.length:Int)])++a0.2.2.1)++[IntKind.u8.wrap (a0.2.2.2.1.length:Int)],())) else none) else none) else none) else none)
def afg:Entry:=⟨128,[.val kr []],[.own (.sl 5 (.int .u8)) [5] [] []],fun n c=>wQ n c.1⟩
def aiy:Hint:=⟨0,[],[(0,[1,3,37,38,39],[34,450])],[],[(158,some 45,Um),(158,some 60,Um),(76,some 64,RH),(158,some 65,Um),(76,some 72,RH),(158,some 74,Um),(159,some 79,aff),(158,some 80,Um)],[],[],[],[]⟩
theorem amh:gK T aiy Tryz.f128 afg:=by intro n c; kernel_rfl
theorem anl [Fr] (n:Nat):ak Tryz.prog n afg:=aj mixed aI Tryz.func128 (by kernel_rfl) (hi:=aiy) (aa (Zv n) (aa (Zv n) (aa (Xh n) (aa (Zv n) (aa (Xh n) (aa (Zv n) (aa (ank n) (aa (Zv n) aA)))))))) amh
def Bc (n:Nat) (a0:List Int) (a1:List Int):Option (Bool×Unit):=some (decide (a0=a1),())
def afh:Entry:=⟨127,[.val (.sl 5 (.int .u8)) [], .val (.sl 5 (.int .u8)) []],[.val .bool [] []],fun n c=>Bc n c.1 c.2.1⟩
def aiz:Hint:=⟨0,[],[],[],[],[],[],[],[]⟩
theorem ami:gK T aiz Tryz.f127 afh:=by intro n c; kernel_rfl
theorem anm [Fr] (n:Nat):ak Tryz.prog n afh:=aj mixed aI Tryz.func127 (by kernel_rfl) (hi:=aiz) aA ami
def rZ (n:Nat) (a0:List Int):Option (iD×Int×Unit):=((gW n (a0,false,())).bind fun r1=>(if r1.2.1.2.1=true then some (H7,(0:Int),()) else ((cO n a0).bind fun r2=>(if decide (r1.1>r2.1)=true then some (H7,(0:Int),()) else (if 0≤(2:Int)∧(2:Int)≤(if r1.1>(2:Int) then r1.1 else (2:Int))∧(if r1.1>(2:Int) then r1.1 else (2:Int))≤(a0.length:Int) then ((eX n ((a0.take (if r1.1>(2:Int) then r1.1 else (2:Int)).toNat).drop (2:Int).toNat,r1.2.1.2)).bind fun r3=>((eX n r3.2.1).bind fun r4=>((eZ n r4.2.1 r4.1).bind fun r5=>((eX n r5.2.1).bind fun r6=>((eZ n r6.2.1 r6.1).bind fun r7=>((eX n r7.2.1).bind fun r8=>(rounds (fun L9 (v9:(List Int)×Int×Int×Int×iD×iD×Zt1×Unit)=>(if decide (v9.2.2.2.1<v9.2.2.1)=true then ((gW n v9.2.2.2.2.2.2.1).bind fun Rb=>(if (v9.2.2.2.2.2.1.2.2.2.1.length+[Rb.1].length) * 8≤140737488355328 then L9 (v9.1,v9.2.1,v9.2.2.1,IntKind.i64.wrap (v9.2.2.2.1+(1:Int)),v9.2.2.2.2.1,(v9.2.2.2.2.2.1.1,v9.2.2.2.2.2.1.2.1,v9.2.2.2.2.2.1.2.2.1,v9.2.2.2.2.2.1.2.2.2.1++[Rb.1],v9.2.2.2.2.2.1.2.2.2.2),Rb.2.1,()) else none)) else ((eX n v9.2.2.2.2.2.2.1).bind fun Lf=>((eX n Lf.2.1).bind fun NJ=>((gW n NJ.2.1).bind fun RA=>((gW n RA.2.1).bind fun r14=>((eZ n r14.2.1 r14.1).bind fun WS=>(if (([]:List Int).length+WS.1.length) * 1≤140737488355328 then (if WS.2.1.2.1=true then some (H7,(0:Int),()) else ((qy n (v9.2.2.2.2.2.1.1,v9.2.2.2.2.2.1.2.1,v9.2.2.2.2.2.1.2.2.1,v9.2.2.2.2.2.1.2.2.2.1,Lf.1,NJ.1,RA.1,([]:List Int)++WS.1,v9.2.2.2.2.2.1.2.2.2.2.2.2.2.2)).bind fun r16=>(if (!decide (r16.1=(0:Int)))=true then some (H7,(0:Int),()) else ((wQ n (v9.2.2.2.2.2.1.1,v9.2.2.2.2.2.1.2.1,v9.2.2.2.2.2.1.2.2.1,v9.2.2.2.2.2.1.2.2.2.1,Lf.1,NJ.1,RA.1,([]:List Int)++WS.1,v9.2.2.2.2.2.1.2.2.2.2.2.2.2.2)).bind fun r17=>(if 0≤v9.2.1∧v9.2.1≤(v9.1.length:Int) then ((Bc n r17.1 (v9.1.take v9.2.1.toNat)).bind fun r18=>(if (!r18.1)=true then some (H7,(0:Int),()) else some ((v9.2.2.2.2.2.1.1,v9.2.2.2.2.2.1.2.1,v9.2.2.2.2.2.1.2.2.1,v9.2.2.2.2.2.1.2.2.2.1,Lf.1,NJ.1,RA.1,([]:List Int)++WS.1,v9.2.2.2.2.2.1.2.2.2.2.2.2.2.2),v9.2.1,()))) else none))))) else none)))))))) n (a0,r1.1,r8.1,(0:Int),H7,(r3.1,r5.1,r7.1,([]:List Int),(0:Int),(0:Int),(0:Int),([]:List Int),()),r8.2.1,())))))))) else none)))))
def afi:Entry:=⟨97,[.val (.sl 5 (.int .u8)) []],[.own kr [2,5] [] [], .val (.int .i64) [] []],fun n c=>rZ n c.1⟩
def aiA:Hint:=⟨0,[50,92],[(0,[0,2,4,5,6,46,47],[66,194,290])],[],[(123,some 11,Xf),(76,some 19,RH),(124,some 31,RI),(124,some 35,RI),(125,some 36,Ul),(124,some 41,RI),(125,some 42,Ul),(124,some 46,RI),(123,some 52,Xf),(124,some 58,RI),(124,some 61,RI),(123,some 64,Xf),(123,some 69,Xf),(125,some 70,Ul),(126,some 79,acr),(128,some 84,afg),(127,some 88,afh)],[],[],[],[]⟩
theorem amj:gK T aiA Tryz.f97 afi:=by intro n c; kernel_rfl
theorem ann [Fr] (n:Nat):ak Tryz.prog n afi:=aj mixed aI Tryz.func97 (by kernel_rfl) (hi:=aiA) (aa (acA n) (aa (Xh n) (aa (Xi n) (aa (Xi n) (aa (Zu n) (aa (Xi n) (aa (Zu n) (aa (Xi n) (aa (acA n) (aa (Xi n) (aa (Xi n) (aa (acA n) (aa (acA n) (aa (Zu n) (aa (ajo n) (aa (anl n) (aa (anm n) aA))))))))))))))))) amj
def mJ (n:Nat) (a0:List Int):Option ((List iD)×Int×Unit):=(rounds (fun L1 (v1:(List Int)×Int×(List iD)×Unit)=>(if 0≤v1.2.1∧v1.2.1≤(v1.1.length:Int) then ((rZ n (v1.1.drop v1.2.1.toNat)).bind fun r2=>(if decide (r2.2.1=(0:Int))=true then some (v1.2.2.1,v1.2.1,()) else (if (v1.2.2.1.length+[r2.1].length) * 112≤140737488355328 then L1 (v1.1,IntKind.i64.wrap (v1.2.1+r2.2.1),v1.2.2.1++[r2.1],()) else none))) else none)) n (a0,(0:Int),([]:List iD),()))
def Zf:Entry:=⟨58,[.val (.sl 5 (.int .u8)) []],[.own (.sl 121 kr) [2,5,121] [] [], .val (.int .i64) [] []],fun n c=>mJ n c.1⟩
def aiB:Hint:=⟨0,[21],[(0,[0,4,5],[258])],[],[(97,some 13,afi)],[],[],[],[]⟩
theorem amk:gK T aiB Tryz.f58 Zf:=by intro n c; kernel_rfl
theorem afE [Fr] (n:Nat):ak Tryz.prog n Zf:=aj mixed aI Tryz.func58 (by kernel_rfl) (hi:=aiB) (aa (ann n) aA) amk
def mG (n:Nat) (a0:Be):Option ((List iD)×Bool×Unit):=((mJ n a0.2.1).bind fun r1=>((mJ n a0.2.2.1).bind fun r2=>(if (r1.1.length+r2.1.length) * 112≤140737488355328 then ((cO n a0.2.1).bind fun r3=>(if decide (r1.2.1=r3.1)=true then ((cO n a0.2.2.1).bind fun r4=>some (r1.1++r2.1,decide (r2.2.1=r4.1),())) else some (r1.1++r2.1,false,()))) else none)))
def afj:Entry:=⟨93,[.val CR []],[.own (.sl 121 kr) [2,5,121] [] [], .val .bool [] []],fun n c=>mG n c.1⟩
def aiC:Hint:=⟨0,[],[],[],[(58,some 11,Zf),(58,some 17,Zf),(76,some 26,RH),(76,some 32,RH)],[],[],[],[]⟩
theorem aml:gK T aiC Tryz.f93 afj:=by intro n c; kernel_rfl
theorem ano [Fr] (n:Nat):ak Tryz.prog n afj:=aj mixed aI Tryz.func93 (by kernel_rfl) (hi:=aiC) (aa (afE n) (aa (afE n) (aa (Xh n) (aa (Xh n) aA)))) aml
def qU (n:Nat)  : Option (fJ×Unit):=some (((1:Int),([]:List dR),()),())
def acs:Entry:=⟨60,[],[.own rV [5,147,162] [] []],fun n c=>qU n⟩
def aiD:Hint:=⟨0,[],[],[],[],[],[],[],[]⟩
theorem amm:gK T aiD Tryz.f60 acs:=by intro n c; kernel_rfl
theorem ajp [Fr] (n:Nat):ak Tryz.prog n acs:=aj mixed aI Tryz.func60 (by kernel_rfl) (hi:=aiD) aA amm
def bO (n:Nat) (a0:List Int):Option ((List Int)×Unit):=(if a0.isEmpty=true then (agC [(.sl 5 (.int .u8))] (some (([]:List Int),())) (if (([]:List Int).length+a0.length) * 1≤140737488355328 then some (([]:List Int)++a0,()) else none)) else (if (([]:List Int).length+a0.length) * 1≤140737488355328 then some (([]:List Int)++a0,()) else none))
def RJ:Entry:=⟨61,[.val (.sl 5 (.int .u8)) []],[.own (.sl 5 (.int .u8)) [5] [] []],fun n c=>bO n c.1⟩
def aiE:Hint:=⟨0,[],[],[],[],[],[],[],[]⟩
theorem amn:gK T aiE Tryz.f61 RJ:=by intro n c; kernel_rfl
theorem Xj [Fr] (n:Nat):ak Tryz.prog n RJ:=aj mixed aI Tryz.func61 (by kernel_rfl) (hi:=aiE) aA amn
def jA (n:Nat) (a0:fJ):Option (fJ×Unit):=(rounds (fun L1 (v1:(List dR)×Int×Int×fJ×fJ×Unit)=>(if decide (v1.2.2.1<v1.2.1)=true then (if aH v1.2.2.1 v1.1.length then (rounds (fun L2 (v2:(List dR)×Int×Int×(List tN)×Int×Int×fJ×fJ×dR×Unit)=>(if decide (v2.2.2.2.2.2.1<v2.2.2.2.2.1)=true then (if aH v2.2.2.2.2.2.1 v2.2.2.2.1.length then ((bO n (((((v2.2.2.2.1.getD v2.2.2.2.2.2.1.toNat lH).2).2).2).1)).bind fun r3=>(if (v2.2.2.2.2.2.2.2.2.1.2.2.2.1.length+[((v2.2.2.2.1.getD v2.2.2.2.2.2.1.toNat lH).1,((v2.2.2.2.1.getD v2.2.2.2.2.2.1.toNat lH).2).1,(((v2.2.2.2.1.getD v2.2.2.2.2.2.1.toNat lH).2).2).1,r3.1,((((v2.2.2.2.1.getD v2.2.2.2.2.2.1.toNat lH).2).2).2).2)].length) * 48≤140737488355328 then L2 (v2.1,v2.2.1,v2.2.2.1,v2.2.2.2.1,v2.2.2.2.2.1,IntKind.i64.wrap (v2.2.2.2.2.2.1+(1:Int)),v2.2.2.2.2.2.2.1,v2.2.2.2.2.2.2.2.1,(v2.2.2.2.2.2.2.2.2.1.1,v2.2.2.2.2.2.2.2.2.1.2.1,v2.2.2.2.2.2.2.2.2.1.2.2.1,v2.2.2.2.2.2.2.2.2.1.2.2.2.1++[((v2.2.2.2.1.getD v2.2.2.2.2.2.1.toNat lH).1,((v2.2.2.2.1.getD v2.2.2.2.2.2.1.toNat lH).2).1,(((v2.2.2.2.1.getD v2.2.2.2.2.2.1.toNat lH).2).2).1,r3.1,((((v2.2.2.2.1.getD v2.2.2.2.2.2.1.toNat lH).2).2).2).2)],v2.2.2.2.2.2.2.2.2.1.2.2.2.2),()) else none)) else none) else (if (v2.2.2.2.2.2.2.2.1.2.1.length+[v2.2.2.2.2.2.2.2.2.1].length) * 56≤140737488355328 then L1 (v2.1,v2.2.1,IntKind.i64.wrap (v2.2.2.1+(1:Int)),v2.2.2.2.2.2.2.1,(v2.2.2.2.2.2.2.2.1.1,v2.2.2.2.2.2.2.2.1.2.1++[v2.2.2.2.2.2.2.2.2.1],v2.2.2.2.2.2.2.2.1.2.2),()) else none))) n (v1.1,v1.2.1,v1.2.2.1,((((v1.1.getD v1.2.2.1.toNat dH).2).2).2).1,((((((v1.1.getD v1.2.2.1.toNat dH).2).2).2).1).length:Int),(0:Int),v1.2.2.2.1,v1.2.2.2.2.1,((v1.1.getD v1.2.2.1.toNat dH).1,((v1.1.getD v1.2.2.1.toNat dH).2).1,(((v1.1.getD v1.2.2.1.toNat dH).2).2).1,([]:List tN),()),())) else none) else some (v1.2.2.2.2.1,()))) n (a0.2.1,(a0.2.1.length:Int),(0:Int),R3,(a0.1,([]:List dR),()),()))
def Zg:Entry:=⟨98,[.val rV []],[.own rV [5,147,162] [] []],fun n c=>jA n c.1⟩
def aiF:Hint:=⟨0,[38,39,45,46,51],[(0,[2,3,13,14,15],[66,98]),(2,[2,3,6,13,14,15,27,28,29],[66,98,194])],[],[(61,some 35,RJ)],[],[],[],[]⟩
theorem amo:gK T aiF Tryz.f98 Zg:=by intro n c; kernel_rfl
theorem afF [Fr] (n:Nat):ak Tryz.prog n Zg:=aj mixed aI Tryz.func98 (by kernel_rfl) (hi:=aiF) (aa (Xj n) aA) amo
def tJ (n:Nat) (a0:dR) (a1:List Int):Option (Bool×Unit):=some (decide (a0.1=a1),())
def afk:Entry:=⟨174,[.val oL [], .ro .str],[.val .bool [] []],fun n c=>tJ n c.1 c.2.1⟩
def aiG:Hint:=⟨0,[],[],[],[],[],[],[],[]⟩
theorem amq:gK T aiG Tryz.f174 afk:=by intro n c; kernel_rfl
theorem anp [Fr] (n:Nat):ak Tryz.prog n afk:=aj mixed aI Tryz.func174 (by kernel_rfl) (hi:=aiG) aA amq
def bX (n:Nat) (a0:List dR) (KL:List Int):Option (Int×Unit):=(rounds (fun L1 (v1:(List dR)×(List Int)×Int×Int×Unit)=>(if decide (v1.2.2.2.1<v1.2.2.1)=true then (if aH v1.2.2.2.1 v1.1.length then ((tJ n (v1.1.getD v1.2.2.2.1.toNat dH) v1.2.1).bind fun r2=>(if r2.1=true then some (v1.2.2.2.1,()) else L1 (v1.1,v1.2.1,v1.2.2.1,IntKind.i64.wrap (v1.2.2.2.1+(1:Int)),()))) else none) else some ((-1:Int),()))) n (a0,KL,(a0.length:Int),(0:Int),()))
def afl:Entry:=⟨152,[.val (.sl 147 oL) [], .fn 174 [.str]],[.val (.int .i64) [] []],fun n c=>bX n c.1 c.2.1⟩
def aiH:Hint:=⟨0,[],[(0,[0,1,7,8],[])],[],[(174,some 16,afk)],[],[],[],[]⟩
theorem amr:gK T aiH Tryz.f152 afl:=by intro n c; kernel_rfl
theorem anq [Fr] (n:Nat):ak Tryz.prog n afl:=aj mixed aI Tryz.func152 (by kernel_rfl) (hi:=aiH) (aa (anp n) aA) amr
def jy (n:Nat) (a0:fJ) (a1:List Int):Option (Int×Unit):=((bX n a0.2.1 a1).bind fun r1=>some (r1.1,()))
def Zh:Entry:=⟨161,[.val rV [], .val .str []],[.val (.int .i64) [] []],fun n c=>jy n c.1 c.2.1⟩
def aiI:Hint:=⟨0,[],[],[],[(152,some 8,afl)],[],[],[],[]⟩
theorem ams:gK T aiI Tryz.f161 Zh:=by intro n c; kernel_rfl
theorem afG [Fr] (n:Nat):ak Tryz.prog n Zh:=aj mixed aI Tryz.func161 (by kernel_rfl) (hi:=aiI) (aa (anq n) aA) ams
def o9 (n:Nat) (a0:fJ) (a1:List Int):Option (Int×fJ×Unit):=((jy n a0 a1).bind fun r1=>(if decide (r1.1≥(0:Int))=true then some ((6:Int),a0,()) else (if decide ((a0.2.1.length:Int)=(3:Int))=true then some ((10:Int),a0,()) else (if decide (a0.1=(1000:Int))=true then some ((10:Int),a0,()) else (if (a0.2.1.length+[(a1,a0.1,(1:Int),([]:List tN),())].length) * 56≤140737488355328 then some ((0:Int),(IntKind.i64.wrap (a0.1+(1:Int)),a0.2.1++[(a1,a0.1,(1:Int),([]:List tN),())],a0.2.2),()) else none)))))
def afm:Entry:=⟨160,[.rw rV [5,147,162] [5,147,162,4294967295] [5,147,162], .val .str []],[.val (.int .i64) [] []],fun n c=>o9 n c.1 c.2.1⟩
def aiJ:Hint:=⟨0,[30],[],[],[(161,some 10,Zh)],[],[],[],[]⟩
theorem amt:gK T aiJ Tryz.f160 afm:=by intro n c; kernel_rfl
theorem anr [Fr] (n:Nat):ak Tryz.prog n afm:=aj mixed aI Tryz.func160 (by kernel_rfl) (hi:=aiJ) (aa (afG n) aA) amt
namespace Uq
def tyI:YU:={ ty:=[(2,(.int .i64)),(3,(.int .i64)),(4, .bool),(5,(.int .u8)),(6,(.int .u8)),(7,Zk4),(8,Zk4),(9, .str),(10, .str),(11, .str),(12,(.int .u64)),(13,Zk0),(14,Zk0),(21,(.int .i32)),(22,(.sl 5 (.int .u8))),(23,(.sl 142 Mf)),(24,Ux),(25,Ux),(26,Uz),(27,Uz),(28,(.sl 79 Al)),(29,UB),(30,UB),(32,(.sl 9 .str)),(33,(.sl 147 Zk3)),(34,Zk8),(35,Zk8),(36,acM),(37,acM),(38,(.sl 74 Al)),(39,afM),(40,afM),(41,ajB),(42,ajB),(57,(.sl 2 (.int .i64))),(58,ajz),(59,ajz),(73,Al),(74,Al),(79,Al),(85,(.sl 121 kr)),(88,ajy),(89,ajy),(120,kr),(121,kr),(122,Mg),(123,Mg),(137,(.sl 22 (.sl 5 (.int .u8)))),(140,(.sl 203 BO)),(141,Mf),(142,Mf),(145,(.sl 162 BO)),(146,Zk3),(147,Zk3),(161,BO),(162,BO),(166,Xn),(167,Xn),(179,Xo),(180,Xo),(203,BO),(219,(.int .u32)),(220,(.int .u8)),(221,(.int .u8)),(224,(.int .i32)),(225,(.int .i32))],bytes:=[(2,8),(3,8),(4,1),(5,1),(6,1),(7,24),(8,24),(9,16),(10,16),(11,16),(12,8),(13,24),(14,24),(21,4),(22,24),(23,24),(24,32),(25,32),(26,88),(27,88),(28,24),(29,112),(30,112),(32,24),(33,24),(34,32),(35,32),(36,88),(37,88),(38,24),(39,112),(40,112),(41,144),(42,144),(57,24),(58,120),(59,120),(73,56),(74,56),(79,56),(85,24),(88,64),(89,64),(120,112),(121,112),(122,128),(123,128),(137,24),(140,24),(141,56),(142,56),(145,24),(146,56),(147,56),(161,48),(162,48),(166,32),(167,32),(179,40),(180,40),(203,48),(219,4),(220,1),(221,1),(224,4),(225,4)],ptr:=[15,16,17,55,81,83,116,144,151,165,177,182,223],ids:=true }
def T:jF:=tyI.tab
theorem aI:Fa Tryz.prog tyI=true:=by kernel_rfl
theorem mixed:Tryz.prog.follows .mixedOrders=true:=by kernel_rfl
def bR (n:Nat) (a0:List Zt3) (a1:Int) (a2:Int):Option Zt8:=(if 0≤a1∧a1≤a2∧a2≤(a0.length:Int)∧(a0.length:Int)≤(a0.length:Int) then (if decide (a1=a2)=true then some (((a0.length:Nat):Int),a0,()) else (if 0≤(0:Int)∧(0:Int)≤a1∧a1≤(a0.length:Int) then (if 0≤a2∧a2≤(a0.length:Int)∧(a0.length:Int)≤(a0.length:Int) then (if a1.toNat≤a2.toNat then (if 0≤(((a1.toNat+((a0.length:Int).toNat - a2.toNat)) - 0:Nat):Int)∧(((a1.toNat+((a0.length:Int).toNat - a2.toNat)) - 0:Nat):Int)≤(a0.length:Int)∧((0:Nat):Int)+(a0.length:Int)≤((a0.take a1.toNat++(a0.take ((a0.length:Int).toNat)).drop a2.toNat++a0.drop (a1.toNat+((a0.length:Int).toNat - a2.toNat))).length:Int) then some ((((a1.toNat+((a0.length:Int).toNat - a2.toNat)):Nat):Int),(a0.take a1.toNat++(a0.take ((a0.length:Int).toNat)).drop a2.toNat++a0.drop (a1.toNat+((a0.length:Int).toNat - a2.toNat))).take (0+(((a1.toNat+((a0.length:Int).toNat - a2.toNat)) - 0:Nat):Int).toNat)++List.replicate ((0+(a0.length:Int).toNat) - (0+(((a1.toNat+((a0.length:Int).toNat - a2.toNat)) - 0:Nat):Int).toNat)) (([]:List Int),(0:Int),(0:Int),(0:Nat),())++(a0.take a1.toNat++(a0.take ((a0.length:Int).toNat)).drop a2.toNat++a0.drop (a1.toNat+((a0.length:Int).toNat - a2.toNat))).drop (0+(a0.length:Int).toNat),()) else none) else none) else none) else none)) else none)
def Zi:Entry:=⟨162,[.jL (.sl 147 Zk3) [5,147,162] [147], .val (.int .i64) [], .val (.int .i64) []],[.into 0 []],fun n c=>bR n c.1 c.2.1 c.2.2.1⟩
def aiK:Hint:=⟨0,[],[],[],[],[],[],[13,22,25,26,29,31],[]⟩
theorem amu:gK T aiK Tryz.f162 Zi:=by intro n c; kernel_rfl
theorem afH [Fr] (n:Nat):ak Tryz.prog n Zi:=aj mixed aI Tryz.func162 (by kernel_rfl) (hi:=aiK) aA amu
end Uq
def aev:List dn:=[.jL (.sl 147 oL) [5,147,162] [147], .val (.int .i64) [], .val (.int .i64) []]
def akQ:List jY:=[.into 0 []]
def bR (n:Nat) (a0:List dR) (a1:Int) (a2:Int):Option (Int×List dR×Unit):=nM.MH dH a0 a1 a2
def Zi:Entry:=⟨162,aev,akQ,fun n (c:Cont (kin aev))=>bR n c.1 c.2.1 c.2.2.1⟩
theorem afH [Fr] (n:Nat):ak Tryz.prog n Zi:=nM.Qy (k0:=.str) (kk:=BO) (e:=162) (t:=147) (ow:=[5,147,162]) (wt:=[147]) (vI:=[147]) (d0:=([]:List Int)) (FI:=Uq.bR) (by simp [K.tys,aL]) (by simp [K.tys,aL]) (by simp [K.tys,aL]) (fun fr=>Uq.afH n) (by simp [oF,aL]) (fun _ _ _=>⟨rfl,rfl⟩) (fun xs i j h=>nM.UY _ xs i j h)
def uE (n:Nat) (a0:dR) (a1:tN):Option (Int×dR×Unit):=((bO n a1.2.2.2.1).bind fun r1=>(if [(a0.2.2.1,a1.2.1,a1.2.2.1,r1.1,())].length=1∧(a0.2.2.2.1.length+1) * 48≤140737488355328 then some (IntKind.i64.wrap ((IntKind.i64.wrap (a0.2.2.1+(1:Int))) - (1:Int)),(a0.1,a0.2.1,IntKind.i64.wrap (a0.2.2.1+(1:Int)),a0.2.2.2.1++[[(a0.2.2.1,a1.2.1,a1.2.2.1,r1.1,())].getD 0 lH],a0.2.2.2.2),()) else none))
def afn:Entry:=⟨163,[.rw oL [5,162] [162,4294967295] [5,162], .val BO []],[.val (.int .i64) [] []],fun n c=>uE n c.1 c.2.1⟩
def aiL:Hint:=⟨0,[9],[],[],[(61,some 20,RJ)],[],[],[],[23]⟩
theorem amv:gK T aiL Tryz.f163 afn:=by intro n c; kernel_rfl
theorem ant [Fr] (n:Nat):ak Tryz.prog n afn:=aj mixed aI Tryz.func163 (by kernel_rfl) (hi:=aiL) (aa (Xj n) aA) amv
def eH (n:Nat) (a0:List Int) (a1:Int):Option (Int×Unit):=(rounds (fun L1 (v1:(List Int)×Int×Int×Int×Unit)=>(if decide (v1.2.2.2.1<v1.2.2.1)=true then (if aH v1.2.2.2.1 v1.1.length then (if decide (v1.2.1=(v1.1.getD v1.2.2.2.1.toNat (0:Int)))=true then some (v1.2.2.2.1,()) else L1 (v1.1,v1.2.1,v1.2.2.1,IntKind.i64.wrap (v1.2.2.2.1+(1:Int)),())) else none) else some ((-1:Int),()))) n (a0,a1,(a0.length:Int),(0:Int),()))
def Un:Entry:=⟨180,[.val (.sl 2 (.int .i64)) [], .val (.int .i64) []],[.val (.int .i64) [] []],fun n c=>eH n c.1 c.2.1⟩
def Zo:Hint:=⟨0,[],[(0,[0,1,7,8],[])],[],[],[],[],[],[]⟩
theorem aeI:gK T Zo Tryz.f180 Un:=by intro n c; kernel_rfl
theorem afI [Fr] (n:Nat):ak Tryz.prog n Un:=aj mixed aI Tryz.func180 (by kernel_rfl) (hi:=Zo) aA aeI
def aW (n:Nat) (a0:List Int) (a1:Int):Option (Bool×Unit):=((eH n a0 a1).bind fun r1=>some (decide (r1.1≥(0:Int)),()))
def RL:Entry:=⟨175,[.val (.sl 2 (.int .i64)) [], .val (.int .i64) []],[.val .bool [] []],fun n c=>aW n c.1 c.2.1⟩
def Zp:Hint:=⟨0,[],[],[],[(180,some 7,Un)],[],[],[],[]⟩
theorem aeJ:gK T Zp Tryz.f175 RL:=by intro n c; kernel_rfl
theorem acB [Fr] (n:Nat):ak Tryz.prog n RL:=aj mixed aI Tryz.func175 (by kernel_rfl) (hi:=Zp) (aa (afI n) aA) aeJ
def nO (n:Nat) (a0:dR) (a1:iD):Option ((List Int)×dR×Unit):=(rounds (fun L1 (v1:Int×Int×dR×iD×(List Int)×Unit)=>(if decide (v1.2.1<v1.1)=true then (if aH v1.2.1 v1.2.2.1.2.2.2.1.length then ((aW n v1.2.2.2.1.2.2.2.1 ((v1.2.2.1.2.2.2.1.getD v1.2.1.toNat lH).1)).bind fun r2=>(if (!r2.1)=true then L1 (v1.1,IntKind.i64.wrap (v1.2.1+(1:Int)),v1.2.2.1,v1.2.2.2.1,v1.2.2.2.2.1,()) else (if (v1.2.2.2.2.1.length+[(v1.2.2.1.2.2.2.1.getD v1.2.1.toNat lH).1].length) * 8≤140737488355328 then (if decide (v1.2.2.2.1.2.2.2.2.1=(1:Int))=true then L1 (v1.1,IntKind.i64.wrap (v1.2.1+(1:Int)),(v1.2.2.1.1,v1.2.2.1.2.1,v1.2.2.1.2.2.1,(fF v1.2.2.1.2.2.2.1 v1.2.1.toNat lH fun z1=>(z1.1,v1.2.2.2.1.2.2.2.2.2.1,z1.2.2)),v1.2.2.1.2.2.2.2),v1.2.2.2.1,v1.2.2.2.2.1++[(v1.2.2.1.2.2.2.1.getD v1.2.1.toNat lH).1],()) else (if decide (v1.2.2.2.1.2.2.2.2.1=(2:Int))=true then L1 (v1.1,IntKind.i64.wrap (v1.2.1+(1:Int)),(v1.2.2.1.1,v1.2.2.1.2.1,v1.2.2.1.2.2.1,(fF v1.2.2.1.2.2.2.1 v1.2.1.toNat lH fun z1=>(z1.1,IntKind.i64.wrap ((BitVec.ofInt (IntKind.bits .i64) (((v1.2.2.1.2.2.2.1.getD v1.2.1.toNat lH).2).1) ||| BitVec.ofInt (IntKind.bits .i64) v1.2.2.2.1.2.2.2.2.2.1).toNat),z1.2.2)),v1.2.2.1.2.2.2.2),v1.2.2.2.1,v1.2.2.2.2.1++[(v1.2.2.1.2.2.2.1.getD v1.2.1.toNat lH).1],()) else L1 (v1.1,IntKind.i64.wrap (v1.2.1+(1:Int)),(v1.2.2.1.1,v1.2.2.1.2.1,v1.2.2.1.2.2.1,(fF v1.2.2.1.2.2.2.1 v1.2.1.toNat lH fun z1=>(z1.1,IntKind.i64.wrap ((BitVec.ofInt (IntKind.bits .i64) (((v1.2.2.1.2.2.2.1.getD v1.2.1.toNat lH).2).1) &&& ~~~ BitVec.ofInt (IntKind.bits .i64) v1.2.2.2.1.2.2.2.2.2.1).toNat),z1.2.2)),v1.2.2.1.2.2.2.2),v1.2.2.2.1,v1.2.2.2.2.1++[(v1.2.2.1.2.2.2.1.getD v1.2.1.toNat lH).1],()))) else none))) else none) else some (v1.2.2.2.2.1,v1.2.2.1,()))) n ((a0.2.2.2.1.length:Int),(0:Int),a0,a1,([]:List Int),()))
def afo:Entry:=⟨164,[.rw oL [5,162] [162] [], .val kr []],[.own (.sl 2 (.int .i64)) [2] [] []],fun n c=>nO n c.1 c.2.1⟩
def aiM:Hint:=⟨0,[20],[(0,[0,3,5,13,14],[0,98,258])],[],[(175,some 29,RL)],[],[],[],[]⟩
theorem amw:gK T aiM Tryz.f164 afo:=by intro n c; kernel_rfl
theorem anu [Fr] (n:Nat):ak Tryz.prog n afo:=aj mixed aI Tryz.func164 (by kernel_rfl) (hi:=aiM) (aa (acB n) aA) amw
namespace IdP
def tyI:YU:={ ty:=[(2,(.int .i64)),(3,(.int .i64)),(4, .bool),(5,(.int .u8)),(6,(.int .u8)),(7,Zk4),(8,Zk4),(9, .str),(10, .str),(11, .str),(12,(.int .u64)),(13,Zk0),(14,Zk0),(21,(.int .i32)),(22,(.sl 5 (.int .u8))),(23,(.sl 142 Zk9)),(24,Uw),(25,Uw),(26,Uy),(27,Uy),(28,(.sl 79 Al)),(29,Xr),(30,Xr),(32,(.sl 9 .str)),(33,(.sl 147 KJ)),(34,RX),(35,RX),(36,RY),(37,RY),(38,(.sl 74 Al)),(39,UA),(40,UA),(41,Xt),(42,Xt),(57,(.sl 2 (.int .i64))),(58,Xq),(59,Xq),(73,Al),(74,Al),(79,Al),(85,(.sl 121 kr)),(88,Xp),(89,Xp),(120,kr),(121,kr),(122,Mg),(123,Mg),(137,(.sl 22 (.sl 5 (.int .u8)))),(140,(.sl 203 Ov)),(141,Zk9),(142,Zk9),(145,(.sl 162 Ov)),(146,KJ),(147,KJ),(161,Ov),(162,Ov),(166,Xn),(167,Xn),(179,Xo),(180,Xo),(203,Ov),(219,(.int .u32)),(220,(.int .u8)),(221,(.int .u8)),(224,(.int .i32)),(225,(.int .i32))],bytes:=[(2,8),(3,8),(4,1),(5,1),(6,1),(7,24),(8,24),(9,16),(10,16),(11,16),(12,8),(13,24),(14,24),(21,4),(22,24),(23,24),(24,32),(25,32),(26,88),(27,88),(28,24),(29,112),(30,112),(32,24),(33,24),(34,32),(35,32),(36,88),(37,88),(38,24),(39,112),(40,112),(41,144),(42,144),(57,24),(58,120),(59,120),(73,56),(74,56),(79,56),(85,24),(88,64),(89,64),(120,112),(121,112),(122,128),(123,128),(137,24),(140,24),(141,56),(142,56),(145,24),(146,56),(147,56),(161,48),(162,48),(166,32),(167,32),(179,40),(180,40),(203,48),(219,4),(220,1),(221,1),(224,4),(225,4)],ptr:=[15,16,17,55,81,83,116,144,151,165,177,182,223],ids:=true }
def T:jF:=tyI.tab
theorem aI:Fa Tryz.prog tyI=true:=by kernel_rfl
theorem mixed:Tryz.prog.follows .mixedOrders=true:=by kernel_rfl
def gq (n:Nat) (a0:Zt9):Option ((List Int)×Zt9×Unit):=(rounds (fun L1 (v1:(List Ql)×Int×Int×Zt9×(List Int)×(List Ql)×Unit)=>(if decide (v1.2.2.1<v1.2.1)=true then (if aH v1.2.2.1 v1.1.length then (if (!decide ((IntKind.i64.wrap ((BitVec.ofInt (IntKind.bits .i64) (((v1.1.getD v1.2.2.1.toNat Qm).2).1) &&& BitVec.ofInt (IntKind.bits .i64) (8:Int)).toNat))=(0:Int)))=true then (if (v1.2.2.2.2.1.length+[(v1.1.getD v1.2.2.1.toNat Qm).1].length) * 8≤140737488355328 then L1 (v1.1,v1.2.1,IntKind.i64.wrap (v1.2.2.1+(1:Int)),v1.2.2.2.1,v1.2.2.2.2.1++[(v1.1.getD v1.2.2.1.toNat Qm).1],v1.2.2.2.2.2.1,()) else none) else (if (v1.2.2.2.2.2.1.length+[v1.1.getD v1.2.2.1.toNat Qm].length) * 48≤140737488355328 then L1 (v1.1,v1.2.1,IntKind.i64.wrap (v1.2.2.1+(1:Int)),v1.2.2.2.1,v1.2.2.2.2.1,v1.2.2.2.2.2.1++[v1.1.getD v1.2.2.1.toNat Qm],()) else none)) else none) else some (v1.2.2.2.2.1,(v1.2.2.2.1.1,v1.2.2.2.1.2.1,v1.2.2.2.1.2.2.1,v1.2.2.2.2.2.1,v1.2.2.2.1.2.2.2.2),()))) n (a0.2.2.2.1,(a0.2.2.2.1.length:Int),(0:Int),a0,([]:List Int),([]:List Ql),()))
def Zj:Entry:=⟨165,[.rw KJ [5,162] [4294967295] [162]],[.own (.sl 2 (.int .i64)) [2] [] []],fun n c=>gq n c.1⟩
def aiN:Hint:=⟨0,[],[(0,[0,3,4,12,13,14],[0,226,258])],[],[],[],[],[],[]⟩
theorem amx:gK T aiN Tryz.f165 Zj:=by intro n c; kernel_rfl
theorem afJ [Fr] (n:Nat):ak Tryz.prog n Zj:=aj mixed aI Tryz.func165 (by kernel_rfl) (hi:=aiN) aA amx
end IdP
def gq (n:Nat) (a0:List Int×Int×Int×List kT.CQ×Unit):Option (List Int×(List Int×Int×Int×List kT.CQ×Unit)×Unit):=kT.Bt n a0
def aew:List dn:=[.rw oL [5,162] [4294967295,5] [162,4294967294]]
def akR:List jY:=[.own (.sl 2 (.int .i64)) [2] [] []]
def Zj:Entry:=⟨165,aew,akR,fun n (c:Cont (kin aew))=>gq n c.1⟩
def afw (x:Ql):Bool:=!decide ((IntKind.i64.wrap ((BitVec.ofInt (IntKind.bits .i64) (x.2.1) &&& BitVec.ofInt (IntKind.bits .i64) (8:Int)).toNat))=(0:Int))
theorem amK {n:Nat} {nm:List Int} {w h:Int} {xs:List Ql} (hc:xs.length * 48≤140737488355328) (hn:xs.length<n):IdP.gq n (nm,w,h,xs,())=some ((xs.filter afw).map (·.1),(nm,w,h,xs.filter (fun x=>!afw x),()),()):=
 V9.YB (xs:=xs) (p:=afw) (g:=(·.1)) (d:=Qm) (sc:=8) (sa:=48) (a0:=(nm,w,h,xs,()))
  (fin:=fun a cs ks=>(cs,(a.1,a.2.1,a.2.2.1,ks,a.2.2.2.2),())) (fun _ _=>rfl) (by have:=hc; omega) (by have:=hc; omega) hc hn
theorem afJ [Fr] (n:Nat):ak Tryz.prog n Zj:=kT.Ra (e:=5) (m:=162) (i:=2) (FI:=fun n c=>IdP.gq n c.1) (fun fr=>IdP.afJ n) (fun nm w h xs hc hn=>amK hc hn)
def eG (n:Nat) (a0:List tN):Option (Int×Unit):=some ((a0.length:Int),())
def afp:Entry:=⟨176,[.val (.sl 162 BO) []],[.val (.int .i64) [] []],fun n c=>eG n c.1⟩
def aiO:Hint:=⟨0,[],[],[],[],[],[],[],[]⟩
theorem amy:gK T aiO Tryz.f176 afp:=by intro n c; kernel_rfl
theorem anw [Fr] (n:Nat):ak Tryz.prog n afp:=aj mixed aI Tryz.func176 (by kernel_rfl) (hi:=aiO) aA amy
def kK (n:Nat) (a0:dR) (a1:tN):Option (Int×dR×Unit):=((bO n a1.2.2.2.1).bind fun r1=>(if [(a0.2.2.1,a1.2.1,a1.2.2.1,r1.1,())].length=1∧(a0.2.2.2.1.length+1) * 48≤140737488355328 then some (IntKind.i64.wrap ((IntKind.i64.wrap (a0.2.2.1+(1:Int))) - (1:Int)),(a0.1,a0.2.1,IntKind.i64.wrap (a0.2.2.1+(1:Int)),a0.2.2.2.1++[[(a0.2.2.1,a1.2.1,a1.2.2.1,r1.1,())].getD 0 lH],a0.2.2.2.2),()) else none))
def afq:Entry:=⟨163,[.rw oL [5,162] [162,4294967295] [5,162], .val BO [0]],[.val (.int .i64) [] []],fun n c=>kK n c.1 c.2.1⟩
def aiP:Hint:=⟨0,[9],[],[],[(61,some 20,RJ)],[],[],[],[23]⟩
theorem amz:gK T aiP Tryz.f163 afq:=by intro n c; kernel_rfl
theorem anx [Fr] (n:Nat):ak Tryz.prog n afq:=aj mixed aI Tryz.func163 (by kernel_rfl) (hi:=aiP) (aa (Xj n) aA) amz
namespace za
def tyI:YU:={ ty:=[(2,(.int .i64)),(3,(.int .i64)),(4, .bool),(5,(.int .u8)),(6,(.int .u8)),(7,Zk4),(8,Zk4),(9, .str),(10, .str),(11, .str),(12,(.int .u64)),(13,Zk0),(14,Zk0),(21,(.int .i32)),(22,(.sl 5 (.int .u8))),(23,(.sl 142 Zk9)),(24,Uw),(25,Uw),(26,Uy),(27,Uy),(28,(.sl 79 Al)),(29,Xr),(30,Xr),(32,(.sl 9 .str)),(33,(.sl 147 KJ)),(34,RX),(35,RX),(36,RY),(37,RY),(38,(.sl 74 Al)),(39,UA),(40,UA),(41,Xt),(42,Xt),(57,(.sl 2 (.int .i64))),(58,Xq),(59,Xq),(73,Al),(74,Al),(79,Al),(85,(.sl 121 kr)),(88,Xp),(89,Xp),(120,kr),(121,kr),(122,Mg),(123,Mg),(137,(.sl 22 (.sl 5 (.int .u8)))),(140,(.sl 203 Ov)),(141,Zk9),(142,Zk9),(145,(.sl 162 Ov)),(146,KJ),(147,KJ),(161,Ov),(162,Ov),(166,Xn),(167,Xn),(179,Xo),(180,Xo),(203,Ov),(219,(.int .u32)),(220,(.int .u8)),(221,(.int .u8)),(224,(.int .i32)),(225,(.int .i32))],bytes:=[(2,8),(3,8),(4,1),(5,1),(6,1),(7,24),(8,24),(9,16),(10,16),(11,16),(12,8),(13,24),(14,24),(21,4),(22,24),(23,24),(24,32),(25,32),(26,88),(27,88),(28,24),(29,112),(30,112),(32,24),(33,24),(34,32),(35,32),(36,88),(37,88),(38,24),(39,112),(40,112),(41,144),(42,144),(57,24),(58,120),(59,120),(73,56),(74,56),(79,56),(85,24),(88,64),(89,64),(120,112),(121,112),(122,128),(123,128),(137,24),(140,24),(141,56),(142,56),(145,24),(146,56),(147,56),(161,48),(162,48),(166,32),(167,32),(179,40),(180,40),(203,48),(219,4),(220,1),(221,1),(224,4),(225,4)],ptr:=[15,16,17,55,81,83,116,144,151,165,177,182,223],ids:=true }
def T:jF:=tyI.tab
theorem aI:Fa Tryz.prog tyI=true:=by kernel_rfl
theorem mixed:Tryz.prog.follows .mixedOrders=true:=by kernel_rfl
def eH (n:Nat) (a0:List Int) (a1:Int):Option (Int×Unit):=(rounds (fun L1 (v1:(List Int)×Int×Int×Int×Unit)=>(if decide (v1.2.2.2.1<v1.2.2.1)=true then (if aH v1.2.2.2.1 v1.1.length then (if decide (v1.2.1=(v1.1.getD v1.2.2.2.1.toNat (0:Int)))=true then some (v1.2.2.2.1,()) else L1 (v1.1,v1.2.1,v1.2.2.1,IntKind.i64.wrap (v1.2.2.2.1+(1:Int)),())) else none) else some ((-1:Int),()))) n (a0,a1,(a0.length:Int),(0:Int),()))
def Un:Entry:=⟨180,[.val (.sl 2 (.int .i64)) [], .val (.int .i64) []],[.val (.int .i64) [] []],fun n c=>eH n c.1 c.2.1⟩
def Zo:Hint:=⟨0,[],[(0,[0,1,7,8],[])],[],[],[],[],[],[]⟩
theorem aeI:gK T Zo Tryz.f180 Un:=by intro n c; kernel_rfl
theorem afI [Fr] (n:Nat):ak Tryz.prog n Un:=aj mixed aI Tryz.func180 (by kernel_rfl) (hi:=Zo) aA aeI
def aW (n:Nat) (a0:List Int) (a1:Int):Option (Bool×Unit):=((eH n a0 a1).bind fun r1=>some (decide (r1.1≥(0:Int)),()))
def RL:Entry:=⟨175,[.val (.sl 2 (.int .i64)) [], .val (.int .i64) []],[.val .bool [] []],fun n c=>aW n c.1 c.2.1⟩
def Zp:Hint:=⟨0,[],[],[],[(180,some 7,Un)],[],[],[],[]⟩
theorem aeJ:gK T Zp Tryz.f175 RL:=by intro n c; kernel_rfl
theorem acB [Fr] (n:Nat):ak Tryz.prog n RL:=aj mixed aI Tryz.func175 (by kernel_rfl) (hi:=Zp) (aa (afI n) aA) aeJ
def fA (n:Nat) (a0:Ql) (a1:iD):Option (Bool×Unit):=((aW n a1.2.2.2.1 a0.1).bind fun r1=>some (r1.1,()))
def acu:Entry:=⟨178,[.val Ov [], .ro kr],[.val .bool [] []],fun n c=>fA n c.1 c.2.1⟩
def aiQ:Hint:=⟨0,[],[],[],[(175,some 8,RL)],[],[],[],[]⟩
theorem amA:gK T aiQ Tryz.f178 acu:=by intro n c; kernel_rfl
theorem ajq [Fr] (n:Nat):ak Tryz.prog n acu:=aj mixed aI Tryz.func178 (by kernel_rfl) (hi:=aiQ) (aa (acB n) aA) amA
def aY (n:Nat) (a0:List Ql) (KL:iD):Option (Int×Unit):=(rounds (fun L1 (v1:(List Ql)×iD×Int×Int×Unit)=>(if decide (v1.2.2.2.1<v1.2.2.1)=true then (if aH v1.2.2.2.1 v1.1.length then ((fA n (v1.1.getD v1.2.2.2.1.toNat Qm) v1.2.1).bind fun r2=>(if r2.1=true then some (v1.2.2.2.1,()) else L1 (v1.1,v1.2.1,v1.2.2.1,IntKind.i64.wrap (v1.2.2.2.1+(1:Int)),()))) else none) else some ((-1:Int),()))) n (a0,KL,(a0.length:Int),(0:Int),()))
def afr:Entry:=⟨181,[.val (.sl 162 Ov) [], .fn 178 [kr]],[.val (.int .i64) [] []],fun n c=>aY n c.1 c.2.1⟩
def aiR:Hint:=⟨0,[],[(0,[0,1,7,8],[])],[],[(178,some 16,acu)],[],[],[],[]⟩
theorem amB:gK T aiR Tryz.f181 afr:=by intro n c; kernel_rfl
theorem anz [Fr] (n:Nat):ak Tryz.prog n afr:=aj mixed aI Tryz.func181 (by kernel_rfl) (hi:=aiR) (aa (ajq n) aA) amB
def aF (n:Nat) (a0:List Ql) (KL:iD):Option (Int×(List Ql)×Unit):=((aY n a0 KL).bind fun r1=>(if decide (r1.1=(-1:Int))=true then some (((a0.length:Nat):Int),a0,()) else (rounds (fun L2 (v2:iD×Int×Int×(List Ql)×Unit)=>(if decide (v2.2.2.1<(v2.2.2.2.1.length:Int))=true then (if aH v2.2.2.1 v2.2.2.2.1.length then ((fA n (v2.2.2.2.1.getD v2.2.2.1.toNat Qm) v2.1).bind fun r3=>(if (!r3.1)=true then (if aH v2.2.1 v2.2.2.2.1.length then L2 (v2.1,IntKind.i64.wrap (v2.2.1+(1:Int)),IntKind.i64.wrap (v2.2.2.1+(1:Int)),v2.2.2.2.1.set v2.2.1.toNat (v2.2.2.2.1.getD v2.2.2.1.toNat Qm),()) else none) else L2 (v2.1,v2.2.1,IntKind.i64.wrap (v2.2.2.1+(1:Int)),v2.2.2.2.1,()))) else none) else (if 0≤v2.2.1∧v2.2.1≤(v2.2.2.2.1.length:Int)∧(v2.2.2.2.1.length:Int)≤(v2.2.2.2.1.length:Int) then (if 0≤(0:Int)∧(0:Int)≤v2.2.1∧v2.2.1≤((v2.2.2.2.1.take v2.2.1.toNat++List.replicate ((v2.2.2.2.1.length:Int).toNat - v2.2.1.toNat) Qm++v2.2.2.2.1.drop ((v2.2.2.2.1.length:Int).toNat)).length:Int) then some (((v2.2.1.toNat:Nat):Int),v2.2.2.2.1.take v2.2.1.toNat++List.replicate ((v2.2.2.2.1.length:Int).toNat - v2.2.1.toNat) Qm++v2.2.2.2.1.drop ((v2.2.2.2.1.length:Int).toNat),()) else none) else none))) n (KL,r1.1,IntKind.i64.wrap (r1.1+(1:Int)),a0,()))))
def Zk:Entry:=⟨177,[.jL (.sl 162 Ov) [5,162] [162], .fn 178 [kr]],[.into 0 []],fun n c=>aF n c.1 c.2.1⟩
def aiS:Hint:=⟨0,[],[(0,[0,1,5,6],[0])],[],[(181,some 10,afr),(178,some 28,acu)],[],[],[38,41],[]⟩
theorem amC:gK T aiS Tryz.f177 Zk:=by intro n c; kernel_rfl
theorem afK [Fr] (n:Nat):ak Tryz.prog n Zk:=aj mixed aI Tryz.func177 (by kernel_rfl) (hi:=aiS) (aa (anz n) (aa (ajq n) aA)) amC
end za
def aex:List dn:=[.jL (.sl 162 BO) [5,162] [162], .fn 178 [kr]]
def akS:List jY:=[.into 0 []]
def aF (n:Nat) (a0:List tN) (KL:iD):Option (Int×List tN×Unit):=nM.Jd n a0 KL
def Zk:Entry:=⟨177,aex,akS,fun n (c:Cont (kin aex))=>aF n c.1 c.2.1⟩
theorem amL {n:Nat} {xs:List nM.acC} {op:nM.OpC} (hx:xs.length≤140737488355328) (hn:xs.length<n) (hb:op.2.2.2.1.length≤140737488355328) (hu:op.2.2.2.1.length<n):za.aF n xs op=some (nM.Kb (0,0,0,0,()) (fun x=>op.2.2.2.1.contains x.1) xs):=by
 have hc:∀x,za.fA n x op=some (op.2.2.2.1.contains x.1,()):=fun x=>by
  have h:za.aW n op.2.2.2.1 x.1=some (op.2.2.2.1.contains x.1,()):=nM.QE (fun _ _=>rfl) hb hu
  show (za.aW n op.2.2.2.1 x.1).bind _=_
  rw [h]; rfl
 have hi:za.aY n xs op=some (_,()):=nM.Nj (p:=fun x=>op.2.2.2.1.contains x.1) (q:=fun c x=>za.fA n x c) (d:=(0,0,0,0,())) (fun _ _=>rfl) hc hx hn
 show (za.aY n xs op).bind _=_
 rw [hi]
 exact nM.XI (p:=fun x=>op.2.2.2.1.contains x.1) (q:=fun c x=>za.fA n x c) (d:=(0,0,0,0,())) (fun _ _=>rfl) hc hx hn
theorem afK [Fr] (n:Nat):ak Tryz.prog n Zk:=nM.Oz (e:=5) (t:=162) (i:=2) (b:=5) (cl:=178) (ow:=[5,162]) (wt:=[162]) (vI:=[162]) (FI:=za.aF) (by simp [K.tys,aL]) (by simp [K.tys,aL]) (by simp [K.tys,aL]) (fun fr=>za.afK n) (by simp [oF,aL]) (fun xs op h1 h2 h3 h4=>amL h1 h2 h3 h4)
def lQ (n:Nat) (a0:fJ) (a1:Int) (a2:iD):Option ((List Int)×Int×fJ×Unit):=((jy n a0 a2.2.2.1).bind fun r1=>(if decide (r1.1<(0:Int))=true then some (([]:List Int),(4:Int),a0,()) else (if decide (a2.1=(6:Int))=true then (if decide (r1.1=a1)=true then some (([]:List Int),(9:Int),a0,()) else (if aH a1 a0.2.1.length then (rounds (fun L2 (v2:Int×Int×(List tN)×Int×Int×fJ×iD×(List tN)×Unit)=>(if decide (v2.2.2.2.2.1<v2.2.2.2.1)=true then (if aH v2.2.2.2.2.1 v2.2.2.1.length then ((aW n v2.2.2.2.2.2.2.1.2.2.2.1 ((v2.2.2.1.getD v2.2.2.2.2.1.toNat lH).1)).bind fun r3=>(if r3.1=true then (if (v2.2.2.2.2.2.2.2.1.length+[v2.2.2.1.getD v2.2.2.2.2.1.toNat lH].length) * 48≤140737488355328 then L2 (v2.1,v2.2.1,v2.2.2.1,v2.2.2.2.1,IntKind.i64.wrap (v2.2.2.2.2.1+(1:Int)),v2.2.2.2.2.2.1,v2.2.2.2.2.2.2.1,v2.2.2.2.2.2.2.2.1++[v2.2.2.1.getD v2.2.2.2.2.1.toNat lH],()) else none) else L2 (v2.1,v2.2.1,v2.2.2.1,v2.2.2.2.1,IntKind.i64.wrap (v2.2.2.2.2.1+(1:Int)),v2.2.2.2.2.2.1,v2.2.2.2.2.2.2.1,v2.2.2.2.2.2.2.2.1,()))) else none) else (if aH v2.2.1 v2.2.2.2.2.2.1.2.1.length then (if decide ((IntKind.i64.wrap (((((((v2.2.2.2.2.2.1.2.1.getD v2.2.1.toNat dH).2).2).2).1).length:Int)+(v2.2.2.2.2.2.2.2.1.length:Int)))>(6:Int))=true then some (([]:List Int),(10:Int),v2.2.2.2.2.2.1,()) else ((eG n v2.2.2.2.2.2.2.2.1).bind fun r4=>(if decide ((IntKind.i64.wrap (((((v2.2.2.2.2.2.1.2.1.getD v2.2.1.toNat dH).2).2).1)+r4.1))>(1000:Int))=true then some (([]:List Int),(10:Int),v2.2.2.2.2.2.1,()) else (rounds (fun L5 (v5:Int×Int×Int×Int×fJ×iD×(List tN)×(List Int)×Unit)=>(if decide (v5.2.2.2.1<v5.2.2.1)=true then (if aH v5.2.2.2.1 v5.2.2.2.2.2.2.1.length then ((kK n (v5.2.2.2.2.1.2.1.getD v5.2.1.toNat dH) (v5.2.2.2.2.2.2.1.getD v5.2.2.2.1.toNat lH)).bind fun r6=>(if (v5.2.2.2.2.2.2.2.1.length+[r6.1].length) * 8≤140737488355328 then L5 (v5.1,v5.2.1,v5.2.2.1,IntKind.i64.wrap (v5.2.2.2.1+(1:Int)),(v5.2.2.2.2.1.1,v5.2.2.2.2.1.2.1.set v5.2.1.toNat r6.2.1,v5.2.2.2.2.1.2.2),v5.2.2.2.2.2.1,v5.2.2.2.2.2.2.1,v5.2.2.2.2.2.2.2.1++[r6.1],()) else none)) else none) else (if decide (v5.2.2.2.2.2.1.1=(6:Int))=true then (if aH v5.1 v5.2.2.2.2.1.2.1.length then ((aF n (((((v5.2.2.2.2.1.2.1.getD v5.1.toNat dH).2).2).2).1) v5.2.2.2.2.2.1).bind fun r7=>(if ([v5.1]:List Int)=([v5.1]:List Int) then some (v5.2.2.2.2.2.2.2.1,(0:Int),(v5.2.2.2.2.1.1,(fF (fF v5.2.2.2.2.1.2.1 v5.1.toNat dH fun z1=>(z1.1,z1.2.1,z1.2.2.1,r7.2.1,z1.2.2.2.2)) v5.1.toNat dH fun z1=>(z1.1,z1.2.1,z1.2.2.1,((((((fF v5.2.2.2.2.1.2.1 v5.1.toNat dH fun z1=>(z1.1,z1.2.1,z1.2.2.1,r7.2.1,z1.2.2.2.2)).getD v5.1.toNat dH).2).2).2).1).take r7.1.toNat,z1.2.2.2.2)),v5.2.2.2.2.1.2.2),()) else none)) else none) else some (v5.2.2.2.2.2.2.2.1,(0:Int),v5.2.2.2.2.1,())))) n (v2.1,v2.2.1,(v2.2.2.2.2.2.2.2.1.length:Int),(0:Int),v2.2.2.2.2.2.1,v2.2.2.2.2.2.2.1,v2.2.2.2.2.2.2.2.1,([]:List Int),()))))) else none))) n (a1,r1.1,((((a0.2.1.getD a1.toNat dH).2).2).2).1,((((((a0.2.1.getD a1.toNat dH).2).2).2).1).length:Int),(0:Int),a0,a2,([]:List tN),())) else none)) else (if aH a1 a0.2.1.length then (rounds (fun L8 (v8:Int×Int×(List tN)×Int×Int×fJ×iD×(List tN)×Unit)=>(if decide (v8.2.2.2.2.1<v8.2.2.2.1)=true then (if aH v8.2.2.2.2.1 v8.2.2.1.length then ((aW n v8.2.2.2.2.2.2.1.2.2.2.1 ((v8.2.2.1.getD v8.2.2.2.2.1.toNat lH).1)).bind fun r9=>(if r9.1=true then (if (v8.2.2.2.2.2.2.2.1.length+[v8.2.2.1.getD v8.2.2.2.2.1.toNat lH].length) * 48≤140737488355328 then L8 (v8.1,v8.2.1,v8.2.2.1,v8.2.2.2.1,IntKind.i64.wrap (v8.2.2.2.2.1+(1:Int)),v8.2.2.2.2.2.1,v8.2.2.2.2.2.2.1,v8.2.2.2.2.2.2.2.1++[v8.2.2.1.getD v8.2.2.2.2.1.toNat lH],()) else none) else L8 (v8.1,v8.2.1,v8.2.2.1,v8.2.2.2.1,IntKind.i64.wrap (v8.2.2.2.2.1+(1:Int)),v8.2.2.2.2.2.1,v8.2.2.2.2.2.2.1,v8.2.2.2.2.2.2.2.1,()))) else none) else (if aH v8.2.1 v8.2.2.2.2.2.1.2.1.length then (if decide ((IntKind.i64.wrap (((((((v8.2.2.2.2.2.1.2.1.getD v8.2.1.toNat dH).2).2).2).1).length:Int)+(v8.2.2.2.2.2.2.2.1.length:Int)))>(6:Int))=true then some (([]:List Int),(10:Int),v8.2.2.2.2.2.1,()) else ((eG n v8.2.2.2.2.2.2.2.1).bind fun Rb=>(if decide ((IntKind.i64.wrap (((((v8.2.2.2.2.2.1.2.1.getD v8.2.1.toNat dH).2).2).1)+Rb.1))>(1000:Int))=true then some (([]:List Int),(10:Int),v8.2.2.2.2.2.1,()) else (rounds (fun L11 (v11:Int×Int×Int×Int×fJ×iD×(List tN)×(List Int)×Unit)=>(if decide (v11.2.2.2.1<v11.2.2.1)=true then (if aH v11.2.2.2.1 v11.2.2.2.2.2.2.1.length then ((kK n (v11.2.2.2.2.1.2.1.getD v11.2.1.toNat dH) (v11.2.2.2.2.2.2.1.getD v11.2.2.2.1.toNat lH)).bind fun NJ=>(if (v11.2.2.2.2.2.2.2.1.length+[NJ.1].length) * 8≤140737488355328 then L11 (v11.1,v11.2.1,v11.2.2.1,IntKind.i64.wrap (v11.2.2.2.1+(1:Int)),(v11.2.2.2.2.1.1,v11.2.2.2.2.1.2.1.set v11.2.1.toNat NJ.2.1,v11.2.2.2.2.1.2.2),v11.2.2.2.2.2.1,v11.2.2.2.2.2.2.1,v11.2.2.2.2.2.2.2.1++[NJ.1],()) else none)) else none) else (if decide (v11.2.2.2.2.2.1.1=(6:Int))=true then (if aH v11.1 v11.2.2.2.2.1.2.1.length then ((aF n (((((v11.2.2.2.2.1.2.1.getD v11.1.toNat dH).2).2).2).1) v11.2.2.2.2.2.1).bind fun RA=>(if ([v11.1]:List Int)=([v11.1]:List Int) then some (v11.2.2.2.2.2.2.2.1,(0:Int),(v11.2.2.2.2.1.1,(fF (fF v11.2.2.2.2.1.2.1 v11.1.toNat dH fun z1=>(z1.1,z1.2.1,z1.2.2.1,RA.2.1,z1.2.2.2.2)) v11.1.toNat dH fun z1=>(z1.1,z1.2.1,z1.2.2.1,((((((fF v11.2.2.2.2.1.2.1 v11.1.toNat dH fun z1=>(z1.1,z1.2.1,z1.2.2.1,RA.2.1,z1.2.2.2.2)).getD v11.1.toNat dH).2).2).2).1).take RA.1.toNat,z1.2.2.2.2)),v11.2.2.2.2.1.2.2),()) else none)) else none) else some (v11.2.2.2.2.2.2.2.1,(0:Int),v11.2.2.2.2.1,())))) n (v8.1,v8.2.1,(v8.2.2.2.2.2.2.2.1.length:Int),(0:Int),v8.2.2.2.2.2.1,v8.2.2.2.2.2.2.1,v8.2.2.2.2.2.2.2.1,([]:List Int),()))))) else none))) n (a1,r1.1,((((a0.2.1.getD a1.toNat dH).2).2).2).1,((((((a0.2.1.getD a1.toNat dH).2).2).2).1).length:Int),(0:Int),a0,a2,([]:List tN),())) else none))))
def afs:Entry:=⟨166,[.rw rV [5,147,162] [5,147,162,4294967295] [5,162], .val (.int .i64) [], .val kr []],[.own (.sl 2 (.int .i64)) [2] [] [], .val (.int .i64) [] []],fun n c=>lQ n c.1 c.2.1 c.2.2.1⟩
def aiT:Hint:=⟨0,[62,104,111],[(1,[0,1,5,8,9,43,44,45],[0,162,1122]),(3,[0,1,5,12,13,85,86,87],[0,162,1122,2690])],[(35,[5])],[(161,some 22,Zh),(175,some 53,RL),(176,some 80,afp),(163,some 94,afq),(177,some 113,Zk)],[],[(2245,[0])],[],[]⟩
theorem amD:gK T aiT Tryz.f166 afs:=by intro n c; kernel_rfl
theorem anA [Fr] (n:Nat):ak Tryz.prog n afs:=aj mixed aI Tryz.func166 (by kernel_rfl) (hi:=aiT) (aa (afG n) (aa (acB n) (aa (anw n) (aa (anx n) (aa (afK n) aA))))) amD
def nP (n:Nat) (a0:fJ) (a1:iD):Option ((List Int)×Int×fJ×Unit):=(if decide (a1.1=(1:Int))=true then ((o9 n a0 a1.2.1).bind fun r1=>some (([]:List Int),r1.1,r1.2.1,())) else ((jy n a0 a1.2.1).bind fun r2=>(if decide (r2.1<(0:Int))=true then some (([]:List Int),(4:Int),a0,()) else (if aH r2.1 a0.2.1.length then (if decide (a1.1=(2:Int))=true then ((bR n a0.2.1 r2.1 (IntKind.i64.wrap (r2.1+(1:Int)))).bind fun r3=>(if ([]:List Int)=([]:List Int) then some (([]:List Int),(0:Int),(a0.1,r3.2.1.take r3.1.toNat,a0.2.2),()) else none)) else (if decide (a1.1=(3:Int))=true then (if decide (((((((a0.2.1.getD r2.1.toNat dH).2).2).2).1).length:Int)=(6:Int))=true then some (([]:List Int),(10:Int),a0,()) else (if decide (((((a0.2.1.getD r2.1.toNat dH).2).2).1)=(1000:Int))=true then some (([]:List Int),(10:Int),a0,()) else ((uE n (a0.2.1.getD r2.1.toNat dH) ((0:Int),a1.2.2.2.2.2.1,a1.2.2.2.2.2.2.1,a1.2.2.2.2.2.2.2.1,())).bind fun r4=>some ([r4.1],(0:Int),(a0.1,a0.2.1.set r2.1.toNat r4.2.1,a0.2.2),())))) else (if decide (a1.1=(4:Int))=true then ((nO n (a0.2.1.getD r2.1.toNat dH) a1).bind fun r5=>some (r5.1,(0:Int),(a0.1,a0.2.1.set r2.1.toNat r5.2.1,a0.2.2),())) else (if decide (a1.1=(7:Int))=true then ((gq n (a0.2.1.getD r2.1.toNat dH)).bind fun r6=>some (r6.1,(0:Int),(a0.1,a0.2.1.set r2.1.toNat r6.2.1,a0.2.2),())) else ((lQ n a0 r2.1 a1).bind fun r7=>some (r7.1,r7.2.1,r7.2.2.1,())))))) else none))))
def aft:Entry:=⟨129,[.rw rV [5,147,162] [5,147,162,4294967295] [5,147,162,4294967294], .val kr []],[.own (.sl 2 (.int .i64)) [2] [] [], .val (.int .i64) [] []],fun n c=>nP n c.1 c.2.1⟩
def aiU:Hint:=⟨0,[26,37],[],[],[(160,some 14,afm),(161,some 20,Zh),(162,some 41,Zi),(163,some 67,afn),(164,some 73,afo),(165,some 77,Zj),(166,some 81,afs)],[],[],[],[]⟩
theorem amE:gK T aiU Tryz.f129 aft:=by intro n c; kernel_rfl
theorem anB [Fr] (n:Nat):ak Tryz.prog n aft:=aj mixed aI Tryz.func129 (by kernel_rfl) (hi:=aiU) (aa (anr n) (aa (afG n) (aa (afH n) (aa (ant n) (aa (anu n) (aa (afJ n) (aa (anA n) aA))))))) amE
def uF (n:Nat) (a0:fJ) (a1:iD):Option (Jv×Unit):=((qy n a1).bind fun r1=>(if (!decide (r1.1=(0:Int)))=true then some ((r1.1,([]:List Int),R3,()),()) else ((jA n a0).bind fun r2=>((nP n r2.1 a1).bind fun r3=>(if (!decide (r3.2.1=(0:Int)))=true then some ((r3.2.1,([]:List Int),R3,()),()) else some (((0:Int),r3.1,r3.2.2.1,()),()))))))
def YW:Entry:=⟨99,[.val rV [], .val kr []],[.own Qj [2,5,147,162] [] []],fun n c=>uF n c.1 c.2.1⟩
def adH:Hint:=⟨0,[27],[],[],[(126,some 10,acr),(98,some 16,Zg),(129,some 19,aft)],[],[],[],[]⟩
theorem ahc:gK T adH Tryz.f99 YW:=by intro n c; kernel_rfl
theorem aiX [Fr] (n:Nat):ak Tryz.prog n YW:=aj mixed aI Tryz.func99 (by kernel_rfl) (hi:=adH) (aa (ajo n) (aa (afF n) (aa (anB n) aA))) ahc
def kC (n:Nat) (a0:fJ) (a1:List iD):Option (Jv×Unit):=(if decide ((a1.length:Int)>(60:Int))=true then some (((2:Int),([]:List Int),R3,()),()) else ((iG n a0).bind fun r1=>(if (!decide (r1.1=(0:Int)))=true then some ((r1.1,([]:List Int),R3,()),()) else ((jA n a0).bind fun r2=>(rounds (fun L3 (v3:(List iD)×Int×Int×Jv×fJ×Unit)=>(if decide (v3.2.2.1<v3.2.1)=true then (if aH v3.2.2.1 v3.1.length then ((uF n v3.2.2.2.2.1 (v3.1.getD v3.2.2.1.toNat H7)).bind fun r4=>(if (!decide (r4.1.1=(0:Int)))=true then some ((r4.1.1,([]:List Int),R3,()),()) else L3 (v3.1,v3.2.1,IntKind.i64.wrap (v3.2.2.1+(1:Int)),v3.2.2.2.1,r4.1.2.2.1,()))) else none) else some (((0:Int),([]:List Int),v3.2.2.2.2.1,()),()))) n (a1,(a1.length:Int),(0:Int),afP,r2.1,()))))))
def VY:Entry:=⟨59,[.val rV [], .val (.sl 121 kr) []],[.own Qj [2,5,147,162] [] []],fun n c=>kC n c.1 c.2.1⟩
def adI:Hint:=⟨0,[38,40],[(0,[4,6,22,23,24],[130,194])],[],[(92,some 15,aco),(98,some 21,Zg),(99,some 30,YW)],[],[],[],[]⟩
theorem ahd:gK T adI Tryz.f59 VY:=by intro n c; kernel_rfl
theorem adY [Fr] (n:Nat):ak Tryz.prog n VY:=aj mixed aI Tryz.func59 (by kernel_rfl) (hi:=adI) (aa (ajm n) (aa (afF n) (aa (aiX n) aA))) ahd
def iq (n:Nat) (a0:List Int) (a1:List Int):Option (Bool×Unit):=(if (!decide ((a0.length:Int)=(a1.length:Int)))=true then some (false,()) else (rounds (fun L1 (v1:(List Int)×(List Int)×Int×Int×Unit)=>(if decide (v1.2.2.2.1<v1.2.2.1)=true then (if aH v1.2.2.2.1 v1.1.length then (if aH v1.2.2.2.1 v1.2.1.length then (if (!decide ((v1.1.getD v1.2.2.2.1.toNat (0:Int))=(v1.2.1.getD v1.2.2.2.1.toNat (0:Int))))=true then some (false,()) else L1 (v1.1,v1.2.1,v1.2.2.1,IntKind.i64.wrap (v1.2.2.2.1+(1:Int)),())) else none) else none) else some (true,()))) n (a0,a1,(a0.length:Int),(0:Int),())))
def YX:Entry:=⟨153,[.val (.sl 5 (.int .u8)) [], .val (.sl 5 (.int .u8)) []],[.val .bool [] []],fun n c=>iq n c.1 c.2.1⟩
def adJ:Hint:=⟨0,[],[(0,[0,1,12,13],[])],[],[],[],[],[],[]⟩
theorem ahe:gK T adJ Tryz.f153 YX:=by intro n c; kernel_rfl
theorem aiY [Fr] (n:Nat):ak Tryz.prog n YX:=aj mixed aI Tryz.func153 (by kernel_rfl) (hi:=adJ) aA ahe
def lT (n:Nat) (a0:tN) (a1:tN):Option (Bool×Unit):=(if decide (a0.1=a1.1)=true then (if decide (a0.2.1=a1.2.1)=true then (if decide (a0.2.2.1=a1.2.2.1)=true then ((iq n a0.2.2.2.1 a1.2.2.2.1).bind fun r1=>some (r1.1,())) else some (false,())) else some (false,())) else some (false,()))
def YY:Entry:=⟨122,[.val BO [], .val BO []],[.val .bool [] []],fun n c=>lT n c.1 c.2.1⟩
def adK:Hint:=⟨0,[],[],[],[(153,some 29,YX)],[],[],[],[]⟩
theorem ahf:gK T adK Tryz.f122 YY:=by intro n c; kernel_rfl
theorem aiZ [Fr] (n:Nat):ak Tryz.prog n YY:=aj mixed aI Tryz.func122 (by kernel_rfl) (hi:=adK) (aa (aiY n) aA) ahf
def aM (n:Nat) (a0:List tN) (a1:List tN):Option (Bool×Unit):=(if (!decide ((a0.length:Int)=(a1.length:Int)))=true then some (false,()) else (rounds (fun L1 (v1:(List tN)×(List tN)×Int×Int×Unit)=>(if decide (v1.2.2.2.1<v1.2.2.1)=true then (if aH v1.2.2.2.1 v1.2.1.length then (if aH v1.2.2.2.1 v1.1.length then ((lT n (v1.2.1.getD v1.2.2.2.1.toNat lH) (v1.1.getD v1.2.2.2.1.toNat lH)).bind fun r2=>(if (!r2.1)=true then some (false,()) else L1 (v1.1,v1.2.1,v1.2.2.1,IntKind.i64.wrap (v1.2.2.2.1+(1:Int)),()))) else none) else none) else some (true,()))) n (a1,a0,(a0.length:Int),(0:Int),())))
def YZ:Entry:=⟨121,[.val (.sl 162 BO) [], .val (.sl 162 BO) [], .fn 122 []],[.val .bool [] []],fun n c=>aM n c.1 c.2.1⟩
def adL:Hint:=⟨0,[],[(0,[1,2,15,16,17],[])],[],[(122,some 29,YY)],[],[],[],[]⟩
theorem ahg:gK T adL Tryz.f121 YZ:=by intro n c; kernel_rfl
theorem ai0 [Fr] (n:Nat):ak Tryz.prog n YZ:=aj mixed aI Tryz.func121 (by kernel_rfl) (hi:=adL) (aa (aiZ n) aA) ahg
def lK (n:Nat) (a0:dR) (a1:dR):Option (Bool×Unit):=(if decide (a0.1=a1.1)=true then (if decide (a0.2.1=a1.2.1)=true then (if decide (a0.2.2.1=a1.2.2.1)=true then ((aM n a0.2.2.2.1 a1.2.2.2.1).bind fun r1=>some (r1.1,())) else some (false,())) else some (false,())) else some (false,()))
def Y0:Entry:=⟨120,[.val oL [], .val oL []],[.val .bool [] []],fun n c=>lK n c.1 c.2.1⟩
def adM:Hint:=⟨0,[],[],[],[(121,some 29,YZ)],[],[],[],[]⟩
theorem ahh:gK T adM Tryz.f120 Y0:=by intro n c; kernel_rfl
theorem ai1 [Fr] (n:Nat):ak Tryz.prog n Y0:=aj mixed aI Tryz.func120 (by kernel_rfl) (hi:=adM) (aa (ai0 n) aA) ahh
def bu (n:Nat) (a0:List dR) (a1:List dR):Option (Bool×Unit):=(if (!decide ((a0.length:Int)=(a1.length:Int)))=true then some (false,()) else (rounds (fun L1 (v1:(List dR)×(List dR)×Int×Int×Unit)=>(if decide (v1.2.2.2.1<v1.2.2.1)=true then (if aH v1.2.2.2.1 v1.2.1.length then (if aH v1.2.2.2.1 v1.1.length then ((lK n (v1.2.1.getD v1.2.2.2.1.toNat dH) (v1.1.getD v1.2.2.2.1.toNat dH)).bind fun r2=>(if (!r2.1)=true then some (false,()) else L1 (v1.1,v1.2.1,v1.2.2.1,IntKind.i64.wrap (v1.2.2.2.1+(1:Int)),()))) else none) else none) else some (true,()))) n (a1,a0,(a0.length:Int),(0:Int),())))
def Y1:Entry:=⟨119,[.val (.sl 147 oL) [], .val (.sl 147 oL) [], .fn 120 []],[.val .bool [] []],fun n c=>bu n c.1 c.2.1⟩
def adN:Hint:=⟨0,[],[(0,[1,2,15,16,17],[])],[],[(120,some 29,Y0)],[],[],[],[]⟩
theorem ahi:gK T adN Tryz.f119 Y1:=by intro n c; kernel_rfl
theorem ai2 [Fr] (n:Nat):ak Tryz.prog n Y1:=aj mixed aI Tryz.func119 (by kernel_rfl) (hi:=adN) (aa (ai1 n) aA) ahi
def kN (n:Nat) (a0:fJ) (a1:fJ):Option (Bool×Unit):=(if decide (a0.1=a1.1)=true then ((bu n a0.2.1 a1.2.1).bind fun r1=>some (r1.1,())) else some (false,()))
def Y2:Entry:=⟨94,[.val rV [], .val rV []],[.val .bool [] []],fun n c=>kN n c.1 c.2.1⟩
def adO:Hint:=⟨0,[],[],[],[(119,some 15,Y1)],[],[],[],[]⟩
theorem ahj:gK T adO Tryz.f94 Y2:=by intro n c; kernel_rfl
theorem ai3 [Fr] (n:Nat):ak Tryz.prog n Y2:=aj mixed aI Tryz.func94 (by kernel_rfl) (hi:=adO) (aa (ai2 n) aA) ahj
def iH (n:Nat) (a0:Be):Option (Int×Unit):=(if decide ((IntKind.i64.wrap ((a0.2.1.length:Int)+(a0.2.2.1.length:Int)))>(8000:Int))=true then some ((2:Int),()) else (if (!a0.1)=true then (if decide ((a0.2.2.1.length:Int)>(0:Int))=true then some ((1:Int),()) else (if (!decide (a0.2.2.2.1.1=(0:Int)))=true then some ((1:Int),()) else (if decide ((a0.2.2.2.1.2.1.length:Int)>(0:Int))=true then some ((1:Int),()) else (if (!a0.1)=true then some ((0:Int),()) else ((iG n a0.2.2.2.1).bind fun r1=>(if (!decide (r1.1=(0:Int)))=true then some (r1.1,()) else ((mG n a0).bind fun r2=>(if (!r2.2.1)=true then some ((5:Int),()) else ((qU n).bind fun r3=>((kC n r3.1 r2.1).bind fun r4=>(if (!decide (r4.1.1=(0:Int)))=true then some ((9:Int),()) else ((kN n r4.1.2.2.1 a0.2.2.2.1).bind fun r5=>(if (!r5.1)=true then some ((9:Int),()) else some ((0:Int),())))))))))))))) else (if (!a0.1)=true then some ((0:Int),()) else ((iG n a0.2.2.2.1).bind fun r6=>(if (!decide (r6.1=(0:Int)))=true then some (r6.1,()) else ((mG n a0).bind fun r7=>(if (!r7.2.1)=true then some ((5:Int),()) else ((qU n).bind fun r8=>((kC n r8.1 r7.1).bind fun r9=>(if (!decide (r9.1.1=(0:Int)))=true then some ((9:Int),()) else ((kN n r9.1.2.2.1 a0.2.2.2.1).bind fun Rb=>(if (!Rb.1)=true then some ((9:Int),()) else some ((0:Int),())))))))))))))
def VZ:Entry:=⟨52,[.val CR []],[.val (.int .i64) [] []],fun n c=>iH n c.1⟩
def adP:Hint:=⟨0,[],[],[],[(92,some 45,aco),(93,some 51,afj),(60,some 56,acs),(59,some 58,VY),(94,some 67,Y2)],[],[],[],[]⟩
theorem ahk:gK T adP Tryz.f52 VZ:=by intro n c; kernel_rfl
theorem adZ [Fr] (n:Nat):ak Tryz.prog n VZ:=aj mixed aI Tryz.func52 (by kernel_rfl) (hi:=adP) (aa (ajm n) (aa (ano n) (aa (ajp n) (aa (adY n) (aa (ai3 n) aA))))) ahk
def gy (n:Nat) (a0:List H6):Option (Int×Unit):=some ((a0.length:Int),())
def Y3:Entry:=⟨54,[.val (.sl 74 Al) []],[.val (.int .i64) [] []],fun n c=>gy n c.1⟩
def adQ:Hint:=⟨0,[],[],[],[],[],[],[],[]⟩
theorem ahl:gK T adQ Tryz.f54 Y3:=by intro n c; kernel_rfl
theorem ai4 [Fr] (n:Nat):ak Tryz.prog n Y3:=aj mixed aI Tryz.func54 (by kernel_rfl) (hi:=adQ) aA ahl
def rU (n:Nat) (a0:Int):Option (Bool×Unit):=((dL n a0 (1:Int) (3:Int)).bind fun r1=>some (r1.1,()))
def Y4:Entry:=⟨55,[.val (.int .i64) []],[.val .bool [] []],fun n c=>rU n c.1⟩
def adR:Hint:=⟨0,[],[],[],[(53,some 4,Jc)],[],[],[],[]⟩
theorem ahm:gK T adR Tryz.f55 Y4:=by intro n c; kernel_rfl
theorem ai6 [Fr] (n:Nat):ak Tryz.prog n Y4:=aj mixed aI Tryz.func55 (by kernel_rfl) (hi:=adR) (aa (LG n) aA) ahm
def gu (n:Nat) (a0:xY):Option (Int×Unit):=((iH n a0.1).bind fun r1=>(if (!decide (r1.1=(0:Int)))=true then some (r1.1,()) else ((gy n a0.2.1).bind fun r2=>((dL n r2.1 (1:Int) (3:Int)).bind fun r3=>(if (!r3.1)=true then some ((2:Int),()) else (rounds (fun L4 (v4:(List H6)×Int×Int×Unit)=>(if decide (v4.2.2.1<v4.2.1)=true then (if aH v4.2.2.1 v4.1.length then ((rU n (((((v4.1.getD v4.2.2.1.toNat xP).2).2).2).1)).bind fun r5=>(if (!r5.1)=true then some ((3:Int),()) else ((dL n (((v4.1.getD v4.2.2.1.toNat xP).2).1) (0:Int) (999:Int)).bind fun r6=>(if (!r6.1)=true then some ((3:Int),()) else (if decide ((((((v4.1.getD v4.2.2.1.toNat xP).2).2).1).length:Int)>(6:Int))=true then some ((3:Int),()) else ((mH n ((((v4.1.getD v4.2.2.1.toNat xP).2).2).1)).bind fun r7=>(if (!r7.1)=true then some ((3:Int),()) else (if decide (((v4.1.getD v4.2.2.1.toNat xP).1)=([]:List Int))=true then (if (!decide ((((v4.1.getD v4.2.2.1.toNat xP).2).1)=(0:Int)))=true then some ((1:Int),()) else (if decide ((((((v4.1.getD v4.2.2.1.toNat xP).2).2).1).length:Int)>(0:Int))=true then some ((1:Int),()) else (if (!decide (((v4.1.getD v4.2.2.1.toNat xP).1)=([]:List Int)))=true then ((jo n ((v4.1.getD v4.2.2.1.toNat xP).1)).bind fun r8=>(if (!r8.1)=true then some ((1:Int),()) else (if decide ((((v4.1.getD v4.2.2.1.toNat xP).2).1)=(0:Int))=true then some ((1:Int),()) else L4 (v4.1,v4.2.1,IntKind.i64.wrap (v4.2.2.1+(1:Int)),())))) else L4 (v4.1,v4.2.1,IntKind.i64.wrap (v4.2.2.1+(1:Int)),())))) else (if (!decide (((v4.1.getD v4.2.2.1.toNat xP).1)=([]:List Int)))=true then ((jo n ((v4.1.getD v4.2.2.1.toNat xP).1)).bind fun r9=>(if (!r9.1)=true then some ((1:Int),()) else (if decide ((((v4.1.getD v4.2.2.1.toNat xP).2).1)=(0:Int))=true then some ((1:Int),()) else L4 (v4.1,v4.2.1,IntKind.i64.wrap (v4.2.2.1+(1:Int)),())))) else L4 (v4.1,v4.2.1,IntKind.i64.wrap (v4.2.2.1+(1:Int)),())))))))))) else none) else some ((0:Int),()))) n (a0.2.1,(a0.2.1.length:Int),(0:Int),())))))))
def Y5:Entry:=⟨24,[.val FT []],[.val (.int .i64) [] []],fun n c=>gu n c.1⟩
def adS:Hint:=⟨0,[],[(0,[18,19,20],[])],[],[(52,some 8,VZ),(54,some 14,Y3),(53,some 15,Jc),(55,some 27,Y4),(53,some 32,Jc),(56,some 44,acp),(57,some 69,Xe)],[],[],[],[]⟩
theorem ahn:gK T adS Tryz.f24 Y5:=by intro n c; kernel_rfl
theorem ai7 [Fr] (n:Nat):ak Tryz.prog n Y5:=aj mixed aI Tryz.func24 (by kernel_rfl) (hi:=adS) (aa (adZ n) (aa (ai4 n) (aa (LG n) (aa (ai6 n) (aa (LG n) (aa (ajn n) (aa (acz n) aA))))))) ahn
def lJ (n:Nat) (a0:Be):Option (afO×Unit):=((iH n a0).bind fun r1=>(if (!decide (r1.1=(0:Int)))=true then some ((r1.1,([]:List Int),ZF,()),()) else (if a0.1=true then some (((9:Int),([]:List Int),ZF,()),()) else ((mJ n a0.2.1).bind fun r2=>((qU n).bind fun r3=>((kC n r3.1 r2.1).bind fun r4=>(if (!decide (r4.1.1=(0:Int)))=true then some ((r4.1.1,([]:List Int),ZF,()),()) else (if 0≤r2.2.1∧r2.2.1≤(a0.2.1.length:Int) then ((bO n (a0.2.1.take r2.2.1.toNat)).bind fun r5=>some (((0:Int),([]:List Int),(true,r5.1,([]:List Int),r4.1.2.2.1,()),()),())) else none))))))))
def Y6:Entry:=⟨25,[.val CR []],[.own ZE [2,5,147,162] [] []],fun n c=>lJ n c.1⟩
def adT:Hint:=⟨0,[37],[],[],[(52,some 8,VZ),(58,some 19,Zf),(60,some 22,acs),(59,some 24,VY),(61,some 35,RJ)],[],[],[],[]⟩
theorem aho:gK T adT Tryz.f25 Y6:=by intro n c; kernel_rfl
theorem ai8 [Fr] (n:Nat):ak Tryz.prog n Y6:=aj mixed aI Tryz.func25 (by kernel_rfl) (hi:=adT) (aa (adZ n) (aa (afE n) (aa (ajp n) (aa (adY n) (aa (Xj n) aA))))) aho
def vZ (n:Nat) (a0:Be):Option (Be×Unit):=((bO n a0.2.1).bind fun r1=>((bO n a0.2.2.1).bind fun r2=>((jA n a0.2.2.2.1).bind fun r3=>some ((a0.1,r1.1,r2.1,r3.1,()),()))))
def Y7:Entry:=⟨62,[.val CR []],[.own CR [5,147,162] [] []],fun n c=>vZ n c.1⟩
def adU:Hint:=⟨0,[],[],[],[(61,some 7,RJ),(61,some 10,RJ),(98,some 13,Zg)],[],[],[],[]⟩
theorem ahp:gK T adU Tryz.f62 Y7:=by intro n c; kernel_rfl
theorem ai9 [Fr] (n:Nat):ak Tryz.prog n Y7:=aj mixed aI Tryz.func62 (by kernel_rfl) (hi:=adU) (aa (Xj n) (aa (Xj n) (aa (afF n) aA))) ahp
def gB (n:Nat) (a0:List Int):Option ((List Int)×Unit):=(if a0.isEmpty=true then (agC [(.sl 2 (.int .i64))] (some (([]:List Int),())) (if (([]:List Int).length+a0.length) * 8≤140737488355328 then some (([]:List Int)++a0,()) else none)) else (if (([]:List Int).length+a0.length) * 8≤140737488355328 then some (([]:List Int)++a0,()) else none))
def Y8:Entry:=⟨63,[.val (.sl 2 (.int .i64)) []],[.own (.sl 2 (.int .i64)) [2] [] []],fun n c=>gB n c.1⟩
def adV:Hint:=⟨0,[],[],[],[],[],[],[],[]⟩
theorem ahq:gK T adV Tryz.f63 Y8:=by intro n c; kernel_rfl
theorem aja [Fr] (n:Nat):ak Tryz.prog n Y8:=aj mixed aI Tryz.func63 (by kernel_rfl) (hi:=adV) aA ahq
def qR (n:Nat) (a0:xY):Option (xY×Unit):=((vZ n a0.1).bind fun r1=>(rounds (fun L2 (v2:(List H6)×Int×Int×xY×xY×Unit)=>(if decide (v2.2.2.1<v2.2.1)=true then (if aH v2.2.2.1 v2.1.length then ((gB n ((((v2.1.getD v2.2.2.1.toNat xP).2).2).1)).bind fun r3=>(if (v2.2.2.2.2.1.2.1.length+[((v2.1.getD v2.2.2.1.toNat xP).1,((v2.1.getD v2.2.2.1.toNat xP).2).1,r3.1,(((v2.1.getD v2.2.2.1.toNat xP).2).2).2)].length) * 56≤140737488355328 then L2 (v2.1,v2.2.1,IntKind.i64.wrap (v2.2.2.1+(1:Int)),v2.2.2.2.1,(v2.2.2.2.2.1.1,v2.2.2.2.2.1.2.1++[((v2.1.getD v2.2.2.1.toNat xP).1,((v2.1.getD v2.2.2.1.toNat xP).2).1,r3.1,(((v2.1.getD v2.2.2.1.toNat xP).2).2).2)],v2.2.2.2.2.1.2.2),()) else none)) else none) else some (v2.2.2.2.2.1,()))) n (a0.2.1,(a0.2.1.length:Int),(0:Int),ZG,(r1.1,([]:List H6),()),())))
def Y9:Entry:=⟨26,[.val FT []],[.own FT [2,5,74,147,162] [] []],fun n c=>qR n c.1⟩
def adW:Hint:=⟨0,[22,23,28],[(0,[2,3,11,12,13],[66,98])],[],[(62,some 8,Y7),(63,some 19,Y8)],[],[],[],[]⟩
theorem ahr:gK T adW Tryz.f26 Y9:=by intro n c; kernel_rfl
theorem ajb [Fr] (n:Nat):ak Tryz.prog n Y9:=aj mixed aI Tryz.func26 (by kernel_rfl) (hi:=adW) (aa (ai9 n) (aa (aja n) aA)) ahr
def iW (n:Nat) (a0:xY):Option (RZ×Unit):=((gu n a0).bind fun r1=>(if (!decide (r1.1=(0:Int)))=true then some ((r1.1,([]:List (List Int)),ZG,()),()) else ((lJ n a0.1).bind fun r2=>(if (!decide (r2.1.1=(0:Int)))=true then some ((r2.1.1,([]:List (List Int)),ZG,()),()) else ((qR n (ZF,a0.2.1,())).bind fun r3=>some (((0:Int),([]:List (List Int)),(r2.1.2.2.1,r3.1.2),()),()))))))
def V3:Entry:=⟨8,[.val FT []],[.own Qk [2,5,9,74,147,162] [] []],fun n c=>iW n c.1⟩
def adX:Hint:=⟨0,[26,28],[],[],[(24,some 7,Y5),(25,some 14,Y6),(26,some 24,Y9)],[],[],[],[]⟩
theorem ahs:gK T adX Tryz.f8 V3:=by intro n c; kernel_rfl
theorem ad1 [Fr] (n:Nat):ak Tryz.prog n V3:=aj mixed aI Tryz.func8 (by kernel_rfl) (hi:=adX) (aa (ai7 n) (aa (ai8 n) (aa (ajb n) aA))) ahs
def qW (n:Nat) (a0:List (List Int)) (a1:List (List Int)):Option (Bool×Unit):=(if (!decide ((a0.length:Int)=(a1.length:Int)))=true then some (false,()) else (rounds (fun L1 (v1:(List (List Int))×(List (List Int))×Int×Unit)=>(if decide (v1.2.2.1<(v1.1.length:Int))=true then (if aH v1.2.2.1 v1.1.length then (if aH v1.2.2.1 v1.2.1.length then (if (!decide ((v1.1.getD v1.2.2.1.toNat ([]:List Int))=(v1.2.1.getD v1.2.2.1.toNat ([]:List Int))))=true then some (false,()) else L1 (v1.1,v1.2.1,IntKind.i64.wrap (v1.2.2.1+(1:Int)),())) else none) else none) else some (true,()))) n (a0,a1,(0:Int),())))
def pW:List dn:=[.val (.sl 9 .str) [], .val (.sl 9 .str) []]
def Av:List jY:=[.val .bool [] []]
def vP:Entry:=⟨27,pW,Av,fun n (c:Cont (kin pW))=>qW n c.1 c.2.1⟩
def Bz:Hint:=⟨0,[],[(0,[0,1,5],[])],[],[],[],[],[],[]⟩
theorem IW:∀n (c:Cont (kin pW)),fQ T Bz Tryz.f27 pW Av n c=vP.F n c:=by intro n c; kernel_rfl
theorem Jg [Fr] (n:Nat):ak Tryz.prog n vP:=aj mixed aI Tryz.func27 (by kernel_rfl) (hi:=Bz) aA IW
def mK (n:Nat) (a0:List Int) (a1:List Int):Option (Bool×Unit):=(if (!decide ((a0.length:Int)=(a1.length:Int)))=true then some (false,()) else (rounds (fun L1 (v1:(List Int)×Zt0)=>(if decide (v1.2.2.1<(v1.1.length:Int))=true then (if aH v1.2.2.1 v1.1.length then (if aH v1.2.2.1 v1.2.1.length then (if (!decide ((v1.1.getD v1.2.2.1.toNat (0:Int))=(v1.2.1.getD v1.2.2.1.toNat (0:Int))))=true then some (false,()) else L1 (v1.1,v1.2.1,IntKind.i64.wrap (v1.2.2.1+(1:Int)),())) else none) else none) else some (true,()))) n (a0,a1,(0:Int),())))
def sN:List dn:=[.val (.sl 5 (.int .u8)) [], .val (.sl 5 (.int .u8)) []]
def DK:List jY:=[.val .bool [] []]
def qo:Entry:=⟨64,sN,DK,fun n (c:Cont (kin sN))=>mK n c.1 c.2.1⟩
def Ec:Hint:=⟨0,[],[(0,[0,1,5],[])],[],[],[],[],[],[]⟩
theorem Ll:∀n (c:Cont (kin sN)),fQ T Ec Tryz.f64 sN DK n c=qo.F n c:=by intro n c; kernel_rfl
theorem ze [Fr] (n:Nat):ak Tryz.prog n qo:=aj mixed aI Tryz.func64 (by kernel_rfl) (hi:=Ec) aA Ll
def mO (n:Nat) (a0:tN) (a1:tN):Option (Bool×Unit):=(if (!decide (a0.1=a1.1))=true then some (false,()) else (if (!decide (a0.2.1=a1.2.1))=true then some (false,()) else (if (!decide (a0.2.2.1=a1.2.2.1))=true then some (false,()) else ((mK n a0.2.2.2.1 a1.2.2.2.1).bind fun r1=>(if (!r1.1)=true then some (false,()) else some (true,()))))))
def pU:List dn:=[.val BO [], .val BO []]
def Ar:List jY:=[.val .bool [] []]
def vN:Entry:=⟨179,pU,Ar,fun n (c:Cont (kin pU))=>mO n c.1 c.2.1⟩
def Bv:Hint:=⟨0,[],[],[],[(64,some 24,qo)],[],[],[],[]⟩
theorem IU:∀n (c:Cont (kin pU)),fQ T Bv Tryz.f179 pU Ar n c=vN.F n c:=by intro n c; kernel_rfl
theorem Je [Fr] (n:Nat):ak Tryz.prog n vN:=aj mixed aI Tryz.func179 (by kernel_rfl) (hi:=Bv) (aa (ze n) aA) IU
def pg (n:Nat) (a0:List tN) (a1:List tN):Option (Bool×Unit):=(if (!decide ((a0.length:Int)=(a1.length:Int)))=true then some (false,()) else (rounds (fun L1 (v1:(List tN)×(List tN)×Int×Unit)=>(if decide (v1.2.2.1<(v1.1.length:Int))=true then (if aH v1.2.2.1 v1.1.length then (if aH v1.2.2.1 v1.2.1.length then ((mO n (v1.1.getD v1.2.2.1.toNat lH) (v1.2.1.getD v1.2.2.1.toNat lH)).bind fun r2=>(if (!r2.1)=true then some (false,()) else L1 (v1.1,v1.2.1,IntKind.i64.wrap (v1.2.2.1+(1:Int)),()))) else none) else none) else some (true,()))) n (a0,a1,(0:Int),())))
def nZ:List dn:=[.val (.sl 162 BO) [], .val (.sl 162 BO) []]
def zI:List jY:=[.val .bool [] []]
def uq:Entry:=⟨167,nZ,zI,fun n (c:Cont (kin nZ))=>pg n c.1 c.2.1⟩
def Ab:Hint:=⟨0,[],[(0,[0,1,5],[])],[],[(179,some 25,vN)],[],[],[],[]⟩
theorem GX:∀n (c:Cont (kin nZ)),fQ T Ab Tryz.f167 nZ zI n c=uq.F n c:=by intro n c; kernel_rfl
theorem Hq [Fr] (n:Nat):ak Tryz.prog n uq:=aj mixed aI Tryz.func167 (by kernel_rfl) (hi:=Ab) (aa (Je n) aA) GX
def uG (n:Nat) (a0:dR) (a1:dR):Option (Bool×Unit):=(if (!decide (a0.1=a1.1))=true then some (false,()) else (if (!decide (a0.2.1=a1.2.1))=true then some (false,()) else (if (!decide (a0.2.2.1=a1.2.2.1))=true then some (false,()) else ((pg n a0.2.2.2.1 a1.2.2.2.1).bind fun r1=>(if (!r1.1)=true then some (false,()) else some (true,()))))))
def xk:List dn:=[.val oL [], .val oL []]
def Ga:List jY:=[.val .bool [] []]
def CE:Entry:=⟨130,xk,Ga,fun n (c:Cont (kin xk))=>uG n c.1 c.2.1⟩
def He:Hint:=⟨0,[],[],[],[(167,some 24,uq)],[],[],[],[]⟩
theorem P8:∀n (c:Cont (kin xk)),fQ T He Tryz.f130 xk Ga n c=CE.F n c:=by intro n c; kernel_rfl
theorem Qb [Fr] (n:Nat):ak Tryz.prog n CE:=aj mixed aI Tryz.func130 (by kernel_rfl) (hi:=He) (aa (Hq n) aA) P8
def wR (n:Nat) (a0:List dR) (a1:List dR):Option (Bool×Unit):=(if (!decide ((a0.length:Int)=(a1.length:Int)))=true then some (false,()) else (rounds (fun L1 (v1:(List dR)×(List dR)×Int×Unit)=>(if decide (v1.2.2.1<(v1.1.length:Int))=true then (if aH v1.2.2.1 v1.1.length then (if aH v1.2.2.1 v1.2.1.length then ((uG n (v1.1.getD v1.2.2.1.toNat dH) (v1.2.1.getD v1.2.2.1.toNat dH)).bind fun r2=>(if (!r2.1)=true then some (false,()) else L1 (v1.1,v1.2.1,IntKind.i64.wrap (v1.2.2.1+(1:Int)),()))) else none) else none) else some (true,()))) n (a0,a1,(0:Int),())))
def vC:List dn:=[.val (.sl 147 oL) [], .val (.sl 147 oL) []]
def EU:List jY:=[.val .bool [] []]
def A9:Entry:=⟨100,vC,EU,fun n (c:Cont (kin vC))=>wR n c.1 c.2.1⟩
def FZ:Hint:=⟨0,[],[(0,[0,1,5],[])],[],[(130,some 25,CE)],[],[],[],[]⟩
theorem Oh:∀n (c:Cont (kin vC)),fQ T FZ Tryz.f100 vC EU n c=A9.F n c:=by intro n c; kernel_rfl
theorem Om [Fr] (n:Nat):ak Tryz.prog n A9:=aj mixed aI Tryz.func100 (by kernel_rfl) (hi:=FZ) (aa (Qb n) aA) Oh
def uH (n:Nat) (a0:fJ) (a1:fJ):Option (Bool×Unit):=(if (!decide (a0.1=a1.1))=true then some (false,()) else ((wR n a0.2.1 a1.2.1).bind fun r1=>(if (!r1.1)=true then some (false,()) else some (true,()))))
def sO:List dn:=[.val rV [], .val rV []]
def DL:List jY:=[.val .bool [] []]
def yR:Entry:=⟨65,sO,DL,fun n (c:Cont (kin sO))=>uH n c.1 c.2.1⟩
def Ed:Hint:=⟨0,[],[],[],[(100,some 14,A9)],[],[],[],[]⟩
theorem Lm:∀n (c:Cont (kin sO)),fQ T Ed Tryz.f65 sO DL n c=yR.F n c:=by intro n c; kernel_rfl
theorem LH [Fr] (n:Nat):ak Tryz.prog n yR:=aj mixed aI Tryz.func65 (by kernel_rfl) (hi:=Ed) (aa (Om n) aA) Lm
def qA (n:Nat) (a0:Be) (a1:Be):Option (Bool×Unit):=(if (!(a0.1 == a1.1))=true then some (false,()) else ((mK n a0.2.1 a1.2.1).bind fun r1=>(if (!r1.1)=true then some (false,()) else ((mK n a0.2.2.1 a1.2.2.1).bind fun r2=>(if (!r2.1)=true then some (false,()) else ((uH n a0.2.2.2.1 a1.2.2.2.1).bind fun r3=>(if (!r3.1)=true then some (false,()) else some (true,()))))))))
def sP:List dn:=[.val CR [], .val CR []]
def DN:List jY:=[.val .bool [] []]
def yS:Entry:=⟨28,sP,DN,fun n (c:Cont (kin sP))=>qA n c.1 c.2.1⟩
def Ee:Hint:=⟨0,[],[],[],[(64,some 14,qo),(64,some 20,qo),(65,some 26,yR)],[],[],[],[]⟩
theorem Lp:∀n (c:Cont (kin sP)),fQ T Ee Tryz.f28 sP DN n c=yS.F n c:=by intro n c; kernel_rfl
theorem LJ [Fr] (n:Nat):ak Tryz.prog n yS:=aj mixed aI Tryz.func28 (by kernel_rfl) (hi:=Ee) (aa (ze n) (aa (ze n) (aa (LH n) aA))) Lp
def kD (n:Nat) (a0:List Int) (a1:List Int):Option (Bool×Unit):=(if (!decide ((a0.length:Int)=(a1.length:Int)))=true then some (false,()) else (rounds (fun L1 (v1:(List Int)×Zt0)=>(if decide (v1.2.2.1<(v1.1.length:Int))=true then (if aH v1.2.2.1 v1.1.length then (if aH v1.2.2.1 v1.2.1.length then (if (!decide ((v1.1.getD v1.2.2.1.toNat (0:Int))=(v1.2.1.getD v1.2.2.1.toNat (0:Int))))=true then some (false,()) else L1 (v1.1,v1.2.1,IntKind.i64.wrap (v1.2.2.1+(1:Int)),())) else none) else none) else some (true,()))) n (a0,a1,(0:Int),())))
def rE:List dn:=[.val (.sl 2 (.int .i64)) [], .val (.sl 2 (.int .i64)) []]
def Ck:List jY:=[.val .bool [] []]
def xQ:Entry:=⟨101,rE,Ck,fun n (c:Cont (kin rE))=>kD n c.1 c.2.1⟩
def Du:Hint:=⟨0,[],[(0,[0,1,5],[])],[],[],[],[],[],[]⟩
theorem Kv:∀n (c:Cont (kin rE)),fQ T Du Tryz.f101 rE Ck n c=xQ.F n c:=by intro n c; kernel_rfl
theorem KE [Fr] (n:Nat):ak Tryz.prog n xQ:=aj mixed aI Tryz.func101 (by kernel_rfl) (hi:=Du) aA Kv
def jB (n:Nat) (a0:H6) (a1:H6):Option (Bool×Unit):=(if (!decide (a0.1=a1.1))=true then some (false,()) else (if (!decide (a0.2.1=a1.2.1))=true then some (false,()) else ((kD n a0.2.2.1 a1.2.2.1).bind fun r1=>(if (!r1.1)=true then some (false,()) else (if (!decide (a0.2.2.2.1=a1.2.2.2.1))=true then some (false,()) else some (true,()))))))
def pV:List dn:=[.val Al [], .val Al []]
def Au:List jY:=[.val .bool [] []]
def vO:Entry:=⟨66,pV,Au,fun n (c:Cont (kin pV))=>jB n c.1 c.2.1⟩
def Bw:Hint:=⟨0,[],[],[],[(101,some 19,xQ)],[],[],[],[]⟩
theorem IV:∀n (c:Cont (kin pV)),fQ T Bw Tryz.f66 pV Au n c=vO.F n c:=by intro n c; kernel_rfl
theorem Jf [Fr] (n:Nat):ak Tryz.prog n vO:=aj mixed aI Tryz.func66 (by kernel_rfl) (hi:=Bw) (aa (KE n) aA) IV
def kP (n:Nat) (a0:List H6) (a1:List H6):Option (Bool×Unit):=(if (!decide ((a0.length:Int)=(a1.length:Int)))=true then some (false,()) else (rounds (fun L1 (v1:(List H6)×(List H6)×Int×Unit)=>(if decide (v1.2.2.1<(v1.1.length:Int))=true then (if aH v1.2.2.1 v1.1.length then (if aH v1.2.2.1 v1.2.1.length then ((jB n (v1.1.getD v1.2.2.1.toNat xP) (v1.2.1.getD v1.2.2.1.toNat xP)).bind fun r2=>(if (!r2.1)=true then some (false,()) else L1 (v1.1,v1.2.1,IntKind.i64.wrap (v1.2.2.1+(1:Int)),()))) else none) else none) else some (true,()))) n (a0,a1,(0:Int),())))
def og:List dn:=[.val (.sl 74 Al) [], .val (.sl 74 Al) []]
def zJ:List jY:=[.val .bool [] []]
def uu:Entry:=⟨29,og,zJ,fun n (c:Cont (kin og))=>kP n c.1 c.2.1⟩
def Ac:Hint:=⟨0,[],[(0,[0,1,5],[])],[],[(66,some 25,vO)],[],[],[],[]⟩
theorem GY:∀n (c:Cont (kin og)),fQ T Ac Tryz.f29 og zJ n c=uu.F n c:=by intro n c; kernel_rfl
theorem Hr [Fr] (n:Nat):ak Tryz.prog n uu:=aj mixed aI Tryz.func29 (by kernel_rfl) (hi:=Ac) (aa (Jf n) aA) GY
def mP (n:Nat) (a0:xY) (a1:xY):Option (Bool×Unit):=((qA n a0.1 a1.1).bind fun r1=>(if (!r1.1)=true then some (false,()) else ((kP n a0.2.1 a1.2.1).bind fun r2=>(if (!r2.1)=true then some (false,()) else some (true,())))))
def sQ:List dn:=[.val FT [], .val FT []]
def DR:List jY:=[.val .bool [] []]
def uw:Entry:=⟨10,sQ,DR,fun n (c:Cont (kin sQ))=>mP n c.1 c.2.1⟩
def Ef:Hint:=⟨0,[],[],[],[(28,some 9,yS),(29,some 15,uu)],[],[],[],[]⟩
theorem Lr:∀n (c:Cont (kin sQ)),fQ T Ef Tryz.f10 sQ DR n c=uw.F n c:=by intro n c; kernel_rfl
theorem Er [Fr] (n:Nat):ak Tryz.prog n uw:=aj mixed aI Tryz.func10 (by kernel_rfl) (hi:=Ef) (aa (LJ n) (aa (Hr n) aA)) Lr
def fH (n:Nat) (a0:RZ) (a1:RZ):Option (Bool×Unit):=(if (!decide (a0.1=a1.1))=true then some (false,()) else ((qW n a0.2.1 a1.2.1).bind fun r1=>(if (!r1.1)=true then some (false,()) else ((mP n a0.2.2.1 a1.2.2.1).bind fun r2=>(if (!r2.1)=true then some (false,()) else some (true,()))))))
def j6:List dn:=[.val Qk [], .val Qk []]
def vM:List jY:=[.val .bool [] []]
def iB:Entry:=⟨9,j6,vM,fun n (c:Cont (kin j6))=>fH n c.1 c.2.1⟩
def xx:Hint:=⟨0,[],[],[],[(27,some 14,vP),(10,some 20,uw)],[],[],[],[]⟩
theorem Ea:∀n (c:Cont (kin j6)),fQ T xx Tryz.f9 j6 vM n c=iB.F n c:=by intro n c; kernel_rfl
theorem qD [Fr] (n:Nat):ak Tryz.prog n iB:=aj mixed aI Tryz.func9 (by kernel_rfl) (hi:=xx) (aa (Jg n) (aa (Er n) aA)) Ea
def jC (n:Nat) (a0:List Int) (a1:Int):Option (Int×(List Int)×Unit):=(rounds (fun L1 (v1:Int×Int×(List Int)×Unit)=>(if decide (v1.2.1<(v1.2.2.1.length:Int))=true then (if aH v1.2.1 v1.2.2.1.length then L1 (IntKind.i64.wrap (v1.1+(1:Int)),IntKind.i64.wrap (v1.2.1+(1:Int)),v1.2.2.1.set v1.2.1.toNat (IntKind.u8.wrap v1.1),()) else none) else some (v1.1,v1.2.2.1,()))) n (a1,(0:Int),a0,()))
def qb:List dn:=[.jL (.sl 5 (.int .u8)) [5] [5], .val (.int .i64) []]
def AB:List jY:=[.val (.int .i64) [] []]
def mE:Entry:=⟨67,qb,AB,fun n (c:Cont (kin qb))=>jC n c.1 c.2.1⟩
def BF:Hint:=⟨0,[],[(0,[0,1,5],[0])],[],[],[],[],[],[]⟩
theorem I4:∀n (c:Cont (kin qb)),fQ T BF Tryz.f67 qb AB n c=mE.F n c:=by intro n c; kernel_rfl
theorem wz [Fr] (n:Nat):ak Tryz.prog n mE:=aj mixed aI Tryz.func67 (by kernel_rfl) (hi:=BF) aA I4
def dQ (n:Nat) (a0:Int):Option ((List Int)×Unit):=(if decide (a0≤(0:Int))=true then some ([109,48],()) else (rounds (fun L1 (v1:Int×(List Int)×Unit)=>(if decide (v1.1>(0:Int))=true then (if (10:Int)≠0 then (if [IntKind.u8.wrap (IntKind.i64.wrap ((48:Int)+(v1.1.tmod (10:Int))))].length+v1.2.1.length≤9223372036854775807 then (if (10:Int)≠0 then L1 (IntKind.i64.wrap (v1.1.tdiv (10:Int)),[IntKind.u8.wrap (IntKind.i64.wrap ((48:Int)+(v1.1.tmod (10:Int))))]++v1.2.1,()) else none) else none) else none) else (if [109].length+v1.2.1.length≤9223372036854775807 then some ([109]++v1.2.1,()) else none))) n (a0,([]:List Int),())))
def rH:List dn:=[.val (.int .i64) []]
def Co:List jY:=[.val .str [] []]
def gM:Entry:=⟨69,rH,Co,fun n (c:Cont (kin rH))=>dQ n c.1⟩
def Dx:Hint:=⟨0,[],[(0,[0,3],[])],[],[],[],[],[],[]⟩
theorem Kz:∀n (c:Cont (kin rH)),fQ T Dx Tryz.f69 rH Co n c=gM.F n c:=by intro n c; kernel_rfl
theorem kG [Fr] (n:Nat):ak Tryz.prog n gM:=aj mixed aI Tryz.func69 (by kernel_rfl) (hi:=Dx) aA Kz
def lX (n:Nat) (a0:List tN) (a1:Int):Option (Int×(List tN)×Unit):=(rounds (fun L1 (v1:Int×Int×(List tN)×Unit)=>(if decide (v1.2.1<(v1.2.2.1.length:Int))=true then (if aH v1.2.1 v1.2.2.1.length then (if aH v1.2.1 (fF v1.2.2.1 v1.2.1.toNat lH fun z1=>(v1.1,z1.2)).length then (if aH v1.2.1 (fF (fF v1.2.2.1 v1.2.1.toNat lH fun z1=>(v1.1,z1.2)) v1.2.1.toNat lH fun z1=>(z1.1,IntKind.i64.wrap (v1.1+(1:Int)),z1.2.2)).length then (if aH v1.2.1 (fF (fF (fF v1.2.2.1 v1.2.1.toNat lH fun z1=>(v1.1,z1.2)) v1.2.1.toNat lH fun z1=>(z1.1,IntKind.i64.wrap (v1.1+(1:Int)),z1.2.2)) v1.2.1.toNat lH fun z1=>(z1.1,z1.2.1,IntKind.i64.wrap ((IntKind.i64.wrap (v1.1+(1:Int)))+(1:Int)),z1.2.2.2)).length then ((jC n ((((((fF (fF (fF v1.2.2.1 v1.2.1.toNat lH fun z1=>(v1.1,z1.2)) v1.2.1.toNat lH fun z1=>(z1.1,IntKind.i64.wrap (v1.1+(1:Int)),z1.2.2)) v1.2.1.toNat lH fun z1=>(z1.1,z1.2.1,IntKind.i64.wrap ((IntKind.i64.wrap (v1.1+(1:Int)))+(1:Int)),z1.2.2.2)).getD v1.2.1.toNat lH).2).2).2).1) (IntKind.i64.wrap ((IntKind.i64.wrap ((IntKind.i64.wrap (v1.1+(1:Int)))+(1:Int)))+(1:Int)))).bind fun r2=>L1 (r2.1,IntKind.i64.wrap (v1.2.1+(1:Int)),(fF (fF (fF (fF v1.2.2.1 v1.2.1.toNat lH fun z1=>(v1.1,z1.2)) v1.2.1.toNat lH fun z1=>(z1.1,IntKind.i64.wrap (v1.1+(1:Int)),z1.2.2)) v1.2.1.toNat lH fun z1=>(z1.1,z1.2.1,IntKind.i64.wrap ((IntKind.i64.wrap (v1.1+(1:Int)))+(1:Int)),z1.2.2.2)) v1.2.1.toNat lH fun z1=>(z1.1,z1.2.1,z1.2.2.1,r2.2.1,z1.2.2.2.2)),())) else none) else none) else none) else none) else some (v1.1,v1.2.2.1,()))) n (a1,(0:Int),a0,()))
def lq:List dn:=[.jL (.sl 162 BO) [5,162] [5,162,4294967295], .val (.int .i64) []]
def xL:List jY:=[.val (.int .i64) [] []]
def rR:Entry:=⟨131,lq,xL,fun n (c:Cont (kin lq))=>lX n c.1 c.2.1⟩
def yg:Hint:=⟨0,[37],[(0,[0,1,5],[0])],[],[(67,some 39,mE)],[],[],[],[]⟩
theorem FM:∀n (c:Cont (kin lq)),fQ T yg Tryz.f131 lq xL n c=rR.F n c:=by intro n c; kernel_rfl
theorem FQ [Fr] (n:Nat):ak Tryz.prog n rR:=aj mixed aI Tryz.func131 (by kernel_rfl) (hi:=yg) (aa (wz n) aA) FM
def sI (n:Nat) (a0:List dR) (a1:Int):Option fJ:=(rounds (fun L1 (v1:Int×fJ)=>(if decide (v1.2.1<(v1.2.2.1.length:Int))=true then ((dQ n v1.1).bind fun r2=>(if aH v1.2.1 v1.2.2.1.length then (if aH v1.2.1 (fF v1.2.2.1 v1.2.1.toNat dH fun z1=>(r2.1,z1.2)).length then (if aH v1.2.1 (fF (fF v1.2.2.1 v1.2.1.toNat dH fun z1=>(r2.1,z1.2)) v1.2.1.toNat dH fun z1=>(z1.1,IntKind.i64.wrap (v1.1+(1:Int)),z1.2.2)).length then (if aH v1.2.1 (fF (fF (fF v1.2.2.1 v1.2.1.toNat dH fun z1=>(r2.1,z1.2)) v1.2.1.toNat dH fun z1=>(z1.1,IntKind.i64.wrap (v1.1+(1:Int)),z1.2.2)) v1.2.1.toNat dH fun z1=>(z1.1,z1.2.1,IntKind.i64.wrap ((IntKind.i64.wrap (v1.1+(1:Int)))+(1:Int)),z1.2.2.2)).length then ((lX n ((((((fF (fF (fF v1.2.2.1 v1.2.1.toNat dH fun z1=>(r2.1,z1.2)) v1.2.1.toNat dH fun z1=>(z1.1,IntKind.i64.wrap (v1.1+(1:Int)),z1.2.2)) v1.2.1.toNat dH fun z1=>(z1.1,z1.2.1,IntKind.i64.wrap ((IntKind.i64.wrap (v1.1+(1:Int)))+(1:Int)),z1.2.2.2)).getD v1.2.1.toNat dH).2).2).2).1) (IntKind.i64.wrap ((IntKind.i64.wrap ((IntKind.i64.wrap (v1.1+(1:Int)))+(1:Int)))+(1:Int)))).bind fun r3=>L1 (r3.1,IntKind.i64.wrap (v1.2.1+(1:Int)),(fF (fF (fF (fF v1.2.2.1 v1.2.1.toNat dH fun z1=>(r2.1,z1.2)) v1.2.1.toNat dH fun z1=>(z1.1,IntKind.i64.wrap (v1.1+(1:Int)),z1.2.2)) v1.2.1.toNat dH fun z1=>(z1.1,z1.2.1,IntKind.i64.wrap ((IntKind.i64.wrap (v1.1+(1:Int)))+(1:Int)),z1.2.2.2)) v1.2.1.toNat dH fun z1=>(z1.1,z1.2.1,z1.2.2.1,r3.2.1,z1.2.2.2.2)),())) else none) else none) else none) else none)) else some (v1.1,v1.2.2.1,()))) n (a1,(0:Int),a0,()))
def rG:List dn:=[.jL (.sl 147 oL) [5,147,162] [5,147,162,4294967295], .val (.int .i64) []]
def Cn:List jY:=[.val (.int .i64) [] []]
def xS:Entry:=⟨102,rG,Cn,fun n (c:Cont (kin rG))=>sI n c.1 c.2.1⟩
def Dw:Hint:=⟨0,[38],[(0,[0,1,5],[0])],[],[(69,some 15,gM),(131,some 40,rR)],[],[],[],[]⟩
theorem Ky:∀n (c:Cont (kin rG)),fQ T Dw Tryz.f102 rG Cn n c=xS.F n c:=by intro n c; kernel_rfl
theorem KG [Fr] (n:Nat):ak Tryz.prog n xS:=aj mixed aI Tryz.func102 (by kernel_rfl) (hi:=Dw) (aa (kG n) (aa (FQ n) aA)) Ky
def qX (n:Nat) (a0:fJ) (a1:Int):Option (Int×fJ×Unit):=((sI n a0.2.1 a1).bind fun r1=>some (r1.1,(a0.1,r1.2.1,a0.2.2),()))
def qc:List dn:=[.jL rV [5,147,162] [5,147,162,4294967295], .val (.int .i64) []]
def AJ:List jY:=[.val (.int .i64) [] []]
def vT:Entry:=⟨68,qc,AJ,fun n (c:Cont (kin qc))=>qX n c.1 c.2.1⟩
def BG:Hint:=⟨0,[],[],[],[(102,some 8,xS)],[],[],[],[]⟩
theorem I5:∀n (c:Cont (kin qc)),fQ T BG Tryz.f68 qc AJ n c=vT.F n c:=by intro n c; kernel_rfl
theorem Jk [Fr] (n:Nat):ak Tryz.prog n vT:=aj mixed aI Tryz.func68 (by kernel_rfl) (hi:=BG) (aa (KG n) aA) I5
def qY (n:Nat) (a0:Be) (a1:Int):Option (Int×Be×Unit):=((jC n a0.2.1 a1).bind fun r1=>((jC n a0.2.2.1 r1.1).bind fun r2=>((qX n a0.2.2.2.1 r2.1).bind fun r3=>some (r3.1,(a0.1,r1.2.1,r2.2.1,r3.2.1,a0.2.2.2.2),()))))
def qd:List dn:=[.jL CR [5,147,162] [5,147,162,4294967295], .val (.int .i64) []]
def AL:List jY:=[.val (.int .i64) [] []]
def vU:Entry:=⟨30,qd,AL,fun n (c:Cont (kin qd))=>qY n c.1 c.2.1⟩
def BH:Hint:=⟨0,[],[],[],[(67,some 8,mE),(67,some 12,mE),(68,some 16,vT)],[],[],[],[]⟩
theorem I6:∀n (c:Cont (kin qd)),fQ T BH Tryz.f30 qd AL n c=vU.F n c:=by intro n c; kernel_rfl
theorem Jl [Fr] (n:Nat):ak Tryz.prog n vU:=aj mixed aI Tryz.func30 (by kernel_rfl) (hi:=BH) (aa (wz n) (aa (wz n) (aa (Jk n) aA))) I6
def pz (n:Nat) (a0:List Int) (a1:Int):Option (Int×(List Int)×Unit):=(rounds (fun L1 (v1:Int×Int×(List Int)×Unit)=>(if decide (v1.2.1<(v1.2.2.1.length:Int))=true then (if aH v1.2.1 v1.2.2.1.length then L1 (IntKind.i64.wrap (v1.1+(1:Int)),IntKind.i64.wrap (v1.2.1+(1:Int)),v1.2.2.1.set v1.2.1.toNat v1.1,()) else none) else some (v1.1,v1.2.2.1,()))) n (a1,(0:Int),a0,()))
def om:List dn:=[.jL (.sl 2 (.int .i64)) [2] [2], .val (.int .i64) []]
def zL:List jY:=[.val (.int .i64) [] []]
def uz:Entry:=⟨70,om,zL,fun n (c:Cont (kin om))=>pz n c.1 c.2.1⟩
def Ae:Hint:=⟨0,[],[(0,[0,1,5],[0])],[],[],[],[],[],[]⟩
theorem G5:∀n (c:Cont (kin om)),fQ T Ae Tryz.f70 om zL n c=uz.F n c:=by intro n c; kernel_rfl
theorem Hu [Fr] (n:Nat):ak Tryz.prog n uz:=aj mixed aI Tryz.func70 (by kernel_rfl) (hi:=Ae) aA G5
def lY (n:Nat) (a0:List H6) (a1:Int):Option (Int×(List H6)×Unit):=(rounds (fun L1 (v1:Int×Int×(List H6)×Unit)=>(if decide (v1.2.1<(v1.2.2.1.length:Int))=true then ((dQ n v1.1).bind fun r2=>(if aH v1.2.1 v1.2.2.1.length then (if aH v1.2.1 (fF v1.2.2.1 v1.2.1.toNat xP fun z1=>(r2.1,z1.2)).length then (if aH v1.2.1 (fF (fF v1.2.2.1 v1.2.1.toNat xP fun z1=>(r2.1,z1.2)) v1.2.1.toNat xP fun z1=>(z1.1,IntKind.i64.wrap (v1.1+(1:Int)),z1.2.2)).length then ((pz n (((((fF (fF v1.2.2.1 v1.2.1.toNat xP fun z1=>(r2.1,z1.2)) v1.2.1.toNat xP fun z1=>(z1.1,IntKind.i64.wrap (v1.1+(1:Int)),z1.2.2)).getD v1.2.1.toNat xP).2).2).1) (IntKind.i64.wrap ((IntKind.i64.wrap (v1.1+(1:Int)))+(1:Int)))).bind fun r3=>(if aH v1.2.1 (fF (fF (fF v1.2.2.1 v1.2.1.toNat xP fun z1=>(r2.1,z1.2)) v1.2.1.toNat xP fun z1=>(z1.1,IntKind.i64.wrap (v1.1+(1:Int)),z1.2.2)) v1.2.1.toNat xP fun z1=>(z1.1,z1.2.1,r3.2.1,z1.2.2.2)).length then L1 (IntKind.i64.wrap (r3.1+(1:Int)),IntKind.i64.wrap (v1.2.1+(1:Int)),(fF (fF (fF (fF v1.2.2.1 v1.2.1.toNat xP fun z1=>(r2.1,z1.2)) v1.2.1.toNat xP fun z1=>(z1.1,IntKind.i64.wrap (v1.1+(1:Int)),z1.2.2)) v1.2.1.toNat xP fun z1=>(z1.1,z1.2.1,r3.2.1,z1.2.2.2)) v1.2.1.toNat xP fun z1=>(z1.1,z1.2.1,z1.2.2.1,r3.1,z1.2.2.2.2)),()) else none)) else none) else none) else none)) else some (v1.1,v1.2.2.1,()))) n (a1,(0:Int),a0,()))
def lu:List dn:=[.jL (.sl 74 Al) [2,74] [2,74,4294967295], .val (.int .i64) []]
def xM:List jY:=[.val (.int .i64) [] []]
def rT:Entry:=⟨31,lu,xM,fun n (c:Cont (kin lu))=>lY n c.1 c.2.1⟩
def yh:Hint:=⟨0,[31],[(0,[0,1,5],[0])],[],[(69,some 15,gM),(70,some 33,uz)],[],[],[],[]⟩
theorem FN:∀n (c:Cont (kin lu)),fQ T yh Tryz.f31 lu xM n c=rT.F n c:=by intro n c; kernel_rfl
theorem FR [Fr] (n:Nat):ak Tryz.prog n rT:=aj mixed aI Tryz.func31 (by kernel_rfl) (hi:=yh) (aa (kG n) (aa (Hu n) aA)) FN
def mY (n:Nat) (a0:xY) (a1:Int):Option (Int×xY×Unit):=((qY n a0.1 a1).bind fun r1=>((lY n a0.2.1 r1.1).bind fun r2=>some (r2.1,(r1.2.1,r2.2.1,a0.2.2),())))
def qg:List dn:=[.jL FT [2,5,74,147,162] [2,5,74,147,162,4294967295], .val (.int .i64) []]
def AO:List jY:=[.val (.int .i64) [] []]
def qP:Entry:=⟨11,qg,AO,fun n (c:Cont (kin qg))=>mY n c.1 c.2.1⟩
def BI:Hint:=⟨0,[],[],[],[(30,some 8,vU),(31,some 12,rT)],[],[],[],[]⟩
theorem I7:∀n (c:Cont (kin qg)),fQ T BI Tryz.f11 qg AO n c=qP.F n c:=by intro n c; kernel_rfl
theorem BN [Fr] (n:Nat):ak Tryz.prog n qP:=aj mixed aI Tryz.func11 (by kernel_rfl) (hi:=BI) (aa (Jl n) (aa (FR n) aA)) I7
def nR (n:Nat) (a0:List (List Int)) (a1:Int):Option (Int×(List (List Int))×Unit):=(rounds (fun L1 (v1:Int×Int×(List (List Int))×Unit)=>(if decide (v1.2.1<(v1.2.2.1.length:Int))=true then ((dQ n v1.1).bind fun r2=>(if aH v1.2.1 v1.2.2.1.length then L1 (IntKind.i64.wrap (v1.1+(1:Int)),IntKind.i64.wrap (v1.2.1+(1:Int)),v1.2.2.1.set v1.2.1.toNat r2.1,()) else none)) else some (v1.1,v1.2.2.1,()))) n (a1,(0:Int),a0,()))
def mq:List dn:=[.jL (.sl 9 .str) [9] [9], .val (.int .i64) []]
def yt:List jY:=[.val (.int .i64) [] []]
def tH:Entry:=⟨32,mq,yt,fun n (c:Cont (kin mq))=>nR n c.1 c.2.1⟩
def y9:Hint:=⟨0,[],[(0,[0,1,5],[0])],[],[(69,some 15,gM)],[],[],[],[]⟩
theorem Gi:∀n (c:Cont (kin mq)),fQ T y9 Tryz.f32 mq yt n c=tH.F n c:=by intro n c; kernel_rfl
theorem Gl [Fr] (n:Nat):ak Tryz.prog n tH:=aj mixed aI Tryz.func32 (by kernel_rfl) (hi:=y9) (aa (kG n) aA) Gi
def jd (n:Nat) (a0:RZ) (a1:Int):Option (Int×RZ×Unit):=((nR n a0.2.1 a1).bind fun r1=>((mY n a0.2.2.1 r1.1).bind fun r2=>some (r2.1,(a0.1,r1.2.1,r2.2.1,a0.2.2.2),())))
def iK:List dn:=[.jL Qk [2,5,9,74,147,162] [2,5,9,74,147,162,4294967295], .val (.int .i64) []]
def uj:List jY:=[.val (.int .i64) [] []]
def nN:Entry:=⟨12,iK,uj,fun n (c:Cont (kin iK))=>jd n c.1 c.2.1⟩
def uW:Hint:=⟨0,[],[],[],[(32,some 8,tH),(11,some 12,qP)],[],[],[],[]⟩
theorem CB:∀n (c:Cont (kin iK)),fQ T uW Tryz.f12 iK uj n c=nN.F n c:=by intro n c; kernel_rfl
theorem CK [Fr] (n:Nat):ak Tryz.prog n nN:=aj mixed aI Tryz.func12 (by kernel_rfl) (hi:=uW) (aa (Gl n) (aa (BN n) aA)) CB
def jO (n:Nat) (a0:List (List Int)) (a1:Int):Option (Int×Unit):=(rounds (fun L1 (v1:(List (List Int))×Int×Int×Unit)=>(if decide (v1.2.2.1<(v1.1.length:Int))=true then (if aH v1.2.2.1 v1.1.length then ((dQ n v1.2.1).bind fun r2=>(if (!decide ((v1.1.getD v1.2.2.1.toNat ([]:List Int))=r2.1))=true then some ((-1:Int),()) else L1 (v1.1,IntKind.i64.wrap (v1.2.1+(1:Int)),IntKind.i64.wrap (v1.2.2.1+(1:Int)),()))) else none) else some (v1.2.1,()))) n (a0,a1,(0:Int),()))
def mo:List dn:=[.val (.sl 9 .str) [], .val (.int .i64) []]
def ym:List jY:=[.val (.int .i64) [] []]
def tF:Entry:=⟨33,mo,ym,fun n (c:Cont (kin mo))=>jO n c.1 c.2.1⟩
def y8:Hint:=⟨0,[],[(0,[0,1,5],[])],[],[(69,some 17,gM)],[],[],[],[]⟩
theorem Gh:∀n (c:Cont (kin mo)),fQ T y8 Tryz.f33 mo ym n c=tF.F n c:=by intro n c; kernel_rfl
theorem Gj [Fr] (n:Nat):ak Tryz.prog n tF:=aj mixed aI Tryz.func33 (by kernel_rfl) (hi:=y8) (aa (kG n) aA) Gh
def fI (n:Nat) (a0:List Int) (a1:Int):Option (Int×Unit):=(rounds (fun L1 (v1:(List Int)×Int×Int×Unit)=>(if decide (v1.2.2.1<(v1.1.length:Int))=true then (if aH v1.2.2.1 v1.1.length then (if (!decide ((v1.1.getD v1.2.2.1.toNat (0:Int))=(IntKind.u8.wrap v1.2.1)))=true then some ((-1:Int),()) else L1 (v1.1,IntKind.i64.wrap (v1.2.1+(1:Int)),IntKind.i64.wrap (v1.2.2.1+(1:Int)),())) else none) else some (v1.2.1,()))) n (a0,a1,(0:Int),()))
def pX:List dn:=[.val (.sl 5 (.int .u8)) [], .val (.int .i64) []]
def Aw:List jY:=[.val (.int .i64) [] []]
def mD:Entry:=⟨103,pX,Aw,fun n (c:Cont (kin pX))=>fI n c.1 c.2.1⟩
def BA:Hint:=⟨0,[],[(0,[0,1,5],[])],[],[],[],[],[],[]⟩
theorem IX:∀n (c:Cont (kin pX)),fQ T BA Tryz.f103 pX Aw n c=mD.F n c:=by intro n c; kernel_rfl
theorem wu [Fr] (n:Nat):ak Tryz.prog n mD:=aj mixed aI Tryz.func103 (by kernel_rfl) (hi:=BA) aA IX
def lU (n:Nat) (a0:List tN) (a1:Int):Option (Int×Unit):=(rounds (fun L1 (v1:(List tN)×Int×Int×Unit)=>(if decide (v1.2.2.1<(v1.1.length:Int))=true then (if aH v1.2.2.1 v1.1.length then (if (!decide (((v1.1.getD v1.2.2.1.toNat lH).1)=v1.2.1))=true then some ((-1:Int),()) else (if aH v1.2.2.1 v1.1.length then (if (!decide ((((v1.1.getD v1.2.2.1.toNat lH).2).1)=(IntKind.i64.wrap (v1.2.1+(1:Int)))))=true then some ((-1:Int),()) else (if aH v1.2.2.1 v1.1.length then (if (!decide (((((v1.1.getD v1.2.2.1.toNat lH).2).2).1)=(IntKind.i64.wrap ((IntKind.i64.wrap (v1.2.1+(1:Int)))+(1:Int)))))=true then some ((-1:Int),()) else (if aH v1.2.2.1 v1.1.length then ((fI n (((((v1.1.getD v1.2.2.1.toNat lH).2).2).2).1) (IntKind.i64.wrap ((IntKind.i64.wrap ((IntKind.i64.wrap (v1.2.1+(1:Int)))+(1:Int)))+(1:Int)))).bind fun r2=>(if decide (r2.1<(0:Int))=true then some ((-1:Int),()) else L1 (v1.1,r2.1,IntKind.i64.wrap (v1.2.2.1+(1:Int)),()))) else none)) else none)) else none)) else none) else some (v1.2.1,()))) n (a0,a1,(0:Int),()))
def kY:List dn:=[.val (.sl 162 BO) [], .val (.int .i64) []]
def xJ:List jY:=[.val (.int .i64) [] []]
def rP:Entry:=⟨168,kY,xJ,fun n (c:Cont (kin kY))=>lU n c.1 c.2.1⟩
def yc:Hint:=⟨0,[],[(0,[0,1,5],[])],[],[(103,some 45,mD)],[],[],[],[]⟩
theorem FK:∀n (c:Cont (kin kY)),fQ T yc Tryz.f168 kY xJ n c=rP.F n c:=by intro n c; kernel_rfl
theorem FO [Fr] (n:Nat):ak Tryz.prog n rP:=aj mixed aI Tryz.func168 (by kernel_rfl) (hi:=yc) (aa (wu n) aA) FK
def oI (n:Nat) (a0:List dR) (a1:Int):Option (Int×Unit):=(rounds (fun L1 (v1:(List dR)×Int×Int×Unit)=>(if decide (v1.2.2.1<(v1.1.length:Int))=true then (if aH v1.2.2.1 v1.1.length then ((dQ n v1.2.1).bind fun r2=>(if (!decide (((v1.1.getD v1.2.2.1.toNat dH).1)=r2.1))=true then some ((-1:Int),()) else (if aH v1.2.2.1 v1.1.length then (if (!decide ((((v1.1.getD v1.2.2.1.toNat dH).2).1)=(IntKind.i64.wrap (v1.2.1+(1:Int)))))=true then some ((-1:Int),()) else (if aH v1.2.2.1 v1.1.length then (if (!decide (((((v1.1.getD v1.2.2.1.toNat dH).2).2).1)=(IntKind.i64.wrap ((IntKind.i64.wrap (v1.2.1+(1:Int)))+(1:Int)))))=true then some ((-1:Int),()) else (if aH v1.2.2.1 v1.1.length then ((lU n (((((v1.1.getD v1.2.2.1.toNat dH).2).2).2).1) (IntKind.i64.wrap ((IntKind.i64.wrap ((IntKind.i64.wrap (v1.2.1+(1:Int)))+(1:Int)))+(1:Int)))).bind fun r3=>(if decide (r3.1<(0:Int))=true then some ((-1:Int),()) else L1 (v1.1,r3.1,IntKind.i64.wrap (v1.2.2.1+(1:Int)),()))) else none)) else none)) else none))) else none) else some (v1.2.1,()))) n (a0,a1,(0:Int),()))
def rF:List dn:=[.val (.sl 147 oL) [], .val (.int .i64) []]
def Cm:List jY:=[.val (.int .i64) [] []]
def xR:Entry:=⟨132,rF,Cm,fun n (c:Cont (kin rF))=>oI n c.1 c.2.1⟩
def Dv:Hint:=⟨0,[],[(0,[0,1,5],[])],[],[(69,some 18,gM),(168,some 46,rP)],[],[],[],[]⟩
theorem Kw:∀n (c:Cont (kin rF)),fQ T Dv Tryz.f132 rF Cm n c=xR.F n c:=by intro n c; kernel_rfl
theorem KF [Fr] (n:Nat):ak Tryz.prog n xR:=aj mixed aI Tryz.func132 (by kernel_rfl) (hi:=Dv) (aa (kG n) (aa (FO n) aA)) Kw
def mQ (n:Nat) (a0:fJ) (a1:Int):Option (Int×Unit):=((oI n a0.2.1 a1).bind fun r1=>(if decide (r1.1<(0:Int))=true then some ((-1:Int),()) else some (r1.1,())))
def pY:List dn:=[.val rV [], .val (.int .i64) []]
def Ay:List jY:=[.val (.int .i64) [] []]
def vQ:Entry:=⟨104,pY,Ay,fun n (c:Cont (kin pY))=>mQ n c.1 c.2.1⟩
def BB:Hint:=⟨0,[],[],[],[(132,some 8,xR)],[],[],[],[]⟩
theorem IY:∀n (c:Cont (kin pY)),fQ T BB Tryz.f104 pY Ay n c=vQ.F n c:=by intro n c; kernel_rfl
theorem Jh [Fr] (n:Nat):ak Tryz.prog n vQ:=aj mixed aI Tryz.func104 (by kernel_rfl) (hi:=BB) (aa (KF n) aA) IY
def mR (n:Nat) (a0:Be) (a1:Int):Option (Int×Unit):=((fI n a0.2.1 a1).bind fun r1=>(if decide (r1.1<(0:Int))=true then some ((-1:Int),()) else ((fI n a0.2.2.1 r1.1).bind fun r2=>(if decide (r2.1<(0:Int))=true then some ((-1:Int),()) else ((mQ n a0.2.2.2.1 r2.1).bind fun r3=>(if decide (r3.1<(0:Int))=true then some ((-1:Int),()) else some (r3.1,())))))))
def p9:List dn:=[.val CR [], .val (.int .i64) []]
def Az:List jY:=[.val (.int .i64) [] []]
def vR:Entry:=⟨71,p9,Az,fun n (c:Cont (kin p9))=>mR n c.1 c.2.1⟩
def BC:Hint:=⟨0,[],[],[],[(103,some 8,mD),(103,some 14,mD),(104,some 20,vQ)],[],[],[],[]⟩
theorem IZ:∀n (c:Cont (kin p9)),fQ T BC Tryz.f71 p9 Az n c=vR.F n c:=by intro n c; kernel_rfl
theorem Ji [Fr] (n:Nat):ak Tryz.prog n vR:=aj mixed aI Tryz.func71 (by kernel_rfl) (hi:=BC) (aa (wu n) (aa (wu n) (aa (Jh n) aA))) IZ
def pq (n:Nat) (a0:List Int) (a1:Int):Option (Int×Unit):=(rounds (fun L1 (v1:(List Int)×Int×Int×Unit)=>(if decide (v1.2.2.1<(v1.1.length:Int))=true then (if aH v1.2.2.1 v1.1.length then (if (!decide ((v1.1.getD v1.2.2.1.toNat (0:Int))=v1.2.1))=true then some ((-1:Int),()) else L1 (v1.1,IntKind.i64.wrap (v1.2.1+(1:Int)),IntKind.i64.wrap (v1.2.2.1+(1:Int)),())) else none) else some (v1.2.1,()))) n (a0,a1,(0:Int),()))
def oh:List dn:=[.val (.sl 2 (.int .i64)) [], .val (.int .i64) []]
def zK:List jY:=[.val (.int .i64) [] []]
def uy:Entry:=⟨105,oh,zK,fun n (c:Cont (kin oh))=>pq n c.1 c.2.1⟩
def Ad:Hint:=⟨0,[],[(0,[0,1,5],[])],[],[],[],[],[],[]⟩
theorem GZ:∀n (c:Cont (kin oh)),fQ T Ad Tryz.f105 oh zK n c=uy.F n c:=by intro n c; kernel_rfl
theorem Ht [Fr] (n:Nat):ak Tryz.prog n uy:=aj mixed aI Tryz.func105 (by kernel_rfl) (hi:=Ad) aA GZ
def iX (n:Nat) (a0:List H6) (a1:Int):Option (Int×Unit):=(rounds (fun L1 (v1:(List H6)×Int×Int×Unit)=>(if decide (v1.2.2.1<(v1.1.length:Int))=true then (if aH v1.2.2.1 v1.1.length then ((dQ n v1.2.1).bind fun r2=>(if (!decide (((v1.1.getD v1.2.2.1.toNat xP).1)=r2.1))=true then some ((-1:Int),()) else (if aH v1.2.2.1 v1.1.length then (if (!decide ((((v1.1.getD v1.2.2.1.toNat xP).2).1)=(IntKind.i64.wrap (v1.2.1+(1:Int)))))=true then some ((-1:Int),()) else (if aH v1.2.2.1 v1.1.length then ((pq n ((((v1.1.getD v1.2.2.1.toNat xP).2).2).1) (IntKind.i64.wrap ((IntKind.i64.wrap (v1.2.1+(1:Int)))+(1:Int)))).bind fun r3=>(if decide (r3.1<(0:Int))=true then some ((-1:Int),()) else (if aH v1.2.2.1 v1.1.length then (if (!decide ((((((v1.1.getD v1.2.2.1.toNat xP).2).2).2).1)=r3.1))=true then some ((-1:Int),()) else L1 (v1.1,IntKind.i64.wrap (r3.1+(1:Int)),IntKind.i64.wrap (v1.2.2.1+(1:Int)),())) else none))) else none)) else none))) else none) else some (v1.2.1,()))) n (a0,a1,(0:Int),()))
def kZ:List dn:=[.val (.sl 74 Al) [], .val (.int .i64) []]
def xK:List jY:=[.val (.int .i64) [] []]
def rQ:Entry:=⟨72,kZ,xK,fun n (c:Cont (kin kZ))=>iX n c.1 c.2.1⟩
def yf:Hint:=⟨0,[],[(0,[0,1,5],[])],[],[(69,some 18,gM),(105,some 37,uy)],[],[],[],[]⟩
theorem FL:∀n (c:Cont (kin kZ)),fQ T yf Tryz.f72 kZ xK n c=rQ.F n c:=by intro n c; kernel_rfl
theorem FP [Fr] (n:Nat):ak Tryz.prog n rQ:=aj mixed aI Tryz.func72 (by kernel_rfl) (hi:=yf) (aa (kG n) (aa (Ht n) aA)) FL
def mU (n:Nat) (a0:xY) (a1:Int):Option (Int×Unit):=((mR n a0.1 a1).bind fun r1=>(if decide (r1.1<(0:Int))=true then some ((-1:Int),()) else ((iX n a0.2.1 r1.1).bind fun r2=>(if decide (r2.1<(0:Int))=true then some ((-1:Int),()) else some (r2.1,())))))
def qa:List dn:=[.val FT [], .val (.int .i64) []]
def AA:List jY:=[.val (.int .i64) [] []]
def vS:Entry:=⟨34,qa,AA,fun n (c:Cont (kin qa))=>mU n c.1 c.2.1⟩
def BD:Hint:=⟨0,[],[],[],[(71,some 8,vR),(72,some 14,rQ)],[],[],[],[]⟩
theorem I1:∀n (c:Cont (kin qa)),fQ T BD Tryz.f34 qa AA n c=vS.F n c:=by intro n c; kernel_rfl
theorem Jj [Fr] (n:Nat):ak Tryz.prog n vS:=aj mixed aI Tryz.func34 (by kernel_rfl) (hi:=BD) (aa (Ji n) (aa (FP n) aA)) I1
def gz (n:Nat) (a0:RZ) (a1:Int):Option (Int×Unit):=((jO n a0.2.1 a1).bind fun r1=>(if decide (r1.1<(0:Int))=true then some ((-1:Int),()) else ((mU n a0.2.2.1 r1.1).bind fun r2=>(if decide (r2.1<(0:Int))=true then some ((-1:Int),()) else some (r2.1,())))))
def iJ:List dn:=[.val Qk [], .val (.int .i64) []]
def uh:List jY:=[.val (.int .i64) [] []]
def jc:Entry:=⟨13,iJ,uh,fun n (c:Cont (kin iJ))=>gz n c.1 c.2.1⟩
def uV:Hint:=⟨0,[],[],[],[(33,some 8,tF),(34,some 14,vS)],[],[],[],[]⟩
theorem Cz:∀n (c:Cont (kin iJ)),fQ T uV Tryz.f13 iJ uh n c=jc.F n c:=by intro n c; kernel_rfl
theorem uY [Fr] (n:Nat):ak Tryz.prog n jc:=aj mixed aI Tryz.func13 (by kernel_rfl) (hi:=uV) (aa (Gj n) (aa (Jj n) aA)) Cz
def jN (n:Nat) (a0:xY):Option (Bool×Unit):=((uL n a0 (1048576:Int)).bind fun r1=>(if decide (r1.1<(0:Int))=true then some (true,()) else ((jQ n a0).bind fun r2=>((l9 n r2.1).bind fun r3=>((jQ n a0).bind fun r4=>((iW n r4.1).bind fun r5=>((fH n r5.1 r3.1).bind fun r6=>(if (!r6.1)=true then some (false,()) else ((jQ n a0).bind fun r7=>((mP n r4.1 r7.1).bind fun r8=>(if (!r8.1)=true then some (false,()) else ((mY n r4.1 (1:Int)).bind fun r9=>(if decide (r9.1<(0:Int))=true then some (false,()) else ((fH n r5.1 r3.1).bind fun Rb=>(if (!Rb.1)=true then some (false,()) else ((jd n r5.1 (1:Int)).bind fun Lf=>((gz n Lf.2.1 (1:Int)).bind fun NJ=>(if decide (NJ.1<(0:Int))=true then some (false,()) else (if (!decide (NJ.1=Lf.1))=true then some (false,()) else ((jQ n a0).bind fun RA=>((iW n RA.1).bind fun r14=>((fH n r14.1 r3.1).bind fun WS=>(if (!WS.1)=true then some (false,()) else ((gz n Lf.2.1 (1:Int)).bind fun r16=>(if decide (r16.1<(0:Int))=true then some (false,()) else (if (!decide (r16.1=Lf.1))=true then some (false,()) else some (true,())))))))))))))))))))))))))))
def bN:List dn:=[.val UB []]
def qm:List jY:=[.val .bool [] []]
def jM:Entry:=⟨3,bN,qm,fun n (c:Cont (kin bN))=>jN n c.1⟩
def qC:Hint:=⟨0,[32,43],[],[],[(5,some 13,yV),(7,some 17,mF),(6,some 18,ae6),(7,some 20,mF),(8,some 22,V3),(9,some 25,iB),(7,some 29,mF),(10,some 30,uw),(11,some 34,qP),(9,some 40,iB),(12,some 45,nN),(13,some 48,jc),(7,some 55,mF),(8,some 56,V3),(9,some 59,iB),(13,some 63,jc)],[],[],[],[]⟩
theorem yQ:∀n (c:Cont (kin bN)),fQ T qC Tryz.f3 bN qm n c=jM.F n c:=by intro n c; kernel_rfl
theorem zb [Fr] (n:Nat):ak Tryz.prog n jM:=aj mixed aI Tryz.func3 (by kernel_rfl) (hi:=qC) (aa (LP n) (aa (uZ n) (aa (am8 n) (aa (uZ n) (aa (ad1 n) (aa (qD n) (aa (uZ n) (aa (Er n) (aa (BN n) (aa (qD n) (aa (CK n) (aa (uY n) (aa (uZ n) (aa (ad1 n) (aa (qD n) (aa (uY n) aA)))))))))))))))) yQ
end Go.Proofs.YtdknpknohipffaaGreat.Uf

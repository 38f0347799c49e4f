/- What the functions of this law compute, as plain functions, and that the reading comes to them. No condition. -/
import Derived.Test.YtdknpknohipffaaGreatProg
import Derived.Test.YtdknpknohipffaaGreatOwF
import Derived.Test.YtdknpknohipffaaGreatCutLib
import Derived.Test.YtdknpknohipffaaGreatGrowLib
import Derived.Test.YtdknpknohipffaaGreatPartLib
import Derived.Test.YtdknpknohipffaaGreatPurgeLib
import Derived.Test.YtdknpknohipffaaGreatTakeLib
import Derived.KernelRfl
set_option linter.unusedSectionVars false
set_option linter.unusedVariables false
set_option linter.unusedSimpArgs false
namespace Go.Proofs.YtdknpknohipffaaGreat.RG
open Go Go.Proofs.YtdknpknohipffaaGreat Go.Proofs.YtdknpknohipffaaGreat.Ow
abbrev Zk0:K:=(.st (.pair .str (.pair (.int .u64) .unit)))
abbrev Zt0:Type:=(List Int)×Int×Unit
abbrev Xu:K:=(.st (.pair (.sl 5 (.int .u8)) (.pair .bool .unit)))
abbrev Zt1:Type:=(List Int)×Bool×Unit
abbrev Xv:K:=(.st (.pair (.sl 5 (.int .u8)) (.pair (.int .i64) (.pair .bool .unit))))
abbrev Zt2:Type:=(List Int)×Int×Bool×Unit
abbrev Zk3:K:=(.st (.pair .str (.pair (.int .i64) (.pair (.int .i64) (.pair (.id 162) .unit)))))
abbrev Zt3:Type:=(List Int)×Int×Int×Nat×Unit
abbrev Zk4:K:=(.st (.pair (.int .i64) (.pair (.int .i64) (.pair .bool (.pair (.int .u8) .unit)))))
abbrev Ov:K:=(.st (.pair (.int .i64) (.pair (.int .i64) (.pair (.int .i64) (.pair (.id 5) .unit)))))
abbrev Qr:Type:=Int×Int×Int×Nat×Unit
abbrev zV:K:=(.st (.pair .str (.pair (.int .i64) (.pair (.sl 2 (.int .i64)) (.pair (.int .i64) .unit)))))
abbrev GX:Type:=(List Int)×Int×Zt0
abbrev BP:K:=(.st (.pair (.int .i64) (.pair (.int .i64) (.pair (.int .i64) (.pair (.sl 5 (.int .u8)) .unit)))))
abbrev tL:Type:=Int×Int×Int×(List Int)×Unit
abbrev Zk8:K:=(.st (.pair (.int .i64) (.pair (.sl 147 Zk3) .unit)))
abbrev Zt8:Type:=Int×(List (Zt3))×Unit
abbrev Zk9:K:=(.st (.pair .str (.pair (.int .i64) (.pair (.int .i64) (.pair (.sl 203 Ov) .unit)))))
abbrev Zt9:Type:=(List Int)×Int×Int×(List (Qr))×Unit
abbrev KP:K:=(.st (.pair .str (.pair (.int .i64) (.pair (.int .i64) (.pair (.sl 162 Ov) .unit)))))
abbrev kg:K:=(.st (.pair (.int .i64) (.pair .str (.pair .str (.pair (.sl 2 (.int .i64)) (.pair (.int .i64) (.pair (.int .i64) (.pair (.int .i64) (.pair (.sl 5 (.int .u8)) .unit)))))))))
abbrev iI:Type:=Int×(List Int)×(List Int)×(List Int)×tL
abbrev Mg:K:=(.st (.pair .str (.pair (.int .i64) (.pair (.int .i64) (.pair (.sl 203 BP) .unit)))))
abbrev dQ:Type:=(List Int)×Int×Int×(List (tL))×Unit
abbrev oJ:K:=(.st (.pair .str (.pair (.int .i64) (.pair (.int .i64) (.pair (.sl 162 BP) .unit)))))
abbrev ajL:K:=(.st (.pair (.int .i64) (.pair (.sl 2 (.int .i64)) (.pair Zk8 .unit))))
abbrev UB:K:=(.st (.pair (.int .i64) (.pair (.sl 142 Zk9) .unit)))
abbrev R9:K:=(.st (.pair (.int .i64) (.pair (.sl 147 KP) .unit)))
abbrev acR:K:=(.st (.pair .bool (.pair (.sl 5 (.int .u8)) (.pair (.sl 5 (.int .u8)) (.pair Zk8 .unit)))))
abbrev UC:K:=(.st (.pair (.int .i64) (.pair (.sl 142 Mg) .unit)))
abbrev fO:Type:=Int×(List (dQ))×Unit
abbrev rU:K:=(.st (.pair (.int .i64) (.pair (.sl 147 oJ) .unit)))
abbrev Mh:K:=(.st (.pair (.int .i64) (.pair (.int .i64) (.pair kg .unit))))
abbrev anU:Type:=Int×Int×(iI)×Unit
abbrev Xw:K:=(.st (.pair (.int .i64) (.pair (.sl 2 (.int .i64)) (.pair R9 .unit))))
abbrev ajM:K:=(.st (.pair (.int .i64) (.pair (.sl 2 (.int .i64)) (.pair acR .unit))))
abbrev Qo:K:=(.st (.pair (.int .i64) (.pair (.sl 2 (.int .i64)) (.pair rU .unit))))
abbrev JB:Type:=Int×(List Int)×(fO)×Unit
abbrev UD:K:=(.st (.pair .bool (.pair (.sl 5 (.int .u8)) (.pair (.sl 5 (.int .u8)) (.pair UB .unit)))))
abbrev Sa:K:=(.st (.pair .bool (.pair (.sl 5 (.int .u8)) (.pair (.sl 5 (.int .u8)) (.pair R9 .unit)))))
abbrev UE:K:=(.st (.pair .bool (.pair (.sl 5 (.int .u8)) (.pair (.sl 5 (.int .u8)) (.pair UC .unit)))))
abbrev CR:Type:=Bool×(List Int)×(List Int)×(fO)×Unit
abbrev EA:K:=(.st (.pair .bool (.pair (.sl 5 (.int .u8)) (.pair (.sl 5 (.int .u8)) (.pair rU .unit)))))
abbrev afU:K:=(.st (.pair acR (.pair (.sl 74 zV) .unit)))
abbrev Xx:K:=(.st (.pair (.int .i64) (.pair (.sl 2 (.int .i64)) (.pair Sa .unit))))
abbrev ZL:K:=(.st (.pair (.int .i64) (.pair (.sl 2 (.int .i64)) (.pair EA .unit))))
abbrev afW:Type:=Int×(List Int)×(CR)×Unit
abbrev ajO:K:=(.st (.pair (.int .i64) (.pair (.sl 9 .str) (.pair afU .unit))))
abbrev Xy:K:=(.st (.pair UD (.pair (.sl 79 zV) .unit)))
abbrev UF:K:=(.st (.pair Sa (.pair (.sl 74 zV) .unit)))
abbrev UG:K:=(.st (.pair UE (.pair (.sl 79 zV) .unit)))
abbrev D9:Type:=(CR)×(List (GX))×Unit
abbrev KQ:K:=(.st (.pair EA (.pair (.sl 74 zV) .unit)))
abbrev Xz:K:=(.st (.pair (.int .i64) (.pair (.sl 9 .str) (.pair UF .unit))))
abbrev Qp:K:=(.st (.pair (.int .i64) (.pair (.sl 9 .str) (.pair KQ .unit))))
abbrev Qq:Type:=Int×(List (List Int))×(D9)×Unit
abbrev Ie:iI:=((0:Int),([]:List Int),([]:List Int),([]:List Int),(0:Int),(0:Int),(0:Int),([]:List Int),())
abbrev acS:D9:=((false,([]:List Int),([]:List Int),((0:Int),([]:List dQ),()),()),([]:List GX),())
abbrev afY:CR:=(false,([]:List Int),([]:List Int),((0:Int),([]:List dQ),()),())
abbrev afX:JB:=((0:Int),([]:List Int),((0:Int),([]:List dQ),()),())
abbrev Ed:GX:=(([]:List Int),(0:Int),([]:List Int),(0:Int),())
abbrev dH:dQ:=(([]:List Int),(0:Int),(0:Int),([]:List tL),())
abbrev lD:tL:=((0:Int),(0:Int),(0:Int),([]:List Int),())
abbrev Qs:Qr:=((0:Int),(0:Int),(0:Int),(0:Nat),())
abbrev Ox:fO:=((0:Int),([]:List dQ),())
def tyL:Y1:={ ty:=[(2,(.int .i64)),(3,(.int .i64)),(4, .bool),(5,(.int .u8)),(6,(.int .u8)),(7,Zk4),(8,Zk4),(9, .str),(10, .str),(11, .str),(12,(.int .u64)),(13,Zk0),(14,Zk0),(21,(.int .i32)),(22,(.sl 5 (.int .u8))),(23,(.sl 142 Mg)),(24,UC),(25,UC),(26,UE),(27,UE),(28,(.sl 79 zV)),(29,UG),(30,UG),(32,(.sl 9 .str)),(33,(.sl 147 oJ)),(34,rU),(35,rU),(36,EA),(37,EA),(38,(.sl 74 zV)),(39,KQ),(40,KQ),(41,Qp),(42,Qp),(57,(.sl 2 (.int .i64))),(58,ZL),(59,ZL),(73,zV),(74,zV),(79,zV),(85,(.sl 121 kg)),(88,Qo),(89,Qo),(120,kg),(121,kg),(122,Mh),(123,Mh),(137,(.sl 22 (.sl 5 (.int .u8)))),(140,(.sl 203 BP)),(141,Mg),(142,Mg),(145,(.sl 162 BP)),(146,oJ),(147,oJ),(161,BP),(162,BP),(166,Xu),(167,Xu),(179,Xv),(180,Xv),(203,BP),(219,(.int .u32)),(220,(.int .u8)),(221,(.int .u8)),(224,(.int .i32)),(225,(.int .i32))],bytes:=[(2,8),(3,8),(4,1),(5,1),(6,1),(7,24),(8,24),(9,16),(10,16),(11,16),(12,8),(13,24),(14,24),(21,4),(22,24),(23,24),(24,32),(25,32),(26,88),(27,88),(28,24),(29,112),(30,112),(32,24),(33,24),(34,32),(35,32),(36,88),(37,88),(38,24),(39,112),(40,112),(41,144),(42,144),(57,24),(58,120),(59,120),(73,56),(74,56),(79,56),(85,24),(88,64),(89,64),(120,112),(121,112),(122,128),(123,128),(137,24),(140,24),(141,56),(142,56),(145,24),(146,56),(147,56),(161,48),(162,48),(166,32),(167,32),(179,40),(180,40),(203,48),(219,4),(220,1),(221,1),(224,4),(225,4)],ptr:=[15,16,17,55,81,83,116,144,151,165,177,182,223] }
def T:jv:=tyL.tab
theorem aI:Fj Tryz.prog tyL=true:=by kernel_rfl
theorem mixed:Tryz.prog.follows .mixedOrders=true:=by kernel_rfl
def mP (n:Nat) (a0:List Int) (a1:Int):Option (Int×Unit):=(if decide ((IntKind.i64.wrap (a1 - (a0.length:Int)))<(0:Int))=true then some ((-1:Int),()) else some (IntKind.i64.wrap (a1 - (a0.length:Int)),()))
def sS:List dh:=[.val (.sl 5 (.int .u8)) [], .val (.int .i64) []]
def DV:List jF:=[.val (.int .i64) [] []]
def qo:Entry:=⟨38,sS,DV,fun n (c:Cont (kin sS))=>mP n c.1 c.2.1⟩
def Em:Hint:=⟨0,[],[],[],[],[],[],[],[]⟩
theorem Lv:∀n (c:Cont (kin sS)),fU T Em Tryz.f38 sS DV n c=qo.F n c:=by intro n c; kernel_rfl
theorem zb [Fr] (n:Nat):ak Tryz.prog n qo:=aj mixed aI Tryz.func38 (by kernel_rfl) (hi:=Em) aA Lv
def mQ (n:Nat) (a0:tL) (a1:Int):Option (Int×Unit):=((mP n a0.2.2.2.1 a1).bind fun r1=>(if decide (r1.1<(0:Int))=true then some ((-1:Int),()) else some (r1.1,())))
def qh:List dh:=[.val BP [], .val (.int .i64) []]
def AO:List jF:=[.val (.int .i64) [] []]
def vT:Entry:=⟨169,qh,AO,fun n (c:Cont (kin qh))=>mQ n c.1 c.2.1⟩
def BJ:Hint:=⟨0,[],[],[],[(38,some 8,qo)],[],[],[],[]⟩
theorem Jf:∀n (c:Cont (kin qh)),fU T BJ Tryz.f169 qh AO n c=vT.F n c:=by intro n c; kernel_rfl
theorem Js [Fr] (n:Nat):ak Tryz.prog n vT:=aj mixed aI Tryz.func169 (by kernel_rfl) (hi:=BJ) (aa (zb n) aA) Jf
def pq (n:Nat) (a0:List tL) (a1:Int):Option (Int×Unit):=(if decide ((IntKind.i64.wrap (a1 - (a0.length:Int)))<(0:Int))=true then some ((-1:Int),()) else (rounds (fun L1 (v1:(List tL)×Int×Int×Unit)=>(if decide (v1.2.2.1<(v1.1.length:Int))=true then (if aH v1.2.2.1 v1.1.length then ((mQ n (v1.1.getD v1.2.2.1.toNat lD) v1.2.1).bind fun r2=>(if decide (r2.1<(0:Int))=true then some ((-1:Int),()) else L1 (v1.1,r2.1,IntKind.i64.wrap (v1.2.2.1+(1:Int)),()))) else none) else some (v1.2.1,()))) n (a0,IntKind.i64.wrap (a1 - (a0.length:Int)),(0:Int),())))
def oh:List dh:=[.val (.sl 203 BP) [], .val (.int .i64) []]
def zL:List jF:=[.val (.int .i64) [] []]
def uz:Entry:=⟨133,oh,zL,fun n (c:Cont (kin oh))=>pq n c.1 c.2.1⟩
def Ae:Hint:=⟨0,[],[(0,[0,1,5],[])],[],[(169,some 23,vT)],[],[],[],[]⟩
theorem Hg:∀n (c:Cont (kin oh)),fU T Ae Tryz.f133 oh zL n c=uz.F n c:=by intro n c; kernel_rfl
theorem H6 [Fr] (n:Nat):ak Tryz.prog n uz:=aj mixed aI Tryz.func133 (by kernel_rfl) (hi:=Ae) (aa (Js n) aA) Hg
def uH (n:Nat) (a0:dQ) (a1:Int):Option (Int×Unit):=(if decide ((IntKind.i64.wrap (a1 - (a0.1.length:Int)))<(0:Int))=true then some ((-1:Int),()) else ((pq n a0.2.2.2.1 (IntKind.i64.wrap (a1 - (a0.1.length:Int)))).bind fun r1=>(if decide (r1.1<(0:Int))=true then some ((-1:Int),()) else some (r1.1,()))))
def xm:List dh:=[.val Mg [], .val (.int .i64) []]
def Gd:List jF:=[.val (.int .i64) [] []]
def CF:Entry:=⟨107,xm,Gd,fun n (c:Cont (kin xm))=>uH n c.1 c.2.1⟩
def Hw:Hint:=⟨0,[],[],[],[(133,some 15,uz)],[],[],[],[]⟩
theorem Qe:∀n (c:Cont (kin xm)),fU T Hw Tryz.f107 xm Gd n c=CF.F n c:=by intro n c; kernel_rfl
theorem Qi [Fr] (n:Nat):ak Tryz.prog n CF:=aj mixed aI Tryz.func107 (by kernel_rfl) (hi:=Hw) (aa (H6 n) aA) Qe
def wR (n:Nat) (a0:List dQ) (a1:Int):Option (Int×Unit):=(if decide ((IntKind.i64.wrap (a1 - (a0.length:Int)))<(0:Int))=true then some ((-1:Int),()) else (rounds (fun L1 (v1:(List dQ)×Int×Int×Unit)=>(if decide (v1.2.2.1<(v1.1.length:Int))=true then (if aH v1.2.2.1 v1.1.length then ((uH n (v1.1.getD v1.2.2.1.toNat dH) v1.2.1).bind fun r2=>(if decide (r2.1<(0:Int))=true then some ((-1:Int),()) else L1 (v1.1,r2.1,IntKind.i64.wrap (v1.2.2.1+(1:Int)),()))) else none) else some (v1.2.1,()))) n (a0,IntKind.i64.wrap (a1 - (a0.length:Int)),(0:Int),())))
def vB:List dh:=[.val (.sl 142 Mg) [], .val (.int .i64) []]
def E5:List jF:=[.val (.int .i64) [] []]
def Ba:Entry:=⟨78,vB,E5,fun n (c:Cont (kin vB))=>wR n c.1 c.2.1⟩
def F5:Hint:=⟨0,[],[(0,[0,1,5],[])],[],[(107,some 23,CF)],[],[],[],[]⟩
theorem Oi:∀n (c:Cont (kin vB)),fU T F5 Tryz.f78 vB E5 n c=Ba.F n c:=by intro n c; kernel_rfl
theorem Oo [Fr] (n:Nat):ak Tryz.prog n Ba:=aj mixed aI Tryz.func78 (by kernel_rfl) (hi:=F5) (aa (Qi n) aA) Oi
def y5 (n:Nat) (a0:fO) (a1:Int):Option (Int×Unit):=((wR n a0.2.1 a1).bind fun r1=>(if decide (r1.1<(0:Int))=true then some ((-1:Int),()) else some (r1.1,())))
def sU:List dh:=[.val UC [], .val (.int .i64) []]
def DW:List jF:=[.val (.int .i64) [] []]
def yT:Entry:=⟨39,sU,DW,fun n (c:Cont (kin sU))=>y5 n c.1 c.2.1⟩
def En:Hint:=⟨0,[],[],[],[(78,some 8,Ba)],[],[],[],[]⟩
theorem Lx:∀n (c:Cont (kin sU)),fU T En Tryz.f39 sU DW n c=yT.F n c:=by intro n c; kernel_rfl
theorem LP [Fr] (n:Nat):ak Tryz.prog n yT:=aj mixed aI Tryz.func39 (by kernel_rfl) (hi:=En) (aa (Oo n) aA) Lx
def uJ (n:Nat) (a0:CR) (a1:Int):Option (Int×Unit):=((mP n a0.2.1 a1).bind fun r1=>(if decide (r1.1<(0:Int))=true then some ((-1:Int),()) else ((mP n a0.2.2.1 r1.1).bind fun r2=>(if decide (r2.1<(0:Int))=true then some ((-1:Int),()) else ((y5 n a0.2.2.2.1 r2.1).bind fun r3=>(if decide (r3.1<(0:Int))=true then some ((-1:Int),()) else some (r3.1,())))))))
def sV:List dh:=[.val UE [], .val (.int .i64) []]
def DX:List jF:=[.val (.int .i64) [] []]
def yU:Entry:=⟨16,sV,DX,fun n (c:Cont (kin sV))=>uJ n c.1 c.2.1⟩
def Eo:Hint:=⟨0,[],[],[],[(38,some 8,qo),(38,some 14,qo),(39,some 20,yT)],[],[],[],[]⟩
theorem LA:∀n (c:Cont (kin sV)),fU T Eo Tryz.f16 sV DX n c=yU.F n c:=by intro n c; kernel_rfl
theorem LQ [Fr] (n:Nat):ak Tryz.prog n yU:=aj mixed aI Tryz.func16 (by kernel_rfl) (hi:=Eo) (aa (zb n) (aa (zb n) (aa (LP n) aA))) LA
def xV (n:Nat) (a0:List Int) (a1:Int):Option (Int×Unit):=(if decide ((IntKind.i64.wrap (a1 - (a0.length:Int)))<(0:Int))=true then some ((-1:Int),()) else some (IntKind.i64.wrap (a1 - (a0.length:Int)),()))
def rG:List dh:=[.val (.sl 2 (.int .i64)) [], .val (.int .i64) []]
def Cr:List jF:=[.val (.int .i64) [] []]
def xS:Entry:=⟨79,rG,Cr,fun n (c:Cont (kin rG))=>xV n c.1 c.2.1⟩
def DC:Hint:=⟨0,[],[],[],[],[],[],[],[]⟩
theorem KE:∀n (c:Cont (kin rG)),fU T DC Tryz.f79 rG Cr n c=xS.F n c:=by intro n c; kernel_rfl
theorem KM [Fr] (n:Nat):ak Tryz.prog n xS:=aj mixed aI Tryz.func79 (by kernel_rfl) (hi:=DC) aA KE
def mR (n:Nat) (a0:GX) (a1:Int):Option (Int×Unit):=(if decide ((IntKind.i64.wrap (a1 - (a0.1.length:Int)))<(0:Int))=true then some ((-1:Int),()) else ((xV n a0.2.2.1 (IntKind.i64.wrap (a1 - (a0.1.length:Int)))).bind fun r1=>(if decide (r1.1<(0:Int))=true then some ((-1:Int),()) else some (r1.1,()))))
def qi:List dh:=[.val zV [], .val (.int .i64) []]
def AP:List jF:=[.val (.int .i64) [] []]
def vU:Entry:=⟨40,qi,AP,fun n (c:Cont (kin qi))=>mR n c.1 c.2.1⟩
def BK:Hint:=⟨0,[],[],[],[(79,some 15,xS)],[],[],[],[]⟩
theorem Jg:∀n (c:Cont (kin qi)),fU T BK Tryz.f40 qi AP n c=vU.F n c:=by intro n c; kernel_rfl
theorem Jt [Fr] (n:Nat):ak Tryz.prog n vU:=aj mixed aI Tryz.func40 (by kernel_rfl) (hi:=BK) (aa (KM n) aA) Jg
def uI (n:Nat) (a0:List GX) (a1:Int):Option (Int×Unit):=(if decide ((IntKind.i64.wrap (a1 - (a0.length:Int)))<(0:Int))=true then some ((-1:Int),()) else (rounds (fun L1 (v1:(List GX)×Int×Int×Unit)=>(if decide (v1.2.2.1<(v1.1.length:Int))=true then (if aH v1.2.2.1 v1.1.length then ((mR n (v1.1.getD v1.2.2.1.toNat Ed) v1.2.1).bind fun r2=>(if decide (r2.1<(0:Int))=true then some ((-1:Int),()) else L1 (v1.1,r2.1,IntKind.i64.wrap (v1.2.2.1+(1:Int)),()))) else none) else some (v1.2.1,()))) n (a0,IntKind.i64.wrap (a1 - (a0.length:Int)),(0:Int),())))
def om:List dh:=[.val (.sl 79 zV) [], .val (.int .i64) []]
def zM:List jF:=[.val (.int .i64) [] []]
def uA:Entry:=⟨17,om,zM,fun n (c:Cont (kin om))=>uI n c.1 c.2.1⟩
def Af:Hint:=⟨0,[],[(0,[0,1,5],[])],[],[(40,some 23,vU)],[],[],[],[]⟩
theorem Ho:∀n (c:Cont (kin om)),fU T Af Tryz.f17 om zM n c=uA.F n c:=by intro n c; kernel_rfl
theorem H7 [Fr] (n:Nat):ak Tryz.prog n uA:=aj mixed aI Tryz.func17 (by kernel_rfl) (hi:=Af) (aa (Jt n) aA) Ho
def uK (n:Nat) (a0:D9) (a1:Int):Option (Int×Unit):=((uJ n a0.1 a1).bind fun r1=>(if decide (r1.1<(0:Int))=true then some ((-1:Int),()) else ((uI n a0.2.1 r1.1).bind fun r2=>(if decide (r2.1<(0:Int))=true then some ((-1:Int),()) else some (r2.1,())))))
def sW:List dh:=[.val UG [], .val (.int .i64) []]
def DY:List jF:=[.val (.int .i64) [] []]
def yV:Entry:=⟨5,sW,DY,fun n (c:Cont (kin sW))=>uK n c.1 c.2.1⟩
def Ep:Hint:=⟨0,[],[],[],[(16,some 8,yU),(17,some 14,uA)],[],[],[],[]⟩
theorem LB:∀n (c:Cont (kin sW)),fU T Ep Tryz.f5 sW DY n c=yV.F n c:=by intro n c; kernel_rfl
theorem LU [Fr] (n:Nat):ak Tryz.prog n yV:=aj mixed aI Tryz.func5 (by kernel_rfl) (hi:=Ep) (aa (LQ n) (aa (H7 n) aA)) LB
def mU (n:Nat) (a0:List Int):Option ((List Int)×Unit):=(if (a0.length:Int)=(a0.length:Int)∧0≤(a0.length:Int)∧(a0.length:Int) * 1≤140737488355328 then (rounds (fun L1 (v1:(List Int)×Int×(List Int)×Unit)=>(if decide (v1.2.1<(v1.1.length:Int))=true then (if aH v1.2.1 v1.1.length then (if aH v1.2.1 v1.2.2.1.length then L1 (v1.1,IntKind.i64.wrap (v1.2.1+(1:Int)),v1.2.2.1.set v1.2.1.toNat (v1.1.getD v1.2.1.toNat (0:Int)),()) else none) else none) else some (v1.2.2.1,()))) n (a0,(0:Int),List.replicate (a0.length:Int).toNat (0:Int),())) else none)
def sZ:List dh:=[.val (.sl 5 (.int .u8)) []]
def DZ:List jF:=[.own (.sl 5 (.int .u8)) [5] [] []]
def qp:Entry:=⟨49,sZ,DZ,fun n (c:Cont (kin sZ))=>mU n c.1⟩
def Er:Hint:=⟨0,[],[(0,[0,3,4],[226])],[],[],[],[],[],[]⟩
theorem LC:∀n (c:Cont (kin sZ)),fU T Er Tryz.f49 sZ DZ n c=qp.F n c:=by intro n c; kernel_rfl
theorem ze [Fr] (n:Nat):ak Tryz.prog n qp:=aj mixed aI Tryz.func49 (by kernel_rfl) (hi:=Er) aA LC
def mY (n:Nat) (a0:tL):Option (tL×Unit):=((mU n a0.2.2.2.1).bind fun r1=>some ((a0.1,a0.2.1,a0.2.2.1,r1.1,()),()))
def qj:List dh:=[.val BP []]
def AQ:List jF:=[.own BP [5] [] []]
def vV:Entry:=⟨172,qj,AQ,fun n (c:Cont (kin qj))=>mY n c.1⟩
def BL:Hint:=⟨0,[17],[],[],[(49,some 15,qp)],[],[],[],[]⟩
theorem Jh:∀n (c:Cont (kin qj)),fU T BL Tryz.f172 qj AQ n c=vV.F n c:=by intro n c; kernel_rfl
theorem Ju [Fr] (n:Nat):ak Tryz.prog n vV:=aj mixed aI Tryz.func172 (by kernel_rfl) (hi:=BL) (aa (ze n) aA) Jh
def pz (n:Nat) (a0:List tL):Option ((List tL)×Unit):=(if (a0.length:Int)=(a0.length:Int)∧0≤(a0.length:Int)∧(a0.length:Int) * 48≤140737488355328 then (rounds (fun L1 (v1:(List tL)×Int×(List tL)×Unit)=>(if decide (v1.2.1<(v1.1.length:Int))=true then (if aH v1.2.1 v1.1.length then ((mY n (v1.1.getD v1.2.1.toNat lD)).bind fun r2=>(if aH v1.2.1 v1.2.2.1.length then L1 (v1.1,IntKind.i64.wrap (v1.2.1+(1:Int)),v1.2.2.1.set v1.2.1.toNat r2.1,()) else none)) else none) else some (v1.2.2.1,()))) n (a0,(0:Int),List.replicate (a0.length:Int).toNat lD,())) else none)
def oo:List dh:=[.val (.sl 203 BP) []]
def zN:List jF:=[.own (.sl 162 BP) [5,162] [] []]
def uB:Entry:=⟨150,oo,zN,fun n (c:Cont (kin oo))=>pz n c.1⟩
def Ag:Hint:=⟨0,[],[(0,[0,3,4],[226])],[],[(172,some 20,vV)],[],[],[],[]⟩
theorem Hq:∀n (c:Cont (kin oo)),fU T Ag Tryz.f150 oo zN n c=uB.F n c:=by intro n c; kernel_rfl
theorem H8 [Fr] (n:Nat):ak Tryz.prog n uB:=aj mixed aI Tryz.func150 (by kernel_rfl) (hi:=Ag) (aa (Ju n) aA) Hq
def uL (n:Nat) (a0:dQ):Option (dQ×Unit):=((pz n a0.2.2.2.1).bind fun r1=>some ((a0.1,a0.2.1,a0.2.2.1,r1.1,()),()))
def xq:List dh:=[.val Mg []]
def Gf:List jF:=[.own oJ [5,162] [] []]
def CG:Entry:=⟨115,xq,Gf,fun n (c:Cont (kin xq))=>uL n c.1⟩
def Hy:Hint:=⟨0,[17],[],[],[(150,some 15,uB)],[],[],[],[]⟩
theorem Qf:∀n (c:Cont (kin xq)),fU T Hy Tryz.f115 xq Gf n c=CG.F n c:=by intro n c; kernel_rfl
theorem Qj [Fr] (n:Nat):ak Tryz.prog n CG:=aj mixed aI Tryz.func115 (by kernel_rfl) (hi:=Hy) (aa (H8 n) aA) Qf
def wS (n:Nat) (a0:List dQ):Option ((List dQ)×Unit):=(if (a0.length:Int)=(a0.length:Int)∧0≤(a0.length:Int)∧(a0.length:Int) * 56≤140737488355328 then (rounds (fun L1 (v1:(List dQ)×fO)=>(if decide (v1.2.1<(v1.1.length:Int))=true then (if aH v1.2.1 v1.1.length then ((uL n (v1.1.getD v1.2.1.toNat dH)).bind fun r2=>(if aH v1.2.1 v1.2.2.1.length then L1 (v1.1,IntKind.i64.wrap (v1.2.1+(1:Int)),v1.2.2.1.set v1.2.1.toNat r2.1,()) else none)) else none) else some (v1.2.2.1,()))) n (a0,(0:Int),List.replicate (a0.length:Int).toNat dH,())) else none)
def vC:List dh:=[.val (.sl 142 Mg) []]
def E8:List jF:=[.own (.sl 147 oJ) [5,147,162] [] []]
def Bb:Entry:=⟨90,vC,E8,fun n (c:Cont (kin vC))=>wS n c.1⟩
def F6:Hint:=⟨0,[],[(0,[0,3,4],[226])],[],[(115,some 20,CG)],[],[],[],[]⟩
theorem Oj:∀n (c:Cont (kin vC)),fU T F6 Tryz.f90 vC E8 n c=Bb.F n c:=by intro n c; kernel_rfl
theorem Oq [Fr] (n:Nat):ak Tryz.prog n Bb:=aj mixed aI Tryz.func90 (by kernel_rfl) (hi:=F6) (aa (Qj n) aA) Oj
def uN (n:Nat) (a0:fO):Option (fO×Unit):=((wS n a0.2.1).bind fun r1=>some ((a0.1,r1.1,()),()))
def tq:List dh:=[.val UC []]
def D5:List jF:=[.own rU [5,147,162] [] []]
def yX:Entry:=⟨50,tq,D5,fun n (c:Cont (kin tq))=>uN n c.1⟩
def Es:Hint:=⟨0,[11],[],[],[(90,some 9,Bb)],[],[],[],[]⟩
theorem LD:∀n (c:Cont (kin tq)),fU T Es Tryz.f50 tq D5 n c=yX.F n c:=by intro n c; kernel_rfl
theorem LX [Fr] (n:Nat):ak Tryz.prog n yX:=aj mixed aI Tryz.func50 (by kernel_rfl) (hi:=Es) (aa (Oq n) aA) LD
def uO (n:Nat) (a0:CR):Option (CR×Unit):=((mU n a0.2.1).bind fun r1=>((mU n a0.2.2.1).bind fun r2=>((uN n a0.2.2.2.1).bind fun r3=>some ((a0.1,r1.1,r2.1,r3.1,()),()))))
def tu:List dh:=[.val UE []]
def D6:List jF:=[.own EA [5,147,162] [] []]
def yY:Entry:=⟨22,tu,D6,fun n (c:Cont (kin tu))=>uO n c.1⟩
def Et:Hint:=⟨0,[19],[],[],[(49,some 9,qp),(49,some 13,qp),(50,some 17,yX)],[],[],[],[]⟩
theorem LF:∀n (c:Cont (kin tu)),fU T Et Tryz.f22 tu D6 n c=yY.F n c:=by intro n c; kernel_rfl
theorem LY [Fr] (n:Nat):ak Tryz.prog n yY:=aj mixed aI Tryz.func22 (by kernel_rfl) (hi:=Et) (aa (ze n) (aa (ze n) (aa (LX n) aA))) LF
def sI (n:Nat) (a0:List Int):Option ((List Int)×Unit):=(if (a0.length:Int)=(a0.length:Int)∧0≤(a0.length:Int)∧(a0.length:Int) * 8≤140737488355328 then (rounds (fun L1 (v1:(List Int)×Int×(List Int)×Unit)=>(if decide (v1.2.1<(v1.1.length:Int))=true then (if aH v1.2.1 v1.1.length then (if aH v1.2.1 v1.2.2.1.length then L1 (v1.1,IntKind.i64.wrap (v1.2.1+(1:Int)),v1.2.2.1.set v1.2.1.toNat (v1.1.getD v1.2.1.toNat (0:Int)),()) else none) else none) else some (v1.2.2.1,()))) n (a0,(0:Int),List.replicate (a0.length:Int).toNat (0:Int),())) else none)
def rH:List dh:=[.val (.sl 2 (.int .i64)) []]
def Cs:List jF:=[.own (.sl 2 (.int .i64)) [2] [] []]
def xU:Entry:=⟨91,rH,Cs,fun n (c:Cont (kin rH))=>sI n c.1⟩
def DD:Hint:=⟨0,[],[(0,[0,3,4],[226])],[],[],[],[],[],[]⟩
theorem KF:∀n (c:Cont (kin rH)),fU T DD Tryz.f91 rH Cs n c=xU.F n c:=by intro n c; kernel_rfl
theorem KN [Fr] (n:Nat):ak Tryz.prog n xU:=aj mixed aI Tryz.func91 (by kernel_rfl) (hi:=DD) aA KF
def qX (n:Nat) (a0:GX):Option (GX×Unit):=((sI n a0.2.2.1).bind fun r1=>some ((a0.1,a0.2.1,r1.1,a0.2.2.2.1,()),()))
def ql:List dh:=[.val zV []]
def AR:List jF:=[.own zV [2] [] []]
def vW:Entry:=⟨51,ql,AR,fun n (c:Cont (kin ql))=>qX n c.1⟩
def BM:Hint:=⟨0,[17],[],[],[(91,some 12,xU)],[],[],[],[]⟩
theorem Ji:∀n (c:Cont (kin ql)),fU T BM Tryz.f51 ql AR n c=vW.F n c:=by intro n c; kernel_rfl
theorem Jv [Fr] (n:Nat):ak Tryz.prog n vW:=aj mixed aI Tryz.func51 (by kernel_rfl) (hi:=BM) (aa (KN n) aA) Ji
def uM (n:Nat) (a0:List GX):Option ((List GX)×Unit):=(if (a0.length:Int)=(a0.length:Int)∧0≤(a0.length:Int)∧(a0.length:Int) * 56≤140737488355328 then (rounds (fun L1 (v1:(List GX)×Int×(List GX)×Unit)=>(if decide (v1.2.1<(v1.1.length:Int))=true then (if aH v1.2.1 v1.1.length then ((qX n (v1.1.getD v1.2.1.toNat Ed)).bind fun r2=>(if aH v1.2.1 v1.2.2.1.length then L1 (v1.1,IntKind.i64.wrap (v1.2.1+(1:Int)),v1.2.2.1.set v1.2.1.toNat r2.1,()) else none)) else none) else some (v1.2.2.1,()))) n (a0,(0:Int),List.replicate (a0.length:Int).toNat Ed,())) else none)
def oq:List dh:=[.val (.sl 79 zV) []]
def zP:List jF:=[.own (.sl 74 zV) [2,74] [] []]
def uC:Entry:=⟨23,oq,zP,fun n (c:Cont (kin oq))=>uM n c.1⟩
def Ah:Hint:=⟨0,[],[(0,[0,3,4],[226])],[],[(51,some 20,vW)],[],[],[],[]⟩
theorem Hr:∀n (c:Cont (kin oq)),fU T Ah Tryz.f23 oq zP n c=uC.F n c:=by intro n c; kernel_rfl
theorem H9 [Fr] (n:Nat):ak Tryz.prog n uC:=aj mixed aI Tryz.func23 (by kernel_rfl) (hi:=Ah) (aa (Jv n) aA) Hr
def jM (n:Nat) (a0:D9):Option (D9×Unit):=((uO n a0.1).bind fun r1=>((uM n a0.2.1).bind fun r2=>some ((r1.1,r2.1,()),())))
def tC:List dh:=[.val UG []]
def D7:List jF:=[.own KQ [2,5,74,147,162] [] []]
def mh:Entry:=⟨7,tC,D7,fun n (c:Cont (kin tC))=>jM n c.1⟩
def Eu:Hint:=⟨0,[12],[],[],[(22,some 6,yY),(23,some 10,uC)],[],[],[],[]⟩
theorem LG:∀n (c:Cont (kin tC)),fU T Eu Tryz.f7 tC D7 n c=mh.F n c:=by intro n c; kernel_rfl
theorem uY [Fr] (n:Nat):ak Tryz.prog n mh:=aj mixed aI Tryz.func7 (by kernel_rfl) (hi:=Eu) (aa (LY n) (aa (H9 n) aA)) LG
def bK (n:Nat) (a0:Int) (a1:Int) (a2:Int):Option (Bool×Unit):=(if decide (a0≥a1)=true then some (decide (a0≤a2),()) else some (false,()))
def RS:Entry:=⟨74,[.val (.int .i64) [], .val (.int .i64) [], .val (.int .i64) []],[.val .bool [] []],fun n c=>bK n c.1 c.2.1 c.2.2.1⟩
def H_0:Hint:=⟨0,[],[],[],[],[],[],[],[]⟩
theorem D_0:gN T H_0 Tryz.f74 RS:=by intro n c; kernel_rfl
theorem Uu [Fr] (n:Nat):ak Tryz.prog n RS:=aj mixed aI Tryz.func74 (by kernel_rfl) (hi:=H_0) aA D_0
def jr (n:Nat) (a0:List Int):Option (Bool×Unit):=(rounds (fun L1 (v1:Zt0)=>(if decide (v1.2.1<(v1.1.length:Int))=true then (if aH v1.2.1 v1.1.length then (if decide ((v1.1.getD v1.2.1.toNat 0)<(97:Int))=true then some (false,()) else (if aH v1.2.1 v1.1.length then (if decide ((v1.1.getD v1.2.1.toNat 0)>(122:Int))=true then some (false,()) else L1 (v1.1,IntKind.i64.wrap (v1.2.1+(1:Int)),())) else none)) else none) else ((bK n (v1.1.length:Int) (1:Int) (8:Int)).bind fun r2=>some (r2.1,())))) n (a0,(0:Int),()))
def E_1:Entry:=⟨85,[.val .str []],[.val .bool [] []],fun n c=>jr n c.1⟩
def H_1:Hint:=⟨0,[],[(0,[0,3],[])],[],[(74,some 22,RS)],[],[],[],[]⟩
theorem D_1:gN T H_1 Tryz.f85 E_1:=by intro n c; kernel_rfl
theorem K_1 [Fr] (n:Nat):ak Tryz.prog n E_1:=aj mixed aI Tryz.func85 (by kernel_rfl) (hi:=H_1) (aa (Uu n) aA) D_1
def ig (n:Nat) (a0:tL):Option (Int×Unit):=((bK n a0.1 (1:Int) (999:Int)).bind fun r1=>(if (!r1.1)=true then some ((3:Int),()) else ((bK n a0.2.1 (0:Int) (15:Int)).bind fun r2=>(if (!r2.1)=true then some ((3:Int),()) else ((bK n a0.2.2.1 (0:Int) (9999:Int)).bind fun r3=>(if (!r3.1)=true then some ((3:Int),()) else (if decide ((a0.2.2.2.1.length:Int)>(400:Int))=true then some ((2:Int),()) else some ((0:Int),()))))))))
def E_2:Entry:=⟨134,[.ro BP],[.val (.int .i64) [] []],fun n c=>ig n c.1⟩
def H_2:Hint:=⟨0,[],[],[],[(74,some 7,RS),(74,some 14,RS),(74,some 22,RS)],[],[],[],[]⟩
theorem D_2:gN T H_2 Tryz.f134 E_2:=by intro n c; kernel_rfl
theorem K_2 [Fr] (n:Nat):ak Tryz.prog n E_2:=aj mixed aI Tryz.func134 (by kernel_rfl) (hi:=H_2) (aa (Uu n) (aa (Uu n) (aa (Uu n) aA))) D_2
def nQ (n:Nat) (a0:dQ):Option (Int×Unit):=((jr n a0.1).bind fun r1=>(if (!r1.1)=true then some ((5:Int),()) else ((bK n a0.2.1 (1:Int) (999:Int)).bind fun r2=>(if (!r2.1)=true then some ((3:Int),()) else ((bK n a0.2.2.1 (1:Int) (1000:Int)).bind fun r3=>(if (!r3.1)=true then some ((3:Int),()) else (if decide ((a0.2.2.2.1.length:Int)>(6:Int))=true then some ((2:Int),()) else (rounds (fun L4 (v4:dQ×Int×Unit)=>(if decide (v4.2.1<(v4.1.2.2.2.1.length:Int))=true then (if aH v4.2.1 v4.1.2.2.2.1.length then ((ig n (v4.1.2.2.2.1.getD v4.2.1.toNat lD)).bind fun r5=>(if (!decide (r5.1=(0:Int)))=true then some (r5.1,()) else (if decide (v4.2.1>(0:Int))=true then (if aH v4.2.1 v4.1.2.2.2.1.length then (if aH (IntKind.i64.wrap (v4.2.1 - (1:Int))) v4.1.2.2.2.1.length then (if decide (((v4.1.2.2.2.1.getD v4.2.1.toNat lD).1)≤((v4.1.2.2.2.1.getD (IntKind.i64.wrap (v4.2.1 - (1:Int))).toNat lD).1))=true then some ((1:Int),()) else (if aH v4.2.1 v4.1.2.2.2.1.length then (if decide (((v4.1.2.2.2.1.getD v4.2.1.toNat lD).1)≥v4.1.2.2.1)=true then some ((1:Int),()) else L4 (v4.1,IntKind.i64.wrap (v4.2.1+(1:Int)),())) else none)) else none) else none) else (if aH v4.2.1 v4.1.2.2.2.1.length then (if decide (((v4.1.2.2.2.1.getD v4.2.1.toNat lD).1)≥v4.1.2.2.1)=true then some ((1:Int),()) else L4 (v4.1,IntKind.i64.wrap (v4.2.1+(1:Int)),())) else none)))) else none) else some ((0:Int),()))) n (a0,(0:Int),())))))))))
def E_3:Entry:=⟨108,[.ro oJ],[.val (.int .i64) [] []],fun n c=>nQ n c.1⟩
def H_3:Hint:=⟨0,[],[(0,[0,3],[])],[],[(85,some 9,E_1),(74,some 15,RS),(74,some 22,RS),(134,some 46,E_2)],[],[],[],[]⟩
theorem D_3:gN T H_3 Tryz.f108 E_3:=by intro n c; kernel_rfl
theorem K_3 [Fr] (n:Nat):ak Tryz.prog n E_3:=aj mixed aI Tryz.func108 (by kernel_rfl) (hi:=H_3) (aa (K_1 n) (aa (Uu n) (aa (Uu n) (aa (K_2 n) aA)))) D_3
def jN (n:Nat) (a0:fO):Option (Int×Unit):=((bK n a0.1 (1:Int) (1000:Int)).bind fun r1=>(if (!r1.1)=true then some ((3:Int),()) else (if decide ((a0.2.1.length:Int)>(3:Int))=true then some ((2:Int),()) else (rounds (fun L2 (v2:fO×Int×Unit)=>(if decide (v2.2.1<(v2.1.2.1.length:Int))=true then (if aH v2.2.1 v2.1.2.1.length then ((nQ n (v2.1.2.1.getD v2.2.1.toNat dH)).bind fun r3=>(if (!decide (r3.1=(0:Int)))=true then some (r3.1,()) else (if aH v2.2.1 v2.1.2.1.length then (if decide ((((v2.1.2.1.getD v2.2.1.toNat dH).2).1)≥v2.1.1)=true then some ((9:Int),()) else (rounds (fun L4 (v4:fO×Int×Int×Unit)=>(if decide (v4.2.2.1<v4.2.1)=true then (if aH v4.2.2.1 v4.1.2.1.length then (if aH v4.2.1 v4.1.2.1.length then (if decide (((v4.1.2.1.getD v4.2.2.1.toNat dH).1)=((v4.1.2.1.getD v4.2.1.toNat dH).1))=true then some ((6:Int),()) else (if aH v4.2.2.1 v4.1.2.1.length then (if aH v4.2.1 v4.1.2.1.length then (if decide ((((v4.1.2.1.getD v4.2.2.1.toNat dH).2).1)=(((v4.1.2.1.getD v4.2.1.toNat dH).2).1))=true then some ((6:Int),()) else L4 (v4.1,v4.2.1,IntKind.i64.wrap (v4.2.2.1+(1:Int)),())) else none) else none)) else none) else none) else L2 (v4.1,IntKind.i64.wrap (v4.2.1+(1:Int)),()))) n (v2.1,v2.2.1,(0:Int),()))) else none))) else none) else some ((0:Int),()))) n (a0,(0:Int),())))))
def E_4:Entry:=⟨80,[.ro rU],[.val (.int .i64) [] []],fun n c=>jN n c.1⟩
def H_4:Hint:=⟨0,[],[(0,[0,3],[]),(2,[0,3,5],[])],[],[(74,some 10,RS),(108,some 33,E_3)],[],[],[],[]⟩
theorem D_4:gN T H_4 Tryz.f80 E_4:=by intro n c; kernel_rfl
theorem K_4 [Fr] (n:Nat):ak Tryz.prog n E_4:=aj mixed aI Tryz.func80 (by kernel_rfl) (hi:=H_4) (aa (Uu n) (aa (K_3 n) aA)) D_4
def dm (n:Nat) (a0:Zt2):Option (Int×Zt2×Unit):=(if decide (a0.2.1≥(a0.1.length:Int))=true then some ((0:Int),(a0.1,a0.2.1,true,a0.2.2.2),()) else (if aH (IntKind.i64.wrap ((IntKind.i64.wrap (a0.2.1+(1:Int))) - (1:Int))) a0.1.length then some (IntKind.i64.wrap (a0.1.getD (IntKind.i64.wrap ((IntKind.i64.wrap (a0.2.1+(1:Int))) - (1:Int))).toNat (0:Int)),(a0.1,IntKind.i64.wrap (a0.2.1+(1:Int)),a0.2.2),()) else none))
def Zl:Entry:=⟨136,[.rw Xv [] [4294967295] []],[.val (.int .i64) [] []],fun n c=>dm n c.1⟩
def H_5:Hint:=⟨0,[],[],[],[],[],[],[],[]⟩
theorem D_5:gN T H_5 Tryz.f136 Zl:=by intro n c; kernel_rfl
theorem K_5 [Fr] (n:Nat):ak Tryz.prog n Zl:=aj mixed aI Tryz.func136 (by kernel_rfl) (hi:=H_5) aA D_5
def iH (n:Nat) (a0:Zt2) (a1:Int):Option ((List Int)×Zt2×Unit):=(rounds (fun L1 (v1:Int×Zt2×(List Int)×Unit)=>(if decide (v1.1>(0:Int))=true then (if (!v1.2.1.2.2.1)=true then ((dm n v1.2.1).bind fun r2=>(if (v1.2.2.1.length+[IntKind.u8.wrap r2.1].length) * 1≤140737488355328 then L1 (IntKind.i64.wrap (v1.1 - (1:Int)),r2.2.1,v1.2.2.1++[IntKind.u8.wrap r2.1],()) else none)) else some (v1.2.2.1,v1.2.1,())) else some (v1.2.2.1,v1.2.1,()))) n (a1,a0,([]:List Int),()))
def E_6:Entry:=⟨137,[.rw Xv [] [4294967295] [], .val (.int .i64) []],[.own (.sl 5 (.int .u8)) [5] [] []],fun n c=>iH n c.1 c.2.1⟩
def H_6:Hint:=⟨0,[],[(0,[0,1,5],[0,194])],[],[(136,some 20,Zl)],[],[],[],[]⟩
theorem D_6:gN T H_6 Tryz.f137 E_6:=by intro n c; kernel_rfl
theorem K_6 [Fr] (n:Nat):ak Tryz.prog n E_6:=aj mixed aI Tryz.func137 (by kernel_rfl) (hi:=H_6) (aa (K_5 n) aA) D_6
def gq (n:Nat) (a0:Zt2):Option (Int×Zt2×Unit):=((dm n a0).bind fun r1=>((dm n r1.2.1).bind fun r2=>some (IntKind.i64.wrap ((IntKind.i64.wrap (r1.1 * (256:Int)))+r2.1),r2.2.1,())))
def E_7:Entry:=⟨138,[.rw Xv [] [4294967295] []],[.val (.int .i64) [] []],fun n c=>gq n c.1⟩
def H_7:Hint:=⟨0,[],[],[],[(136,some 5,Zl),(136,some 9,Zl)],[],[],[],[]⟩
theorem D_7:gN T H_7 Tryz.f138 E_7:=by intro n c; kernel_rfl
theorem K_7 [Fr] (n:Nat):ak Tryz.prog n E_7:=aj mixed aI Tryz.func138 (by kernel_rfl) (hi:=H_7) (aa (K_5 n) (aa (K_5 n) aA)) D_7
def xg (n:Nat) (a0:List Int):Option (iI×Unit):=((dm n (a0,(2:Int),false,())).bind fun r1=>((dm n r1.2.1).bind fun r2=>((iH n r2.2.1 r2.1).bind fun r3=>((dm n r3.2.1).bind fun r4=>((iH n r4.2.1 r4.1).bind fun r5=>((dm n r5.2.1).bind fun r6=>(rounds (fun L7 (v7:Int×iI×Zt2×iI×Unit)=>(if decide (v7.1>(0:Int))=true then (if (!v7.2.2.1.2.2.1)=true then ((gq n v7.2.2.1).bind fun r8=>(if (v7.2.2.2.1.2.2.2.1.length+[r8.1].length) * 8≤140737488355328 then L7 (IntKind.i64.wrap (v7.1 - (1:Int)),v7.2.1,r8.2.1,(v7.2.2.2.1.1,v7.2.2.2.1.2.1,v7.2.2.2.1.2.2.1,v7.2.2.2.1.2.2.2.1++[r8.1],v7.2.2.2.1.2.2.2.2),()) else none)) else ((dm n v7.2.2.1).bind fun r9=>((dm n r9.2.1).bind fun Rl=>((gq n Rl.2.1).bind fun Lj=>((gq n Lj.2.1).bind fun NK=>((iH n NK.2.1 NK.1).bind fun RJ=>some ((v7.2.2.2.1.1,v7.2.2.2.1.2.1,v7.2.2.2.1.2.2.1,v7.2.2.2.1.2.2.2.1,r9.1,Rl.1,Lj.1,RJ.1,v7.2.2.2.1.2.2.2.2.2.2.2.2),()))))))) else ((dm n v7.2.2.1).bind fun r14=>((dm n r14.2.1).bind fun Xa=>((gq n Xa.2.1).bind fun r16=>((gq n r16.2.1).bind fun r17=>((iH n r17.2.1 r17.1).bind fun r18=>some ((v7.2.2.2.1.1,v7.2.2.2.1.2.1,v7.2.2.2.1.2.2.1,v7.2.2.2.1.2.2.2.1,r14.1,Xa.1,r16.1,r18.1,v7.2.2.2.1.2.2.2.2.2.2.2.2),())))))))) n (r6.1,Ie,r6.2.1,(r1.1,r3.1,r5.1,([]:List Int),(0:Int),(0:Int),(0:Int),([]:List Int),()),()))))))))
def E_8:Entry:=⟨110,[.val (.sl 5 (.int .u8)) []],[.own kg [2,5] [] []],fun n c=>xg n c.1⟩
def H_8:Hint:=⟨0,[30,45],[(0,[2,3,4,5],[66,98,130])],[],[(136,some 9,Zl),(136,some 11,Zl),(137,some 12,E_6),(136,some 15,Zl),(137,some 16,E_6),(136,some 19,Zl),(138,some 31,E_7),(136,some 35,Zl),(136,some 37,Zl),(138,some 39,E_7),(138,some 41,E_7),(137,some 43,E_6)],[],[],[],[]⟩
theorem D_8:gN T H_8 Tryz.f110 E_8:=by intro n c; kernel_rfl
theorem K_8 [Fr] (n:Nat):ak Tryz.prog n E_8:=aj mixed aI Tryz.func110 (by kernel_rfl) (hi:=H_8) (aa (K_5 n) (aa (K_5 n) (aa (K_6 n) (aa (K_5 n) (aa (K_6 n) (aa (K_5 n) (aa (K_7 n) (aa (K_5 n) (aa (K_5 n) (aa (K_7 n) (aa (K_7 n) (aa (K_6 n) aA)))))))))))) D_8
def iP (n:Nat) (a0:Int):Option (Bool×Unit):=(if decide (a0=(5:Int))=true then some (true,()) else some (decide (a0=(6:Int)),()))
def E_9:Entry:=⟨140,[.val (.int .i64) []],[.val .bool [] []],fun n c=>iP n c.1⟩
def H_9:Hint:=⟨0,[],[],[],[],[],[],[],[]⟩
theorem D_9:gN T H_9 Tryz.f140 E_9:=by intro n c; kernel_rfl
theorem K_9 [Fr] (n:Nat):ak Tryz.prog n E_9:=aj mixed aI Tryz.func140 (by kernel_rfl) (hi:=H_9) aA D_9
def wZ (n:Nat) (a0:iI):Option (Bool×Unit):=((bK n a0.1 (1:Int) (7:Int)).bind fun r1=>(if (!r1.1)=true then some (false,()) else ((iP n a0.1).bind fun r2=>(if (!r2.1)=true then (if (!decide (a0.2.2.1=([]:List Int)))=true then some (false,()) else ((iP n a0.1).bind fun r3=>(if (!r3.1)=true then (if (!decide (a0.1=(4:Int)))=true then (if decide ((a0.2.2.2.1.length:Int)>(0:Int))=true then some (false,()) else (if (!decide (a0.1=(4:Int)))=true then (if (!decide (a0.2.2.2.2.1=(0:Int)))=true then some (false,()) else (if (!decide (a0.1=(3:Int)))=true then (if (!decide (a0.2.2.2.2.2.2.1=(0:Int)))=true then some (false,()) else (if decide ((a0.2.2.2.2.2.2.2.1.length:Int)>(0:Int))=true then some (false,()) else (if decide (a0.1=(3:Int))=true then some (true,()) else (if decide (a0.1=(4:Int))=true then some (true,()) else some (decide (a0.2.2.2.2.2.1=(0:Int)),()))))) else (if decide (a0.1=(3:Int))=true then some (true,()) else (if decide (a0.1=(4:Int))=true then some (true,()) else some (decide (a0.2.2.2.2.2.1=(0:Int)),()))))) else (if (!decide (a0.1=(3:Int)))=true then (if (!decide (a0.2.2.2.2.2.2.1=(0:Int)))=true then some (false,()) else (if decide ((a0.2.2.2.2.2.2.2.1.length:Int)>(0:Int))=true then some (false,()) else (if decide (a0.1=(3:Int))=true then some (true,()) else (if decide (a0.1=(4:Int))=true then some (true,()) else some (decide (a0.2.2.2.2.2.1=(0:Int)),()))))) else (if decide (a0.1=(3:Int))=true then some (true,()) else (if decide (a0.1=(4:Int))=true then some (true,()) else some (decide (a0.2.2.2.2.2.1=(0:Int)),())))))) else (if (!decide (a0.1=(4:Int)))=true then (if (!decide (a0.2.2.2.2.1=(0:Int)))=true then some (false,()) else (if (!decide (a0.1=(3:Int)))=true then (if (!decide (a0.2.2.2.2.2.2.1=(0:Int)))=true then some (false,()) else (if decide ((a0.2.2.2.2.2.2.2.1.length:Int)>(0:Int))=true then some (false,()) else (if decide (a0.1=(3:Int))=true then some (true,()) else (if decide (a0.1=(4:Int))=true then some (true,()) else some (decide (a0.2.2.2.2.2.1=(0:Int)),()))))) else (if decide (a0.1=(3:Int))=true then some (true,()) else (if decide (a0.1=(4:Int))=true then some (true,()) else some (decide (a0.2.2.2.2.2.1=(0:Int)),()))))) else (if (!decide (a0.1=(3:Int)))=true then (if (!decide (a0.2.2.2.2.2.2.1=(0:Int)))=true then some (false,()) else (if decide ((a0.2.2.2.2.2.2.2.1.length:Int)>(0:Int))=true then some (false,()) else (if decide (a0.1=(3:Int))=true then some (true,()) else (if decide (a0.1=(4:Int))=true then some (true,()) else some (decide (a0.2.2.2.2.2.1=(0:Int)),()))))) else (if decide (a0.1=(3:Int))=true then some (true,()) else (if decide (a0.1=(4:Int))=true then some (true,()) else some (decide (a0.2.2.2.2.2.1=(0:Int)),())))))) else (if (!decide (a0.1=(4:Int)))=true then (if (!decide (a0.2.2.2.2.1=(0:Int)))=true then some (false,()) else (if (!decide (a0.1=(3:Int)))=true then (if (!decide (a0.2.2.2.2.2.2.1=(0:Int)))=true then some (false,()) else (if decide ((a0.2.2.2.2.2.2.2.1.length:Int)>(0:Int))=true then some (false,()) else (if decide (a0.1=(3:Int))=true then some (true,()) else (if decide (a0.1=(4:Int))=true then some (true,()) else some (decide (a0.2.2.2.2.2.1=(0:Int)),()))))) else (if decide (a0.1=(3:Int))=true then some (true,()) else (if decide (a0.1=(4:Int))=true then some (true,()) else some (decide (a0.2.2.2.2.2.1=(0:Int)),()))))) else (if (!decide (a0.1=(3:Int)))=true then (if (!decide (a0.2.2.2.2.2.2.1=(0:Int)))=true then some (false,()) else (if decide ((a0.2.2.2.2.2.2.2.1.length:Int)>(0:Int))=true then some (false,()) else (if decide (a0.1=(3:Int))=true then some (true,()) else (if decide (a0.1=(4:Int))=true then some (true,()) else some (decide (a0.2.2.2.2.2.1=(0:Int)),()))))) else (if decide (a0.1=(3:Int))=true then some (true,()) else (if decide (a0.1=(4:Int))=true then some (true,()) else some (decide (a0.2.2.2.2.2.1=(0:Int)),())))))))) else ((iP n a0.1).bind fun r4=>(if (!r4.1)=true then (if (!decide (a0.1=(4:Int)))=true then (if decide ((a0.2.2.2.1.length:Int)>(0:Int))=true then some (false,()) else (if (!decide (a0.1=(4:Int)))=true then (if (!decide (a0.2.2.2.2.1=(0:Int)))=true then some (false,()) else (if (!decide (a0.1=(3:Int)))=true then (if (!decide (a0.2.2.2.2.2.2.1=(0:Int)))=true then some (false,()) else (if decide ((a0.2.2.2.2.2.2.2.1.length:Int)>(0:Int))=true then some (false,()) else (if decide (a0.1=(3:Int))=true then some (true,()) else (if decide (a0.1=(4:Int))=true then some (true,()) else some (decide (a0.2.2.2.2.2.1=(0:Int)),()))))) else (if decide (a0.1=(3:Int))=true then some (true,()) else (if decide (a0.1=(4:Int))=true then some (true,()) else some (decide (a0.2.2.2.2.2.1=(0:Int)),()))))) else (if (!decide (a0.1=(3:Int)))=true then (if (!decide (a0.2.2.2.2.2.2.1=(0:Int)))=true then some (false,()) else (if decide ((a0.2.2.2.2.2.2.2.1.length:Int)>(0:Int))=true then some (false,()) else (if decide (a0.1=(3:Int))=true then some (true,()) else (if decide (a0.1=(4:Int))=true then some (true,()) else some (decide (a0.2.2.2.2.2.1=(0:Int)),()))))) else (if decide (a0.1=(3:Int))=true then some (true,()) else (if decide (a0.1=(4:Int))=true then some (true,()) else some (decide (a0.2.2.2.2.2.1=(0:Int)),())))))) else (if (!decide (a0.1=(4:Int)))=true then (if (!decide (a0.2.2.2.2.1=(0:Int)))=true then some (false,()) else (if (!decide (a0.1=(3:Int)))=true then (if (!decide (a0.2.2.2.2.2.2.1=(0:Int)))=true then some (false,()) else (if decide ((a0.2.2.2.2.2.2.2.1.length:Int)>(0:Int))=true then some (false,()) else (if decide (a0.1=(3:Int))=true then some (true,()) else (if decide (a0.1=(4:Int))=true then some (true,()) else some (decide (a0.2.2.2.2.2.1=(0:Int)),()))))) else (if decide (a0.1=(3:Int))=true then some (true,()) else (if decide (a0.1=(4:Int))=true then some (true,()) else some (decide (a0.2.2.2.2.2.1=(0:Int)),()))))) else (if (!decide (a0.1=(3:Int)))=true then (if (!decide (a0.2.2.2.2.2.2.1=(0:Int)))=true then some (false,()) else (if decide ((a0.2.2.2.2.2.2.2.1.length:Int)>(0:Int))=true then some (false,()) else (if decide (a0.1=(3:Int))=true then some (true,()) else (if decide (a0.1=(4:Int))=true then some (true,()) else some (decide (a0.2.2.2.2.2.1=(0:Int)),()))))) else (if decide (a0.1=(3:Int))=true then some (true,()) else (if decide (a0.1=(4:Int))=true then some (true,()) else some (decide (a0.2.2.2.2.2.1=(0:Int)),())))))) else (if (!decide (a0.1=(4:Int)))=true then (if (!decide (a0.2.2.2.2.1=(0:Int)))=true then some (false,()) else (if (!decide (a0.1=(3:Int)))=true then (if (!decide (a0.2.2.2.2.2.2.1=(0:Int)))=true then some (false,()) else (if decide ((a0.2.2.2.2.2.2.2.1.length:Int)>(0:Int))=true then some (false,()) else (if decide (a0.1=(3:Int))=true then some (true,()) else (if decide (a0.1=(4:Int))=true then some (true,()) else some (decide (a0.2.2.2.2.2.1=(0:Int)),()))))) else (if decide (a0.1=(3:Int))=true then some (true,()) else (if decide (a0.1=(4:Int))=true then some (true,()) else some (decide (a0.2.2.2.2.2.1=(0:Int)),()))))) else (if (!decide (a0.1=(3:Int)))=true then (if (!decide (a0.2.2.2.2.2.2.1=(0:Int)))=true then some (false,()) else (if decide ((a0.2.2.2.2.2.2.2.1.length:Int)>(0:Int))=true then some (false,()) else (if decide (a0.1=(3:Int))=true then some (true,()) else (if decide (a0.1=(4:Int))=true then some (true,()) else some (decide (a0.2.2.2.2.2.1=(0:Int)),()))))) else (if decide (a0.1=(3:Int))=true then some (true,()) else (if decide (a0.1=(4:Int))=true then some (true,()) else some (decide (a0.2.2.2.2.2.1=(0:Int)),())))))))))))
def aeR:Entry:=⟨139,[.ro kg],[.val .bool [] []],fun n c=>wZ n c.1⟩
def ahJ:Hint:=⟨0,[],[],[],[(74,some 7,RS),(140,some 14,E_9),(140,some 28,E_9)],[],[],[],[]⟩
theorem alv:gN T ahJ Tryz.f139 aeR:=by intro n c; kernel_rfl
theorem am0 [Fr] (n:Nat):ak Tryz.prog n aeR:=aj mixed aI Tryz.func139 (by kernel_rfl) (hi:=ahJ) (aa (Uu n) (aa (K_9 n) (aa (K_9 n) aA))) alv
def oP (n:Nat) (a0:List Int):Option (Bool×Unit):=(rounds (fun L1 (v1:Zt0)=>(if decide (v1.2.1<(v1.1.length:Int))=true then (if aH v1.2.1 v1.1.length then ((bK n (v1.1.getD v1.2.1.toNat (0:Int)) (1:Int) (999:Int)).bind fun r2=>(if (!r2.1)=true then some (false,()) else (if decide (v1.2.1>(0:Int))=true then (if aH v1.2.1 v1.1.length then (if aH (IntKind.i64.wrap (v1.2.1 - (1:Int))) v1.1.length then (if decide ((v1.1.getD v1.2.1.toNat (0:Int))≤(v1.1.getD (IntKind.i64.wrap (v1.2.1 - (1:Int))).toNat (0:Int)))=true then some (false,()) else L1 (v1.1,IntKind.i64.wrap (v1.2.1+(1:Int)),())) else none) else none) else L1 (v1.1,IntKind.i64.wrap (v1.2.1+(1:Int)),())))) else none) else some (true,()))) n (a0,(0:Int),()))
def ach:Entry:=⟨84,[.val (.sl 2 (.int .i64)) []],[.val .bool [] []],fun n c=>oP n c.1⟩
def ahK:Hint:=⟨0,[],[(0,[0,3],[])],[],[(74,some 14,RS)],[],[],[],[]⟩
theorem alx:gN T ahK Tryz.f84 ach:=by intro n c; kernel_rfl
theorem ajh [Fr] (n:Nat):ak Tryz.prog n ach:=aj mixed aI Tryz.func84 (by kernel_rfl) (hi:=ahK) (aa (Uu n) aA) alx
def qB (n:Nat) (a0:iI):Option (Int×Unit):=((wZ n a0).bind fun r1=>(if (!r1.1)=true then some ((1:Int),()) else ((jr n a0.2.1).bind fun r2=>(if (!r2.1)=true then some ((5:Int),()) else ((iP n a0.1).bind fun r3=>(if r3.1=true then ((jr n a0.2.2.1).bind fun r4=>(if (!r4.1)=true then some ((5:Int),()) else (if decide ((a0.2.2.2.1.length:Int)>(6:Int))=true then some ((2:Int),()) else ((oP n a0.2.2.2.1).bind fun r5=>(if (!r5.1)=true then some ((3:Int),()) else (if decide (a0.1=(4:Int))=true then ((bK n a0.2.2.2.2.1 (1:Int) (3:Int)).bind fun r6=>(if (!r6.1)=true then some ((3:Int),()) else ((bK n a0.2.2.2.2.2.1 (0:Int) (15:Int)).bind fun r7=>(if (!r7.1)=true then some ((3:Int),()) else ((bK n a0.2.2.2.2.2.2.1 (0:Int) (9999:Int)).bind fun r8=>(if (!r8.1)=true then some ((3:Int),()) else (if decide ((a0.2.2.2.2.2.2.2.1.length:Int)>(400:Int))=true then some ((2:Int),()) else some ((0:Int),())))))))) else ((bK n a0.2.2.2.2.2.1 (0:Int) (15:Int)).bind fun r9=>(if (!r9.1)=true then some ((3:Int),()) else ((bK n a0.2.2.2.2.2.2.1 (0:Int) (9999:Int)).bind fun Rl=>(if (!Rl.1)=true then some ((3:Int),()) else (if decide ((a0.2.2.2.2.2.2.2.1.length:Int)>(400:Int))=true then some ((2:Int),()) else some ((0:Int),())))))))))))) else (if decide ((a0.2.2.2.1.length:Int)>(6:Int))=true then some ((2:Int),()) else ((oP n a0.2.2.2.1).bind fun Lj=>(if (!Lj.1)=true then some ((3:Int),()) else (if decide (a0.1=(4:Int))=true then ((bK n a0.2.2.2.2.1 (1:Int) (3:Int)).bind fun NK=>(if (!NK.1)=true then some ((3:Int),()) else ((bK n a0.2.2.2.2.2.1 (0:Int) (15:Int)).bind fun RJ=>(if (!RJ.1)=true then some ((3:Int),()) else ((bK n a0.2.2.2.2.2.2.1 (0:Int) (9999:Int)).bind fun r14=>(if (!r14.1)=true then some ((3:Int),()) else (if decide ((a0.2.2.2.2.2.2.2.1.length:Int)>(400:Int))=true then some ((2:Int),()) else some ((0:Int),())))))))) else ((bK n a0.2.2.2.2.2.1 (0:Int) (15:Int)).bind fun Xa=>(if (!Xa.1)=true then some ((3:Int),()) else ((bK n a0.2.2.2.2.2.2.1 (0:Int) (9999:Int)).bind fun r16=>(if (!r16.1)=true then some ((3:Int),()) else (if decide ((a0.2.2.2.2.2.2.2.1.length:Int)>(400:Int))=true then some ((2:Int),()) else some ((0:Int),()))))))))))))))))
def aci:Entry:=⟨111,[.ro kg],[.val (.int .i64) [] []],fun n c=>qB n c.1⟩
def ahL:Hint:=⟨0,[],[],[],[(139,some 4,aeR),(85,some 10,E_1),(140,some 17,E_9),(85,some 23,E_1),(84,some 37,ach),(74,some 50,RS),(74,some 59,RS),(74,some 67,RS)],[],[],[],[]⟩
theorem aly:gN T ahL Tryz.f111 aci:=by intro n c; kernel_rfl
theorem ajo [Fr] (n:Nat):ak Tryz.prog n aci:=aj mixed aI Tryz.func111 (by kernel_rfl) (hi:=ahL) (aa (am0 n) (aa (K_1 n) (aa (K_9 n) (aa (K_1 n) (aa (ajh n) (aa (Uu n) (aa (Uu n) (aa (Uu n) aA)))))))) aly
def nT (n:Nat) (a0:Int):Option ((List Int)×Unit):=(if (256:Int)≠0 then (if (256:Int)≠0 then some ([IntKind.u8.wrap (IntKind.i64.wrap (a0.tdiv (256:Int))),IntKind.u8.wrap (a0.tmod (256:Int))],()) else none) else none)
def Ul:Entry:=⟨141,[.val (.int .i64) []],[.own (.sl 5 (.int .u8)) [5] [] []],fun n c=>nT n c.1⟩
def ahM:Hint:=⟨0,[],[],[],[],[],[],[],[]⟩
theorem alz:gN T ahM Tryz.f141 Ul:=by intro n c; kernel_rfl
theorem Zz [Fr] (n:Nat):ak Tryz.prog n Ul:=aj mixed aI Tryz.func141 (by kernel_rfl) (hi:=ahM) aA alz
def yB (n:Nat) (a0:List Int):Option (Int×Unit):=(rounds (fun L1 (v1:(List Int)×Int×Int×Unit)=>(if decide (v1.2.2.1<(v1.1.length:Int))=true then (if aH v1.2.2.1 v1.1.length then (if (65521:Int)≠0 then L1 (v1.1,(IntKind.i64.wrap ((IntKind.i64.wrap (v1.2.1 * (31:Int)))+(IntKind.i64.wrap (v1.1.getD v1.2.2.1.toNat (0:Int))))).tmod (65521:Int),IntKind.i64.wrap (v1.2.2.1+(1:Int)),()) else none) else none) else some (v1.2.1,()))) n (a0,(1:Int),(0:Int),()))
def aeS:Entry:=⟨142,[.val (.sl 5 (.int .u8)) []],[.val (.int .i64) [] []],fun n c=>yB n c.1⟩
def ahN:Hint:=⟨0,[],[(0,[0,3,4],[])],[],[],[],[],[],[]⟩
theorem alA:gN T ahN Tryz.f142 aeS:=by intro n c; kernel_rfl
theorem am1 [Fr] (n:Nat):ak Tryz.prog n aeS:=aj mixed aI Tryz.func142 (by kernel_rfl) (hi:=ahN) aA alA
def xe (n:Nat) (a0:iI):Option ((List Int)×Unit):=(if ([(0:Int),(0:Int),IntKind.u8.wrap a0.1,IntKind.u8.wrap (a0.2.1.length:Int)].length+a0.2.1.length) * 1≤140737488355328 then (if (([(0:Int),(0:Int),IntKind.u8.wrap a0.1,IntKind.u8.wrap (a0.2.1.length:Int)]++a0.2.1).length+[IntKind.u8.wrap (a0.2.2.1.length:Int)].length) * 1≤140737488355328 then (if ((([(0:Int),(0:Int),IntKind.u8.wrap a0.1,IntKind.u8.wrap (a0.2.1.length:Int)]++a0.2.1)++[IntKind.u8.wrap (a0.2.2.1.length:Int)]).length+a0.2.2.1.length) * 1≤140737488355328 then (if (((([(0:Int),(0:Int),IntKind.u8.wrap a0.1,IntKind.u8.wrap (a0.2.1.length:Int)]++a0.2.1)++[IntKind.u8.wrap (a0.2.2.1.length:Int)])++a0.2.2.1).length+[IntKind.u8.wrap (a0.2.2.2.1.length:Int)].length) * 1≤140737488355328 then (rounds (fun L1 (v1:iI×Int×(List Int)×Unit)=>(if decide (v1.2.1<(v1.1.2.2.2.1.length:Int))=true then (if aH v1.2.1 v1.1.2.2.2.1.length then ((nT n (v1.1.2.2.2.1.getD v1.2.1.toNat (0:Int))).bind fun r2=>(if (v1.2.2.1.length+r2.1.length) * 1≤140737488355328 then L1 (v1.1,IntKind.i64.wrap (v1.2.1+(1:Int)),v1.2.2.1++r2.1,()) else none)) else none) else (if (v1.2.2.1.length+[IntKind.u8.wrap v1.1.2.2.2.2.1,IntKind.u8.wrap v1.1.2.2.2.2.2.1].length) * 1≤140737488355328 then ((nT n v1.1.2.2.2.2.2.2.1).bind fun r3=>(if ((v1.2.2.1++[IntKind.u8.wrap v1.1.2.2.2.2.1,IntKind.u8.wrap v1.1.2.2.2.2.2.1]).length+r3.1.length) * 1≤140737488355328 then ((nT n (v1.1.2.2.2.2.2.2.2.1.length:Int)).bind fun r4=>(if (((v1.2.2.1++[IntKind.u8.wrap v1.1.2.2.2.2.1,IntKind.u8.wrap v1.1.2.2.2.2.2.1])++r3.1).length+r4.1.length) * 1≤140737488355328 then (if ((((v1.2.2.1++[IntKind.u8.wrap v1.1.2.2.2.2.1,IntKind.u8.wrap v1.1.2.2.2.2.2.1])++r3.1)++r4.1).length+v1.1.2.2.2.2.2.2.2.1.length) * 1≤140737488355328 then ((nT n (IntKind.i64.wrap ((((((v1.2.2.1++[IntKind.u8.wrap v1.1.2.2.2.2.1,IntKind.u8.wrap v1.1.2.2.2.2.2.1])++r3.1)++r4.1)++v1.1.2.2.2.2.2.2.2.1).length:Int)+(2:Int)))).bind fun r5=>(if r5.1.length≤((((v1.2.2.1++[IntKind.u8.wrap v1.1.2.2.2.2.1,IntKind.u8.wrap v1.1.2.2.2.2.2.1])++r3.1)++r4.1)++v1.1.2.2.2.2.2.2.2.1).length then ((yB n (r5.1++((((v1.2.2.1++[IntKind.u8.wrap v1.1.2.2.2.2.1,IntKind.u8.wrap v1.1.2.2.2.2.2.1])++r3.1)++r4.1)++v1.1.2.2.2.2.2.2.2.1).drop r5.1.length)).bind fun r6=>((nT n r6.1).bind fun r7=>(if ((r5.1++((((v1.2.2.1++[IntKind.u8.wrap v1.1.2.2.2.2.1,IntKind.u8.wrap v1.1.2.2.2.2.2.1])++r3.1)++r4.1)++v1.1.2.2.2.2.2.2.2.1).drop r5.1.length).length+r7.1.length) * 1≤140737488355328 then some ((r5.1++((((v1.2.2.1++[IntKind.u8.wrap v1.1.2.2.2.2.1,IntKind.u8.wrap v1.1.2.2.2.2.2.1])++r3.1)++r4.1)++v1.1.2.2.2.2.2.2.2.1).drop r5.1.length)++r7.1,()) else none))) else none)) else none) else none)) else none)) else none))) n (a0,(0:Int),((([(0:Int),(0:Int),IntKind.u8.wrap a0.1,IntKind.u8.wrap (a0.2.1.length:Int)]++a0.2.1)++[IntKind.u8.wrap (a0.2.2.1.length:Int)])++a0.2.2.1)++[IntKind.u8.wrap (a0.2.2.2.1.length:Int)],())) else none) else none) else none) else none)
def aeT:Entry:=⟨112,[.ro kg],[.own (.sl 5 (.int .u8)) [5] [] []],fun n c=>xe n c.1⟩
def ahO:Hint:=⟨0,[],[(0,[0,3,4],[514])],[],[(141,some 64,Ul),(141,some 83,Ul),(141,some 91,Ul),(141,some 102,Ul),(142,some 106,aeS),(141,some 107,Ul)],[],[],[103],[]⟩
theorem alB:gN T ahO Tryz.f112 aeT:=by intro n c; kernel_rfl
theorem am2 [Fr] (n:Nat):ak Tryz.prog n aeT:=aj mixed aI Tryz.func112 (by kernel_rfl) (hi:=ahO) (aa (Zz n) (aa (Zz n) (aa (Zz n) (aa (Zz n) (aa (am1 n) (aa (Zz n) aA)))))) alB
def wT (n:Nat) (a0:List Int):Option (anU×Unit):=(if decide ((a0.length:Int)<(2:Int))=true then some (((5:Int),(0:Int),Ie,()),()) else (if aH (0:Int) a0.length then (if aH (1:Int) a0.length then (if decide ((IntKind.i64.wrap ((IntKind.i64.wrap ((IntKind.i64.wrap (a0.getD (0:Int).toNat (0:Int))) * (256:Int)))+(IntKind.i64.wrap (a0.getD (1:Int).toNat (0:Int)))))<(2:Int))=true then some (((5:Int),(0:Int),Ie,()),()) else (if decide ((IntKind.i64.wrap ((IntKind.i64.wrap ((IntKind.i64.wrap (a0.getD (0:Int).toNat (0:Int))) * (256:Int)))+(IntKind.i64.wrap (a0.getD (1:Int).toNat (0:Int)))))>(a0.length:Int))=true then some (((5:Int),(0:Int),Ie,()),()) else (if 0≤(IntKind.i64.wrap ((IntKind.i64.wrap ((IntKind.i64.wrap (a0.getD (0:Int).toNat (0:Int))) * (256:Int)))+(IntKind.i64.wrap (a0.getD (1:Int).toNat (0:Int)))))∧(IntKind.i64.wrap ((IntKind.i64.wrap ((IntKind.i64.wrap (a0.getD (0:Int).toNat (0:Int))) * (256:Int)))+(IntKind.i64.wrap (a0.getD (1:Int).toNat (0:Int)))))≤(a0.length:Int) then ((xg n (a0.take (IntKind.i64.wrap ((IntKind.i64.wrap ((IntKind.i64.wrap (a0.getD (0:Int).toNat (0:Int))) * (256:Int)))+(IntKind.i64.wrap (a0.getD (1:Int).toNat (0:Int))))).toNat)).bind fun r1=>((qB n r1.1).bind fun r2=>(if (!decide (r2.1=(0:Int)))=true then some (((5:Int),(0:Int),Ie,()),()) else ((xe n r1.1).bind fun r3=>(if 0≤(IntKind.i64.wrap ((IntKind.i64.wrap ((IntKind.i64.wrap (a0.getD (0:Int).toNat (0:Int))) * (256:Int)))+(IntKind.i64.wrap (a0.getD (1:Int).toNat (0:Int)))))∧(IntKind.i64.wrap ((IntKind.i64.wrap ((IntKind.i64.wrap (a0.getD (0:Int).toNat (0:Int))) * (256:Int)))+(IntKind.i64.wrap (a0.getD (1:Int).toNat (0:Int)))))≤(a0.length:Int) then (if (!decide (r3.1=(a0.take (IntKind.i64.wrap ((IntKind.i64.wrap ((IntKind.i64.wrap (a0.getD (0:Int).toNat (0:Int))) * (256:Int)))+(IntKind.i64.wrap (a0.getD (1:Int).toNat (0:Int))))).toNat)))=true then some (((5:Int),(0:Int),Ie,()),()) else some (((0:Int),IntKind.i64.wrap ((IntKind.i64.wrap ((IntKind.i64.wrap (a0.getD (0:Int).toNat (0:Int))) * (256:Int)))+(IntKind.i64.wrap (a0.getD (1:Int).toNat (0:Int)))),r1.1,()),())) else none))))) else none))) else none) else none))
def aeU:Entry:=⟨86,[.val (.sl 5 (.int .u8)) []],[.own Mh [2,5] [] []],fun n c=>wT n c.1⟩
def ahP:Hint:=⟨0,[45],[],[],[(110,some 31,E_8),(111,some 32,aci),(112,some 35,aeT)],[],[],[],[]⟩
theorem alC:gN T ahP Tryz.f86 aeU:=by intro n c; kernel_rfl
theorem am3 [Fr] (n:Nat):ak Tryz.prog n aeU:=aj mixed aI Tryz.func86 (by kernel_rfl) (hi:=ahP) (aa (K_8 n) (aa (ajo n) (aa (am2 n) aA))) alC
def mZ (n:Nat) (a0:List Int):Option ((List iI)×Int×Unit):=(rounds (fun L1 (v1:(List Int)×Int×(List iI)×Unit)=>(if decide (v1.2.1<(v1.1.length:Int))=true then (if 0≤v1.2.1∧v1.2.1≤(v1.1.length:Int) then ((wT n (v1.1.drop v1.2.1.toNat)).bind fun r2=>(if (!decide (r2.1.1=(0:Int)))=true then some (v1.2.2.1,v1.2.1,()) else (if (v1.2.2.1.length+[r2.1.2.2.1].length) * 112≤140737488355328 then L1 (v1.1,IntKind.i64.wrap (v1.2.1+r2.1.2.1),v1.2.2.1++[r2.1.2.2.1],()) else none))) else none) else some (v1.2.2.1,v1.2.1,()))) n (a0,(0:Int),([]:List iI),()))
def acj:Entry:=⟨44,[.val (.sl 5 (.int .u8)) []],[.own (.sl 121 kg) [2,5,121] [] [], .val (.int .i64) [] []],fun n c=>mZ n c.1⟩
def ahQ:Hint:=⟨0,[21],[(0,[0,4,5],[226])],[],[(86,some 15,aeU)],[],[],[],[]⟩
theorem alD:gN T ahQ Tryz.f44 acj:=by intro n c; kernel_rfl
theorem ajp [Fr] (n:Nat):ak Tryz.prog n acj:=aj mixed aI Tryz.func44 (by kernel_rfl) (hi:=ahQ) (aa (am3 n) aA) alD
def wV (n:Nat) (a0:CR):Option ((List iI)×Bool×Unit):=((mZ n a0.2.1).bind fun r1=>((mZ n a0.2.2.1).bind fun r2=>(if (r1.1.length+r2.1.length) * 112≤140737488355328 then (if decide (r1.2.1=(a0.2.1.length:Int))=true then some (r1.1++r2.1,decide (r2.2.1=(a0.2.2.1.length:Int)),()) else some (r1.1++r2.1,false,())) else none)))
def aeV:Entry:=⟨81,[.ro EA],[.own (.sl 121 kg) [2,5,121] [] [], .val .bool [] []],fun n c=>wV n c.1⟩
def ahR:Hint:=⟨0,[],[],[],[(44,some 13,acj),(44,some 21,acj)],[],[],[],[]⟩
theorem alE:gN T ahR Tryz.f81 aeV:=by intro n c; kernel_rfl
theorem am4 [Fr] (n:Nat):ak Tryz.prog n aeV:=aj mixed aI Tryz.func81 (by kernel_rfl) (hi:=ahR) (aa (ajp n) (aa (ajp n) aA)) alE
def xW (n:Nat)  : Option (fO×Unit):=some (((1:Int),([]:List dQ),()),())
def aeW:Entry:=⟨46,[],[.own rU [5,147,162] [] []],fun n c=>xW n⟩
def ahS:Hint:=⟨0,[],[],[],[],[],[],[],[]⟩
theorem alF:gN T ahS Tryz.f46 aeW:=by intro n c; kernel_rfl
theorem am5 [Fr] (n:Nat):ak Tryz.prog n aeW:=aj mixed aI Tryz.func46 (by kernel_rfl) (hi:=ahS) aA alF
def dY (n:Nat) (a0:Int):Option (JB×Unit):=some ((a0,([]:List Int),Ox,()),())
def KG:Entry:=⟨87,[.val (.int .i64) []],[.own Qo [2,5,147,162] [] []],fun n c=>dY n c.1⟩
def ahT:Hint:=⟨0,[],[],[],[],[],[],[],[]⟩
theorem alG:gN T ahT Tryz.f87 KG:=by intro n c; kernel_rfl
theorem Ol [Fr] (n:Nat):ak Tryz.prog n KG:=aj mixed aI Tryz.func87 (by kernel_rfl) (hi:=ahT) aA alG
def oN (n:Nat) (a0:List Int):Option ((List Int)×Unit):=(if (([]:List Int).length+a0.length) * 1≤140737488355328 then some (([]:List Int)++a0,()) else none)
def Zi:Entry:=⟨47,[.val (.sl 5 (.int .u8)) []],[.own (.sl 5 (.int .u8)) [5] [] []],fun n c=>oN n c.1⟩
def ahU:Hint:=⟨0,[],[],[],[],[],[],[],[]⟩
theorem alH:gN T ahU Tryz.f47 Zi:=by intro n c; kernel_rfl
theorem afI [Fr] (n:Nat):ak Tryz.prog n Zi:=aj mixed aI Tryz.func47 (by kernel_rfl) (hi:=ahU) aA alH
def pI (n:Nat) (a0:List tL):Option ((List tL)×Unit):=(rounds (fun L1 (v1:(List tL)×Int×(List tL)×Unit)=>(if decide (v1.2.1<(v1.1.length:Int))=true then (if aH v1.2.1 v1.1.length then ((oN n (((((v1.1.getD v1.2.1.toNat lD).2).2).2).1)).bind fun r2=>(if (v1.2.2.1.length+[((v1.1.getD v1.2.1.toNat lD).1,((v1.1.getD v1.2.1.toNat lD).2).1,(((v1.1.getD v1.2.1.toNat lD).2).2).1,r2.1,((((v1.1.getD v1.2.1.toNat lD).2).2).2).2)].length) * 48≤140737488355328 then L1 (v1.1,IntKind.i64.wrap (v1.2.1+(1:Int)),v1.2.2.1++[((v1.1.getD v1.2.1.toNat lD).1,((v1.1.getD v1.2.1.toNat lD).2).1,(((v1.1.getD v1.2.1.toNat lD).2).2).1,r2.1,((((v1.1.getD v1.2.1.toNat lD).2).2).2).2)],()) else none)) else none) else some (v1.2.2.1,()))) n (a0,(0:Int),([]:List tL),()))
def aeX:Entry:=⟨143,[.val (.sl 162 BP) []],[.own (.sl 162 BP) [5,162] [] []],fun n c=>pI n c.1⟩
def ahV:Hint:=⟨0,[22],[(0,[0,3,4],[194])],[],[(47,some 19,Zi)],[],[],[],[]⟩
theorem alI:gN T ahV Tryz.f143 aeX:=by intro n c; kernel_rfl
theorem am6 [Fr] (n:Nat):ak Tryz.prog n aeX:=aj mixed aI Tryz.func143 (by kernel_rfl) (hi:=ahV) (aa (afI n) aA) alI
def jE (n:Nat) (a0:dQ):Option (dQ×Unit):=((pI n a0.2.2.2.1).bind fun r1=>some ((a0.1,a0.2.1,a0.2.2.1,r1.1,a0.2.2.2.2),()))
def ack:Entry:=⟨113,[.val oJ []],[.own oJ [5,162] [] []],fun n c=>jE n c.1⟩
def ahW:Hint:=⟨0,[7],[],[],[(143,some 5,aeX)],[],[],[],[]⟩
theorem alJ:gN T ahW Tryz.f113 ack:=by intro n c; kernel_rfl
theorem ajq [Fr] (n:Nat):ak Tryz.prog n ack:=aj mixed aI Tryz.func113 (by kernel_rfl) (hi:=ahW) (aa (am6 n) aA) alJ
def oO (n:Nat) (a0:fO):Option (fO×Unit):=(rounds (fun L1 (v1:Int×fO×fO×fO×Unit)=>(if decide (v1.1<(v1.2.1.2.1.length:Int))=true then (if aH v1.1 v1.2.1.2.1.length then ((jE n (v1.2.1.2.1.getD v1.1.toNat dH)).bind fun r2=>(if (v1.2.2.2.1.2.1.length+[r2.1].length) * 56≤140737488355328 then L1 (IntKind.i64.wrap (v1.1+(1:Int)),v1.2.1,v1.2.2.1,(v1.2.2.2.1.1,v1.2.2.2.1.2.1++[r2.1],v1.2.2.2.1.2.2),()) else none)) else none) else some (v1.2.2.2.1,()))) n ((0:Int),a0,Ox,(a0.1,([]:List dQ),()),()))
def Zj:Entry:=⟨88,[.val rU []],[.own rU [5,147,162] [] []],fun n c=>oO n c.1⟩
def ahX:Hint:=⟨0,[16,26],[(0,[1,2,3,4],[34,66,98])],[],[(113,some 22,ack)],[],[],[],[]⟩
theorem alK:gN T ahX Tryz.f88 Zj:=by intro n c; kernel_rfl
theorem afJ [Fr] (n:Nat):ak Tryz.prog n Zj:=aj mixed aI Tryz.func88 (by kernel_rfl) (hi:=ahX) (aa (ajq n) aA) alK
def tT (n:Nat) (a0:fO) (a1:List Int):Option (Int×Unit):=(rounds (fun L1 (v1:fO×Zt0)=>(if decide (v1.2.2.1<(v1.1.2.1.length:Int))=true then (if aH v1.2.2.1 v1.1.2.1.length then (if decide (((v1.1.2.1.getD v1.2.2.1.toNat dH).1)=v1.2.1)=true then some (v1.2.2.1,()) else L1 (v1.1,v1.2.1,IntKind.i64.wrap (v1.2.2.1+(1:Int)),())) else none) else some ((-1:Int),()))) n (a0,a1,(0:Int),()))
def Zk:Entry:=⟨145,[.ro rU, .val .str []],[.val (.int .i64) [] []],fun n c=>tT n c.1 c.2.1⟩
def ahY:Hint:=⟨0,[],[(0,[0,1,5],[])],[],[],[],[],[],[]⟩
theorem alL:gN T ahY Tryz.f145 Zk:=by intro n c; kernel_rfl
theorem afK [Fr] (n:Nat):ak Tryz.prog n Zk:=aj mixed aI Tryz.func145 (by kernel_rfl) (hi:=ahY) aA alL
def w9 (n:Nat) (a0:fO) (a1:iI):Option (JB×Unit):=((tT n a0 a1.2.1).bind fun r1=>(if decide (r1.1≥(0:Int))=true then ((dY n (6:Int)).bind fun r2=>some (r2.1,())) else (if decide ((a0.2.1.length:Int)≥(3:Int))=true then ((dY n (10:Int)).bind fun r3=>some (r3.1,())) else (if decide (a0.1≥(1000:Int))=true then ((dY n (10:Int)).bind fun r4=>some (r4.1,())) else ((oO n a0).bind fun r5=>(if (r5.1.2.1.length+[(a1.2.1,a0.1,(1:Int),([]:List tL),())].length) * 56≤140737488355328 then some (((0:Int),([]:List Int),(IntKind.i64.wrap (a0.1+(1:Int)),r5.1.2.1++[(a1.2.1,a0.1,(1:Int),([]:List tL),())],r5.1.2.2),()),()) else none))))))
def aeY:Entry:=⟨144,[.val rU [], .ro kg],[.own Qo [2,5,147,162] [] []],fun n c=>w9 n c.1 c.2.1⟩
def ahZ:Hint:=⟨0,[26,41],[],[],[(145,some 10,Zk),(87,some 12,KG),(87,some 22,KG),(88,some 24,Zj)],[],[],[],[]⟩
theorem alM:gN T ahZ Tryz.f144 aeY:=by intro n c; kernel_rfl
theorem am7 [Fr] (n:Nat):ak Tryz.prog n aeY:=aj mixed aI Tryz.func144 (by kernel_rfl) (hi:=ahZ) (aa (afK n) (aa (Ol n) (aa (Ol n) (aa (afJ n) aA)))) alM
def nS (n:Nat) (a0:dQ) (a1:tL):Option (Int×dQ×Unit):=((oN n a1.2.2.2.1).bind fun r1=>(if (a0.2.2.2.1.length+[(a0.2.2.1,a1.2.1,a1.2.2.1,r1.1,a1.2.2.2.2)].length) * 48≤140737488355328 then some (a0.2.2.1,(a0.1,a0.2.1,IntKind.i64.wrap (a0.2.2.1+(1:Int)),a0.2.2.2.1++[(a0.2.2.1,a1.2.1,a1.2.2.1,r1.1,a1.2.2.2.2)],a0.2.2.2.2),()) else none))
def acm:Entry:=⟨146,[.rw oJ [5,162] [5,162,4294967295] [5,162], .val BP []],[.val (.int .i64) [] []],fun n c=>nS n c.1 c.2.1⟩
def ah0:Hint:=⟨0,[18,19],[],[],[(47,some 12,Zi)],[],[],[],[]⟩
theorem alN:gN T ah0 Tryz.f146 acm:=by intro n c; kernel_rfl
theorem ajr [Fr] (n:Nat):ak Tryz.prog n acm:=aj mixed aI Tryz.func146 (by kernel_rfl) (hi:=ah0) (aa (afI n) aA) alN
def nR (n:Nat) (a0:List Int) (a1:Int):Option (Bool×Unit):=(rounds (fun L1 (v1:(List Int)×Int×Int×Unit)=>(if decide (v1.2.2.1<(v1.1.length:Int))=true then (if aH v1.2.2.1 v1.1.length then (if decide ((v1.1.getD v1.2.2.1.toNat (0:Int))=v1.2.1)=true then some (true,()) else L1 (v1.1,v1.2.1,IntKind.i64.wrap (v1.2.2.1+(1:Int)),())) else none) else some (false,()))) n (a0,a1,(0:Int),()))
def Um:Entry:=⟨170,[.val (.sl 2 (.int .i64)) [], .val (.int .i64) []],[.val .bool [] []],fun n c=>nR n c.1 c.2.1⟩
def Zv:Hint:=⟨0,[],[(0,[0,1,5],[])],[],[],[],[],[],[]⟩
theorem aeN:gN T Zv Tryz.f170 Um:=by intro n c; kernel_rfl
theorem afL [Fr] (n:Nat):ak Tryz.prog n Um:=aj mixed aI Tryz.func170 (by kernel_rfl) (hi:=Zv) aA aeN
def uT (n:Nat) (a0:Int) (a1:Int) (a2:Int):Option (Int×Unit):=(if decide (a1=(2:Int))=true then some (IntKind.i64.wrap ((BitVec.ofInt (IntKind.bits .i64) a0 ||| BitVec.ofInt (IntKind.bits .i64) a2).toNat),()) else (if decide (a1=(3:Int))=true then some (IntKind.i64.wrap ((BitVec.ofInt (IntKind.bits .i64) a0 &&& ~~~ BitVec.ofInt (IntKind.bits .i64) a2).toNat),()) else some (a2,())))
def aeZ:Entry:=⟨171,[.val (.int .i64) [], .val (.int .i64) [], .val (.int .i64) []],[.val (.int .i64) [] []],fun n c=>uT n c.1 c.2.1 c.2.2.1⟩
def ah1:Hint:=⟨0,[],[],[],[],[],[],[],[]⟩
theorem alO:gN T ah1 Tryz.f171 aeZ:=by intro n c; kernel_rfl
theorem am8 [Fr] (n:Nat):ak Tryz.prog n aeZ:=aj mixed aI Tryz.func171 (by kernel_rfl) (hi:=ah1) aA alO
def wY (n:Nat) (a0:dQ) (a1:iI):Option ((List Int)×dQ×Unit):=(rounds (fun L1 (v1:iI×Int×dQ×(List Int)×Unit)=>(if decide (v1.2.1<(v1.2.2.1.2.2.2.1.length:Int))=true then (if aH v1.2.1 v1.2.2.1.2.2.2.1.length then ((nR n v1.1.2.2.2.1 ((v1.2.2.1.2.2.2.1.getD v1.2.1.toNat lD).1)).bind fun r2=>(if r2.1=true then ((uT n (((v1.2.2.1.2.2.2.1.getD v1.2.1.toNat lD).2).1) v1.1.2.2.2.2.1 v1.1.2.2.2.2.2.1).bind fun r3=>(if (v1.2.2.2.1.length+[((fH v1.2.2.1.2.2.2.1 v1.2.1.toNat lD fun z1=>(z1.1,r3.1,z1.2.2)).getD v1.2.1.toNat lD).1].length) * 8≤140737488355328 then L1 (v1.1,IntKind.i64.wrap (v1.2.1+(1:Int)),(v1.2.2.1.1,v1.2.2.1.2.1,v1.2.2.1.2.2.1,(fH v1.2.2.1.2.2.2.1 v1.2.1.toNat lD fun z1=>(z1.1,r3.1,z1.2.2)),v1.2.2.1.2.2.2.2),v1.2.2.2.1++[((fH v1.2.2.1.2.2.2.1 v1.2.1.toNat lD fun z1=>(z1.1,r3.1,z1.2.2)).getD v1.2.1.toNat lD).1],()) else none)) else L1 (v1.1,IntKind.i64.wrap (v1.2.1+(1:Int)),v1.2.2.1,v1.2.2.2.1,()))) else none) else some (v1.2.2.2.1,v1.2.2.1,()))) n (a1,(0:Int),a0,([]:List Int),()))
def ae0:Entry:=⟨147,[.rw oJ [5,162] [162] [], .ro kg],[.own (.sl 2 (.int .i64)) [2] [] []],fun n c=>wY n c.1 c.2.1⟩
def ah2:Hint:=⟨0,[21],[(0,[0,1,5,6],[0,258])],[],[(170,some 32,Um),(171,some 46,aeZ)],[],[],[],[]⟩
theorem alP:gN T ah2 Tryz.f147 ae0:=by intro n c; kernel_rfl
theorem am9 [Fr] (n:Nat):ak Tryz.prog n ae0:=aj mixed aI Tryz.func147 (by kernel_rfl) (hi:=ah2) (aa (afL n) (aa (am8 n) aA)) alP
namespace IdT
def tyI:Y1:={ ty:=[(2,(.int .i64)),(3,(.int .i64)),(4, .bool),(5,(.int .u8)),(6,(.int .u8)),(7,Zk4),(8,Zk4),(9, .str),(10, .str),(11, .str),(12,(.int .u64)),(13,Zk0),(14,Zk0),(21,(.int .i32)),(22,(.sl 5 (.int .u8))),(23,(.sl 142 Zk9)),(24,UB),(25,UB),(26,UD),(27,UD),(28,(.sl 79 zV)),(29,Xy),(30,Xy),(32,(.sl 9 .str)),(33,(.sl 147 KP)),(34,R9),(35,R9),(36,Sa),(37,Sa),(38,(.sl 74 zV)),(39,UF),(40,UF),(41,Xz),(42,Xz),(57,(.sl 2 (.int .i64))),(58,Xx),(59,Xx),(73,zV),(74,zV),(79,zV),(85,(.sl 121 kg)),(88,Xw),(89,Xw),(120,kg),(121,kg),(122,Mh),(123,Mh),(137,(.sl 22 (.sl 5 (.int .u8)))),(140,(.sl 203 Ov)),(141,Zk9),(142,Zk9),(145,(.sl 162 Ov)),(146,KP),(147,KP),(161,Ov),(162,Ov),(166,Xu),(167,Xu),(179,Xv),(180,Xv),(203,Ov),(219,(.int .u32)),(220,(.int .u8)),(221,(.int .u8)),(224,(.int .i32)),(225,(.int .i32))],bytes:=[(2,8),(3,8),(4,1),(5,1),(6,1),(7,24),(8,24),(9,16),(10,16),(11,16),(12,8),(13,24),(14,24),(21,4),(22,24),(23,24),(24,32),(25,32),(26,88),(27,88),(28,24),(29,112),(30,112),(32,24),(33,24),(34,32),(35,32),(36,88),(37,88),(38,24),(39,112),(40,112),(41,144),(42,144),(57,24),(58,120),(59,120),(73,56),(74,56),(79,56),(85,24),(88,64),(89,64),(120,112),(121,112),(122,128),(123,128),(137,24),(140,24),(141,56),(142,56),(145,24),(146,56),(147,56),(161,48),(162,48),(166,32),(167,32),(179,40),(180,40),(203,48),(219,4),(220,1),(221,1),(224,4),(225,4)],ptr:=[15,16,17,55,81,83,116,144,151,165,177,182,223],ids:=true }
def T:jv:=tyI.tab
theorem aI:Fj Tryz.prog tyI=true:=by kernel_rfl
theorem mixed:Tryz.prog.follows .mixedOrders=true:=by kernel_rfl
def nR (n:Nat) (a0:List Int) (a1:Int):Option (Bool×Unit):=(rounds (fun L1 (v1:(List Int)×Int×Int×Unit)=>(if decide (v1.2.2.1<(v1.1.length:Int))=true then (if aH v1.2.2.1 v1.1.length then (if decide ((v1.1.getD v1.2.2.1.toNat (0:Int))=v1.2.1)=true then some (true,()) else L1 (v1.1,v1.2.1,IntKind.i64.wrap (v1.2.2.1+(1:Int)),())) else none) else some (false,()))) n (a0,a1,(0:Int),()))
def Um:Entry:=⟨170,[.val (.sl 2 (.int .i64)) [], .val (.int .i64) []],[.val .bool [] []],fun n c=>nR n c.1 c.2.1⟩
def Zv:Hint:=⟨0,[],[(0,[0,1,5],[])],[],[],[],[],[],[]⟩
theorem aeN:gN T Zv Tryz.f170 Um:=by intro n c; kernel_rfl
theorem afL [Fr] (n:Nat):ak Tryz.prog n Um:=aj mixed aI Tryz.func170 (by kernel_rfl) (hi:=Zv) aA aeN
def gp (n:Nat) (a0:Zt9) (a1:List Int) (a2:Int):Option ((List Qr)×Zt9×Unit):=(rounds (fun L1 (v1:(List Int)×Int×Int×Zt9×(List Qr)×(List Qr)×Unit)=>(if decide (v1.2.2.1<(v1.2.2.2.1.2.2.2.1.length:Int))=true then (if aH v1.2.2.1 v1.2.2.2.1.2.2.2.1.length then ((nR n v1.1 ((v1.2.2.2.1.2.2.2.1.getD v1.2.2.1.toNat Qs).1)).bind fun r2=>(if r2.1=true then (if (v1.2.2.2.2.1.length+[v1.2.2.2.1.2.2.2.1.getD v1.2.2.1.toNat Qs].length) * 48≤140737488355328 then L1 (v1.1,v1.2.1,IntKind.i64.wrap (v1.2.2.1+(1:Int)),v1.2.2.2.1,v1.2.2.2.2.1++[v1.2.2.2.1.2.2.2.1.getD v1.2.2.1.toNat Qs],v1.2.2.2.2.2.1,()) else none) else (if (!decide ((IntKind.i64.wrap ((BitVec.ofInt (IntKind.bits .i64) (((v1.2.2.2.1.2.2.2.1.getD v1.2.2.1.toNat Qs).2).1) &&& BitVec.ofInt (IntKind.bits .i64) v1.2.1).toNat))=(0:Int)))=true then (if (v1.2.2.2.2.1.length+[v1.2.2.2.1.2.2.2.1.getD v1.2.2.1.toNat Qs].length) * 48≤140737488355328 then L1 (v1.1,v1.2.1,IntKind.i64.wrap (v1.2.2.1+(1:Int)),v1.2.2.2.1,v1.2.2.2.2.1++[v1.2.2.2.1.2.2.2.1.getD v1.2.2.1.toNat Qs],v1.2.2.2.2.2.1,()) else none) else (if (v1.2.2.2.2.2.1.length+[v1.2.2.2.1.2.2.2.1.getD v1.2.2.1.toNat Qs].length) * 48≤140737488355328 then L1 (v1.1,v1.2.1,IntKind.i64.wrap (v1.2.2.1+(1:Int)),v1.2.2.2.1,v1.2.2.2.2.1,v1.2.2.2.2.2.1++[v1.2.2.2.1.2.2.2.1.getD v1.2.2.1.toNat Qs],()) else none)))) else none) else some (v1.2.2.2.2.1,(v1.2.2.2.1.1,v1.2.2.2.1.2.1,v1.2.2.2.1.2.2.1,v1.2.2.2.2.2.1,v1.2.2.2.1.2.2.2.2),()))) n (a1,a2,(0:Int),a0,([]:List Qr),([]:List Qr),()))
def Xl:Entry:=⟨148,[.rw KP [5,162] [4294967295] [162], .val (.sl 2 (.int .i64)) [], .val (.int .i64) []],[.own (.sl 162 Ov) [162] [] []],fun n c=>gp n c.1 c.2.1 c.2.2.1⟩
def ah3:Hint:=⟨0,[],[(0,[0,1,2,7,8,9],[0,354,386])],[],[(170,some 32,Um)],[],[],[],[]⟩
theorem alQ:gN T ah3 Tryz.f148 Xl:=by intro n c; kernel_rfl
theorem acC [Fr] (n:Nat):ak Tryz.prog n Xl:=aj mixed aI Tryz.func148 (by kernel_rfl) (hi:=ah3) (aa (afL n) aA) alQ
end IdT
def gp (n:Nat) (a0:List Int×Int×Int×List kP.CQ×Unit) (a1:List Int) (a2:Int):Option (List kP.CQ×(List Int×Int×Int×List kP.CQ×Unit)×Unit):=jW.Ef jW.pick n a0 a1 a2
def aeA:List dh:=[.rw oJ [5,162] [4294967295,5] [162,4294967294], .val (.sl 2 (.int .i64)) [], .val (.int .i64) []]
def ak3:List jF:=[.own (.sl 162 BP) [5,162] [] []]
def Xl:Entry:=⟨148,aeA,ak3,fun n (c:Cont (kin aeA))=>gp n c.1 c.2.1 c.2.2.1⟩
theorem amX {n:Nat} {nm:List Int} {w h:Int} {xs:List Qr} {us:List Int} {fl:Int} (hc:xs.length * 48≤140737488355328) (hn:xs.length<n) (hb:us.length≤1048576) (hu:us.length<n) :
  IdT.gp n (nm,w,h,xs,()) us fl=some (xs.filter (fun x=>jW.pick us fl x.1 x.2.1),(nm,w,h,xs.filter (fun x=>!jW.pick us fl x.1 x.2.1),()),()):=
 jW.YX (has:=IdT.nR n) (fun _ _=>rfl) (fun x=>jW.SX (fun _ _=>rfl) hb hu) hc hn
theorem acC [Fr] (n:Nat):ak Tryz.prog n Xl:=jW.VX (p:=jW.pick) (e:=5) (m:=162) (i:=2) (ow:=[162]) (FI:=fun n c=>IdT.gp n c.1 c.2.1 c.2.2.1) rfl (fun fr=>IdT.acC n) (fun _ _ _ _ _ _ hc hn hb hu=>amX hc hn hb hu)
def uS (n:Nat) (a0:fO) (a1:Int) (a2:iI):Option ((List Int)×Int×fO×Unit):=((tT n a0 a2.2.2.1).bind fun r1=>(if decide (r1.1<(0:Int))=true then some (([]:List Int),(4:Int),a0,()) else (if decide (a2.1=(6:Int))=true then (if decide (r1.1=a1)=true then some (([]:List Int),(9:Int),a0,()) else (if aH a1 a0.2.1.length then ((jE n (a0.2.1.getD a1.toNat dH)).bind fun r2=>((gp n r2.1 a2.2.2.2.1 (0:Int)).bind fun r3=>(if aH r1.1 a0.2.1.length then (if decide ((IntKind.i64.wrap (((((((a0.2.1.getD r1.1.toNat dH).2).2).2).1).length:Int)+(r3.1.length:Int)))>(6:Int))=true then some (([]:List Int),(10:Int),a0,()) else (if decide ((IntKind.i64.wrap (((((a0.2.1.getD r1.1.toNat dH).2).2).1)+(r3.1.length:Int)))>(1000:Int))=true then some (([]:List Int),(10:Int),a0,()) else (rounds (fun L4 (v4:Int×iI×Int×Int×fO×dQ×(List tL)×(List Int)×Unit)=>(if decide (v4.2.2.2.1<(v4.2.2.2.2.2.2.1.length:Int))=true then (if aH v4.2.2.2.1 v4.2.2.2.2.2.2.1.length then ((nS n (v4.2.2.2.2.1.2.1.getD v4.2.2.1.toNat dH) (v4.2.2.2.2.2.2.1.getD v4.2.2.2.1.toNat lD)).bind fun r5=>(if (v4.2.2.2.2.2.2.2.1.length+[r5.1].length) * 8≤140737488355328 then L4 (v4.1,v4.2.1,v4.2.2.1,IntKind.i64.wrap (v4.2.2.2.1+(1:Int)),(v4.2.2.2.2.1.1,v4.2.2.2.2.1.2.1.set v4.2.2.1.toNat r5.2.1,v4.2.2.2.2.1.2.2),v4.2.2.2.2.2.1,v4.2.2.2.2.2.2.1,v4.2.2.2.2.2.2.2.1++[r5.1],()) else none)) else none) else (if decide (v4.2.1.1=(6:Int))=true then (if aH v4.1 v4.2.2.2.2.1.2.1.length then some (v4.2.2.2.2.2.2.2.1,(0:Int),(v4.2.2.2.2.1.1,v4.2.2.2.2.1.2.1.set v4.1.toNat v4.2.2.2.2.2.1,v4.2.2.2.2.1.2.2),()) else none) else some (v4.2.2.2.2.2.2.2.1,(0:Int),v4.2.2.2.2.1,())))) n (a1,a2,r1.1,(0:Int),a0,r3.2.1,r3.1,([]:List Int),())))) else none))) else none)) else (if aH a1 a0.2.1.length then ((jE n (a0.2.1.getD a1.toNat dH)).bind fun r6=>((gp n r6.1 a2.2.2.2.1 (0:Int)).bind fun r7=>(if aH r1.1 a0.2.1.length then (if decide ((IntKind.i64.wrap (((((((a0.2.1.getD r1.1.toNat dH).2).2).2).1).length:Int)+(r7.1.length:Int)))>(6:Int))=true then some (([]:List Int),(10:Int),a0,()) else (if decide ((IntKind.i64.wrap (((((a0.2.1.getD r1.1.toNat dH).2).2).1)+(r7.1.length:Int)))>(1000:Int))=true then some (([]:List Int),(10:Int),a0,()) else (rounds (fun L8 (v8:Int×iI×Int×Int×fO×dQ×(List tL)×(List Int)×Unit)=>(if decide (v8.2.2.2.1<(v8.2.2.2.2.2.2.1.length:Int))=true then (if aH v8.2.2.2.1 v8.2.2.2.2.2.2.1.length then ((nS n (v8.2.2.2.2.1.2.1.getD v8.2.2.1.toNat dH) (v8.2.2.2.2.2.2.1.getD v8.2.2.2.1.toNat lD)).bind fun r9=>(if (v8.2.2.2.2.2.2.2.1.length+[r9.1].length) * 8≤140737488355328 then L8 (v8.1,v8.2.1,v8.2.2.1,IntKind.i64.wrap (v8.2.2.2.1+(1:Int)),(v8.2.2.2.2.1.1,v8.2.2.2.2.1.2.1.set v8.2.2.1.toNat r9.2.1,v8.2.2.2.2.1.2.2),v8.2.2.2.2.2.1,v8.2.2.2.2.2.2.1,v8.2.2.2.2.2.2.2.1++[r9.1],()) else none)) else none) else (if decide (v8.2.1.1=(6:Int))=true then (if aH v8.1 v8.2.2.2.2.1.2.1.length then some (v8.2.2.2.2.2.2.2.1,(0:Int),(v8.2.2.2.2.1.1,v8.2.2.2.2.1.2.1.set v8.1.toNat v8.2.2.2.2.2.1,v8.2.2.2.2.1.2.2),()) else none) else some (v8.2.2.2.2.2.2.2.1,(0:Int),v8.2.2.2.2.1,())))) n (a1,a2,r1.1,(0:Int),a0,r7.2.1,r7.1,([]:List Int),())))) else none))) else none))))
def ae1:Entry:=⟨149,[.rw rU [5,147,162] [5,147,162,4294967295] [5,162], .val (.int .i64) [], .ro kg],[.own (.sl 2 (.int .i64)) [2] [] [], .val (.int .i64) [] []],fun n c=>uS n c.1 c.2.1 c.2.2.1⟩
def ah4:Hint:=⟨0,[48,94,96],[(0,[0,1,2,9,10,11,12,13],[0,290,1410,2242])],[],[(145,some 19,Zk),(113,some 39,ack),(148,some 44,Xl),(146,some 83,acm)],[],[],[],[]⟩
theorem alR:gN T ah4 Tryz.f149 ae1:=by intro n c; kernel_rfl
theorem ana [Fr] (n:Nat):ak Tryz.prog n ae1:=aj mixed aI Tryz.func149 (by kernel_rfl) (hi:=ah4) (aa (afK n) (aa (ajq n) (aa (acC n) (aa (ajr n) aA)))) alR
def uR (n:Nat) (a0:fO) (a1:iI):Option (JB×Unit):=(if decide (a1.1=(1:Int))=true then ((w9 n a0 a1).bind fun r1=>some (r1.1,())) else ((tT n a0 a1.2.1).bind fun r2=>(if decide (r2.1<(0:Int))=true then ((dY n (4:Int)).bind fun r3=>some (r3.1,())) else ((oO n a0).bind fun r4=>(if aH r2.1 r4.1.2.1.length then (if decide (a1.1=(2:Int))=true then (if 0≤r2.1∧r2.1≤(r4.1.2.1.length:Int) then (if (([]:List dQ).length+(r4.1.2.1.take r2.1.toNat).length) * 56≤140737488355328 then (if 0≤(IntKind.i64.wrap (r2.1+(1:Int)))∧(IntKind.i64.wrap (r2.1+(1:Int)))≤(r4.1.2.1.length:Int) then (if ((([]:List dQ)++(r4.1.2.1.take r2.1.toNat)).length+(r4.1.2.1.drop (IntKind.i64.wrap (r2.1+(1:Int))).toNat).length) * 56≤140737488355328 then some (((0:Int),([]:List Int),(r4.1.1,(([]:List dQ)++(r4.1.2.1.take r2.1.toNat))++(r4.1.2.1.drop (IntKind.i64.wrap (r2.1+(1:Int))).toNat),r4.1.2.2),()),()) else none) else none) else none) else none) else (if decide (a1.1=(3:Int))=true then (if decide (((((((r4.1.2.1.getD r2.1.toNat dH).2).2).2).1).length:Int)≥(6:Int))=true then ((dY n (10:Int)).bind fun r5=>some (r5.1,())) else (if decide (((((r4.1.2.1.getD r2.1.toNat dH).2).2).1)≥(1000:Int))=true then ((dY n (10:Int)).bind fun r6=>some (r6.1,())) else ((nS n (r4.1.2.1.getD r2.1.toNat dH) ((0:Int),a1.2.2.2.2.2.1,a1.2.2.2.2.2.2.1,a1.2.2.2.2.2.2.2.1,())).bind fun r7=>some (((0:Int),[r7.1],(r4.1.1,r4.1.2.1.set r2.1.toNat r7.2.1,r4.1.2.2),()),())))) else (if decide (a1.1=(4:Int))=true then ((wY n (r4.1.2.1.getD r2.1.toNat dH) a1).bind fun r8=>some (((0:Int),r8.1,(r4.1.1,r4.1.2.1.set r2.1.toNat r8.2.1,r4.1.2.2),()),())) else (if decide (a1.1=(7:Int))=true then ((gp n (r4.1.2.1.getD r2.1.toNat dH) ([]:List Int) (8:Int)).bind fun r9=>(rounds (fun L10 (v10:Int×JB×JB×(List tL)×Unit)=>(if decide (v10.1<(v10.2.2.2.1.length:Int))=true then (if aH v10.1 v10.2.2.2.1.length then (if (v10.2.2.1.2.1.length+[(v10.2.2.2.1.getD v10.1.toNat lD).1].length) * 8≤140737488355328 then L10 (IntKind.i64.wrap (v10.1+(1:Int)),v10.2.1,(v10.2.2.1.1,v10.2.2.1.2.1++[(v10.2.2.2.1.getD v10.1.toNat lD).1],v10.2.2.1.2.2),v10.2.2.2.1,()) else none) else none) else some (v10.2.2.1,()))) n ((0:Int),afX,((0:Int),([]:List Int),(r4.1.1,r4.1.2.1.set r2.1.toNat r9.2.1,r4.1.2.2),()),r9.1,()))) else ((uS n r4.1 r2.1 a1).bind fun Lj=>(if (!decide (Lj.2.1=(0:Int)))=true then ((dY n Lj.2.1).bind fun NK=>some (NK.1,())) else some (((0:Int),Lj.1,Lj.2.2.1,()),()))))))) else none)))))
def ae2:Entry:=⟨114,[.val rU [], .ro kg],[.val Qo [] []],fun n c=>uR n c.1 c.2.1⟩
def ah5:Hint:=⟨0,[34,123,132],[(1,[4,6,9,10],[130,194,3682])],[],[(144,some 20,aeY),(145,some 25,Zk),(87,some 28,KG),(88,some 30,Zj),(87,some 88,KG),(146,some 103,acm),(147,some 110,ae0),(148,some 115,Xl),(149,some 45,ae1),(87,some 51,KG)],[],[],[],[]⟩
theorem alS:gN T ah5 Tryz.f114 ae2:=by intro n c; kernel_rfl
theorem anb [Fr] (n:Nat):ak Tryz.prog n ae2:=aj mixed aI Tryz.func114 (by kernel_rfl) (hi:=ah5) (aa (am7 n) (aa (afK n) (aa (Ol n) (aa (afJ n) (aa (Ol n) (aa (ajr n) (aa (am9 n) (aa (acC n) (aa (ana n) (aa (Ol n) aA)))))))))) alS
def uQ (n:Nat) (a0:fO) (a1:iI):Option (JB×Unit):=((jN n a0).bind fun r1=>(if (!decide (r1.1=(0:Int)))=true then ((dY n r1.1).bind fun r2=>some (r2.1,())) else ((qB n a1).bind fun r3=>(if (!decide (r3.1=(0:Int)))=true then ((dY n r3.1).bind fun r4=>some (r4.1,())) else ((uR n a0 a1).bind fun r5=>some (r5.1,()))))))
def ae3:Entry:=⟨89,[.val rU [], .val kg []],[.val Qo [] []],fun n c=>uQ n c.1 c.2.1⟩
def ah6:Hint:=⟨0,[],[],[],[(80,some 7,E_4),(87,some 11,KG),(111,some 12,aci),(87,some 16,KG),(114,some 18,ae2)],[],[],[],[]⟩
theorem alT:gN T ah6 Tryz.f89 ae3:=by intro n c; kernel_rfl
theorem anc [Fr] (n:Nat):ak Tryz.prog n ae3:=aj mixed aI Tryz.func89 (by kernel_rfl) (hi:=ah6) (aa (K_4 n) (aa (Ol n) (aa (ajo n) (aa (Ol n) (aa (anb n) aA))))) alT
def oI (n:Nat) (a0:fO) (a1:List iI):Option (JB×Unit):=(if decide ((a1.length:Int)>(60:Int))=true then ((dY n (2:Int)).bind fun r1=>some (r1.1,())) else ((jN n a0).bind fun r2=>(if (!decide (r2.1=(0:Int)))=true then ((dY n r2.1).bind fun r3=>some (r3.1,())) else ((oO n a0).bind fun r4=>(rounds (fun L5 (v5:(List iI)×Int×JB×JB×Unit)=>(if decide (v5.2.1<(v5.1.length:Int))=true then (if aH v5.2.1 v5.1.length then ((uQ n v5.2.2.2.1.2.2.1 (v5.1.getD v5.2.1.toNat Ie)).bind fun r6=>(if (!decide (r6.1.1=(0:Int)))=true then ((dY n r6.1.1).bind fun r7=>some (r7.1,())) else L5 (v5.1,IntKind.i64.wrap (v5.2.1+(1:Int)),v5.2.2.1,(v5.2.2.2.1.1,v5.2.2.2.1.2.1,r6.1.2.2.1,v5.2.2.2.1.2.2.2),()))) else none) else some (v5.2.2.2.1,()))) n (a1,(0:Int),afX,((0:Int),([]:List Int),r4.1,()),()))))))
def ae4:Entry:=⟨45,[.val rU [], .val (.sl 121 kg) []],[.val Qo [] []],fun n c=>oI n c.1 c.2.1⟩
def ah7:Hint:=⟨0,[43],[(0,[1,4,6,7],[130,194])],[(1000194,[5,147,162])],[(87,some 12,KG),(80,some 13,E_4),(87,some 17,KG),(88,some 19,Zj),(89,some 33,ae3),(87,some 39,KG)],[],[],[],[]⟩
theorem alU:gN T ah7 Tryz.f45 ae4:=by intro n c; kernel_rfl
theorem ane [Fr] (n:Nat):ak Tryz.prog n ae4:=aj mixed aI Tryz.func45 (by kernel_rfl) (hi:=ah7) (aa (Ol n) (aa (K_4 n) (aa (Ol n) (aa (afJ n) (aa (anc n) (aa (Ol n) aA)))))) alU
def kL (n:Nat) (a0:tL) (a1:tL):Option (Bool×Unit):=(if decide (a0.1=a1.1)=true then (if decide (a0.2.1=a1.2.1)=true then (if decide (a0.2.2.1=a1.2.2.1)=true then some (decide (a0.2.2.2.1=a1.2.2.2.1),()) else some (false,())) else some (false,())) else some (false,()))
def ae5:Entry:=⟨135,[.ro BP, .ro BP],[.val .bool [] []],fun n c=>kL n c.1 c.2.1⟩
def ah8:Hint:=⟨0,[],[],[],[],[],[],[],[]⟩
theorem alV:gN T ah8 Tryz.f135 ae5:=by intro n c; kernel_rfl
theorem anf [Fr] (n:Nat):ak Tryz.prog n ae5:=aj mixed aI Tryz.func135 (by kernel_rfl) (hi:=ah8) aA alV
def qY (n:Nat) (a0:dQ) (a1:dQ):Option (Bool×Unit):=(if (!decide (a0.1=a1.1))=true then some (false,()) else (if (!decide (a0.2.1=a1.2.1))=true then some (false,()) else (if (!decide (a0.2.2.1=a1.2.2.1))=true then some (false,()) else (if (!decide ((a0.2.2.2.1.length:Int)=(a1.2.2.2.1.length:Int)))=true then some (false,()) else (rounds (fun L1 (v1:dQ×dQ×Int×Unit)=>(if decide (v1.2.2.1<(v1.1.2.2.2.1.length:Int))=true then (if aH v1.2.2.1 v1.1.2.2.2.1.length then (if aH v1.2.2.1 v1.2.1.2.2.2.1.length then ((kL n (v1.1.2.2.2.1.getD v1.2.2.1.toNat lD) (v1.2.1.2.2.2.1.getD v1.2.2.1.toNat lD)).bind fun r2=>(if (!r2.1)=true then some (false,()) else L1 (v1.1,v1.2.1,IntKind.i64.wrap (v1.2.2.1+(1:Int)),()))) else none) else none) else some (true,()))) n (a0,a1,(0:Int),()))))))
def ae6:Entry:=⟨109,[.ro oJ, .ro oJ],[.val .bool [] []],fun n c=>qY n c.1 c.2.1⟩
def ah9:Hint:=⟨0,[],[(0,[0,1,5],[])],[],[(135,some 71,ae5)],[],[],[],[]⟩
theorem alW:gN T ah9 Tryz.f109 ae6:=by intro n c; kernel_rfl
theorem ang [Fr] (n:Nat):ak Tryz.prog n ae6:=aj mixed aI Tryz.func109 (by kernel_rfl) (hi:=ah9) (aa (anf n) aA) alW
def wX (n:Nat) (a0:fO) (a1:fO):Option (Bool×Unit):=(if (!decide (a0.1=a1.1))=true then some (false,()) else (if (!decide ((a0.2.1.length:Int)=(a1.2.1.length:Int)))=true then some (false,()) else (rounds (fun L1 (v1:fO×fO×Int×Unit)=>(if decide (v1.2.2.1<(v1.1.2.1.length:Int))=true then (if aH v1.2.2.1 v1.1.2.1.length then (if aH v1.2.2.1 v1.2.1.2.1.length then ((qY n (v1.1.2.1.getD v1.2.2.1.toNat dH) (v1.2.1.2.1.getD v1.2.2.1.toNat dH)).bind fun r2=>(if (!r2.1)=true then some (false,()) else L1 (v1.1,v1.2.1,IntKind.i64.wrap (v1.2.2.1+(1:Int)),()))) else none) else none) else some (true,()))) n (a0,a1,(0:Int),()))))
def ae7:Entry:=⟨82,[.ro rU, .ro rU],[.val .bool [] []],fun n c=>wX n c.1 c.2.1⟩
def aia:Hint:=⟨0,[],[(0,[0,1,5],[])],[],[(109,some 49,ae6)],[],[],[],[]⟩
theorem alX:gN T aia Tryz.f82 ae7:=by intro n c; kernel_rfl
theorem anh [Fr] (n:Nat):ak Tryz.prog n ae7:=aj mixed aI Tryz.func82 (by kernel_rfl) (hi:=aia) (aa (ang n) aA) alX
def kC (n:Nat) (a0:CR):Option (Int×Unit):=(if decide ((IntKind.i64.wrap ((a0.2.1.length:Int)+(a0.2.2.1.length:Int)))>(8000:Int))=true then some ((2:Int),()) else (if (!a0.1)=true then (if decide ((a0.2.2.1.length:Int)>(0:Int))=true then some ((1:Int),()) else (if (!decide (a0.2.2.2.1.1=(0:Int)))=true then some ((1:Int),()) else (if decide ((a0.2.2.2.1.2.1.length:Int)>(0:Int))=true then some ((1:Int),()) else some ((0:Int),())))) else ((jN n a0.2.2.2.1).bind fun r1=>(if (!decide (r1.1=(0:Int)))=true then some (r1.1,()) else ((wV n a0).bind fun r2=>(if (!r2.2.1)=true then some ((5:Int),()) else ((xW n).bind fun r3=>((oI n r3.1 r2.1).bind fun r4=>(if (!decide (r4.1.1=(0:Int)))=true then some ((9:Int),()) else ((wX n r4.1.2.2.1 a0.2.2.2.1).bind fun r5=>(if (!r5.1)=true then some ((9:Int),()) else some ((0:Int),()))))))))))))
def acn:Entry:=⟨41,[.ro EA],[.val (.int .i64) [] []],fun n c=>kC n c.1⟩
def aib:Hint:=⟨0,[],[],[],[(80,some 50,E_4),(81,some 56,aeV),(46,some 61,aeW),(45,some 63,ae4),(82,some 72,ae7)],[],[],[],[]⟩
theorem alY:gN T aib Tryz.f41 acn:=by intro n c; kernel_rfl
theorem ajs [Fr] (n:Nat):ak Tryz.prog n acn:=aj mixed aI Tryz.func41 (by kernel_rfl) (hi:=aib) (aa (K_4 n) (aa (am4 n) (aa (am5 n) (aa (ane n) (aa (anh n) aA))))) alY
def CJ (n:Nat) (a0:Int):Option (Bool×Unit):=((bK n a0 (1:Int) (3:Int)).bind fun r1=>some (r1.1,()))
def ae8:Entry:=⟨83,[.val (.int .i64) []],[.val .bool [] []],fun n c=>CJ n c.1⟩
def aic:Hint:=⟨0,[],[],[],[(74,some 4,RS)],[],[],[],[]⟩
theorem alZ:gN T aic Tryz.f83 ae8:=by intro n c; kernel_rfl
theorem anj [Fr] (n:Nat):ak Tryz.prog n ae8:=aj mixed aI Tryz.func83 (by kernel_rfl) (hi:=aic) (aa (Uu n) aA) alZ
def pG (n:Nat) (a0:GX):Option (Int×Unit):=((CJ n a0.2.2.2.1).bind fun r1=>(if (!r1.1)=true then some ((3:Int),()) else ((bK n a0.2.1 (0:Int) (999:Int)).bind fun r2=>(if (!r2.1)=true then some ((3:Int),()) else (if decide ((a0.2.2.1.length:Int)>(6:Int))=true then some ((3:Int),()) else ((oP n a0.2.2.1).bind fun r3=>(if (!r3.1)=true then some ((3:Int),()) else (if decide (a0.1=([]:List Int))=true then (if (!decide (a0.2.1=(0:Int)))=true then some ((1:Int),()) else (if decide ((a0.2.2.1.length:Int)>(0:Int))=true then some ((1:Int),()) else some ((0:Int),()))) else ((jr n a0.1).bind fun r4=>(if (!r4.1)=true then some ((1:Int),()) else (if decide (a0.2.1=(0:Int))=true then some ((1:Int),()) else some ((0:Int),()))))))))))))
def ae9:Entry:=⟨42,[.ro zV],[.val (.int .i64) [] []],fun n c=>pG n c.1⟩
def aid:Hint:=⟨0,[],[],[],[(83,some 7,ae8),(74,some 14,RS),(84,some 30,ach),(85,some 55,E_1)],[],[],[],[]⟩
theorem al0:gN T aid Tryz.f42 ae9:=by intro n c; kernel_rfl
theorem ank [Fr] (n:Nat):ak Tryz.prog n ae9:=aj mixed aI Tryz.func42 (by kernel_rfl) (hi:=aid) (aa (anj n) (aa (Uu n) (aa (ajh n) (aa (K_1 n) aA)))) al0
def fF (n:Nat) (a0:D9):Option (Int×Unit):=((kC n a0.1).bind fun r1=>(if (!decide (r1.1=(0:Int)))=true then some (r1.1,()) else (if decide ((a0.2.1.length:Int)<(1:Int))=true then some ((2:Int),()) else (if decide ((a0.2.1.length:Int)>(3:Int))=true then some ((2:Int),()) else (rounds (fun L2 (v2:D9×Int×Unit)=>(if decide (v2.2.1<(v2.1.2.1.length:Int))=true then (if aH v2.2.1 v2.1.2.1.length then ((pG n (v2.1.2.1.getD v2.2.1.toNat Ed)).bind fun r3=>(if (!decide (r3.1=(0:Int)))=true then some (r3.1,()) else L2 (v2.1,IntKind.i64.wrap (v2.2.1+(1:Int)),()))) else none) else some ((0:Int),()))) n (a0,(0:Int),()))))))
def afa:Entry:=⟨18,[.ro KQ],[.val (.int .i64) [] []],fun n c=>fF n c.1⟩
def aie:Hint:=⟨0,[],[(0,[0,4],[])],[],[(41,some 9,acn),(42,some 42,ae9)],[],[],[],[]⟩
theorem al1:gN T aie Tryz.f18 afa:=by intro n c; kernel_rfl
theorem anl [Fr] (n:Nat):ak Tryz.prog n afa:=aj mixed aI Tryz.func18 (by kernel_rfl) (hi:=aie) (aa (ajs n) (aa (ank n) aA)) al1
def wW (n:Nat) (a0:Int):Option (Qq×Unit):=some ((a0,([]:List (List Int)),acS,()),())
def aco:Entry:=⟨19,[.val (.int .i64) []],[.own Qp [2,5,9,74,147,162] [] []],fun n c=>wW n c.1⟩
def aif:Hint:=⟨0,[],[],[],[],[],[],[],[]⟩
theorem al2:gN T aif Tryz.f19 aco:=by intro n c; kernel_rfl
theorem ajt [Fr] (n:Nat):ak Tryz.prog n aco:=aj mixed aI Tryz.func19 (by kernel_rfl) (hi:=aif) aA al2
def yA (n:Nat) (a0:CR):Option (Int×Unit):=((kC n a0).bind fun r1=>(if (!decide (r1.1=(0:Int)))=true then some (r1.1,()) else (if (!a0.1)=true then some ((9:Int),()) else some ((0:Int),()))))
def afb:Entry:=⟨73,[.ro EA],[.val (.int .i64) [] []],fun n c=>yA n c.1⟩
def aih:Hint:=⟨0,[],[],[],[(41,some 5,acn)],[],[],[],[]⟩
theorem al3:gN T aih Tryz.f73 afb:=by intro n c; kernel_rfl
theorem anm [Fr] (n:Nat):ak Tryz.prog n afb:=aj mixed aI Tryz.func73 (by kernel_rfl) (hi:=aih) (aa (ajs n) aA) al3
def wU (n:Nat) (a0:Int):Option (afW×Unit):=some ((a0,([]:List Int),afY,()),())
def acp:Entry:=⟨43,[.val (.int .i64) []],[.own ZL [2,5,147,162] [] []],fun n c=>wU n c.1⟩
def aii:Hint:=⟨0,[],[],[],[],[],[],[],[]⟩
theorem al4:gN T aii Tryz.f43 acp:=by intro n c; kernel_rfl
theorem aju [Fr] (n:Nat):ak Tryz.prog n acp:=aj mixed aI Tryz.func43 (by kernel_rfl) (hi:=aii) aA al4
def pE (n:Nat) (a0:CR) (a1:Int):Option (afW×Unit):=((yA n a0).bind fun r1=>(if (!decide (r1.1=(0:Int)))=true then ((wU n r1.1).bind fun r2=>some (r2.1,())) else ((bK n a1 (0:Int) (a0.2.2.1.length:Int)).bind fun r3=>(if (!r3.1)=true then ((wU n (3:Int)).bind fun r4=>some (r4.1,())) else ((oN n a0.2.1).bind fun r5=>(if 0≤a1∧a1≤(a0.2.2.1.length:Int) then (if (r5.1.length+(a0.2.2.1.take a1.toNat).length) * 1≤140737488355328 then some (((0:Int),([]:List Int),(false,r5.1++(a0.2.2.1.take a1.toNat),([]:List Int),Ox,()),()),()) else none) else none))))))
def afc:Entry:=⟨35,[.val EA [], .val (.int .i64) []],[.own ZL [2,5,147,162] [] []],fun n c=>pE n c.1 c.2.1⟩
def aij:Hint:=⟨0,[],[],[],[(73,some 6,afb),(43,some 10,acp),(74,some 15,RS),(43,some 17,acp),(47,some 20,Zi)],[],[],[],[]⟩
theorem al5:gN T aij Tryz.f35 afc:=by intro n c; kernel_rfl
theorem ann [Fr] (n:Nat):ak Tryz.prog n afc:=aj mixed aI Tryz.func35 (by kernel_rfl) (hi:=aij) (aa (anm n) (aa (aju n) (aa (Uu n) (aa (aju n) (aa (afI n) aA))))) al5
def pF (n:Nat) (a0:D9) (a1:Int):Option (Qq×Unit):=((fF n a0).bind fun r1=>(if (!decide (r1.1=(0:Int)))=true then ((wW n r1.1).bind fun r2=>some (r2.1,())) else ((pE n a0.1 a1).bind fun r3=>(if (!decide (r3.1.1=(0:Int)))=true then ((wW n r3.1.1).bind fun r4=>some (r4.1,())) else (rounds (fun L5 (v5:Int×D9×Qq×D9×Unit)=>(if decide (v5.1<(v5.2.1.2.1.length:Int))=true then (if (v5.2.2.2.1.2.1.length+[(([]:List Int),(0:Int),([]:List Int),(1:Int),())].length) * 56≤140737488355328 then L5 (IntKind.i64.wrap (v5.1+(1:Int)),v5.2.1,v5.2.2.1,(v5.2.2.2.1.1,v5.2.2.2.1.2.1++[(([]:List Int),(0:Int),([]:List Int),(1:Int),())],v5.2.2.2.1.2.2),()) else none) else some (((0:Int),([]:List (List Int)),v5.2.2.2.1,()),()))) n ((0:Int),a0,((0:Int),([]:List (List Int)),acS,()),(r3.1.2.2.1,([]:List GX),()),()))))))
def afd:Entry:=⟨14,[.val KQ [], .val (.int .i64) []],[.own Qp [2,5,9,74,147,162] [] []],fun n c=>pF n c.1 c.2.1⟩
def aik:Hint:=⟨0,[25,35,40],[(0,[2,4,7,8],[66,130,226])],[],[(18,some 9,afa),(19,some 13,aco),(35,some 17,afc),(19,some 23,aco)],[],[],[],[]⟩
theorem al6:gN T aik Tryz.f14 afd:=by intro n c; kernel_rfl
theorem ano [Fr] (n:Nat):ak Tryz.prog n afd:=aj mixed aI Tryz.func14 (by kernel_rfl) (hi:=aik) (aa (anl n) (aa (ajt n) (aa (ann n) (aa (ajt n) aA)))) al6
def dA (n:Nat) (a0:Int) (a1:Int) (a2:Int):Option (Bool×Unit):=(if decide (a0≥a1)=true then some (decide (a0≤a2),()) else some (false,()))
def Ht:Entry:=⟨53,[.val (.int .i64) [], .val (.int .i64) [], .val (.int .i64) []],[.val .bool [] []],fun n c=>dA n c.1 c.2.1 c.2.2.1⟩
def ail:Hint:=⟨0,[],[],[],[],[],[],[],[]⟩
theorem al7:gN T ail Tryz.f53 Ht:=by intro n c; kernel_rfl
theorem KH [Fr] (n:Nat):ak Tryz.prog n Ht:=aj mixed aI Tryz.func53 (by kernel_rfl) (hi:=ail) aA al7
def nO (n:Nat) (a0:List Int) (a1:Int):Option (Bool×Unit):=(rounds (fun L1 (v1:(List Int)×Int×Int×Int×Unit)=>(if decide (v1.2.2.2.1<v1.2.2.1)=true then (if aH v1.2.2.2.1 v1.1.length then (if decide ((v1.1.getD v1.2.2.2.1.toNat 0)<(97:Int))=true then some (false,()) else (if aH v1.2.2.2.1 v1.1.length then (if decide ((v1.1.getD v1.2.2.2.1.toNat 0)>(122:Int))=true then some (false,()) else L1 (v1.1,v1.2.1,v1.2.2.1,IntKind.i64.wrap (v1.2.2.2.1+(1:Int)),())) else none)) else none) else (if decide ((v1.1.length:Int)≥(1:Int))=true then some (decide ((v1.1.length:Int)≤v1.2.1),()) else some (false,())))) n (a0,a1,(a0.length:Int),(0:Int),()))
def afe:Entry:=⟨96,[.val .str [], .val (.int .i64) []],[.val .bool [] []],fun n c=>nO n c.1 c.2.1⟩
def aim:Hint:=⟨0,[],[(0,[0,1,7,8],[])],[],[],[],[],[],[]⟩
theorem al8:gN T aim Tryz.f96 afe:=by intro n c; kernel_rfl
theorem anp [Fr] (n:Nat):ak Tryz.prog n afe:=aj mixed aI Tryz.func96 (by kernel_rfl) (hi:=aim) aA al8
def jq (n:Nat) (a0:List Int):Option (Bool×Unit):=((nO n a0 (8:Int)).bind fun r1=>some (r1.1,()))
def Xm:Entry:=⟨57,[.val .str []],[.val .bool [] []],fun n c=>jq n c.1⟩
def ain:Hint:=⟨0,[],[],[],[(96,some 4,afe)],[],[],[],[]⟩
theorem al9:gN T ain Tryz.f57 Xm:=by intro n c; kernel_rfl
theorem acE [Fr] (n:Nat):ak Tryz.prog n Xm:=aj mixed aI Tryz.func57 (by kernel_rfl) (hi:=ain) (aa (anp n) aA) al9
def qR (n:Nat) (a0:Int):Option (Bool×Unit):=((dA n a0 (1:Int) (999:Int)).bind fun r1=>some (r1.1,()))
def acr:Entry:=⟨95,[.val (.int .i64) []],[.val .bool [] []],fun n c=>qR n c.1⟩
def aio:Hint:=⟨0,[],[],[],[(53,some 4,Ht)],[],[],[],[]⟩
theorem ama:gN T aio Tryz.f95 acr:=by intro n c; kernel_rfl
theorem ajv [Fr] (n:Nat):ak Tryz.prog n acr:=aj mixed aI Tryz.func95 (by kernel_rfl) (hi:=aio) (aa (KH n) aA) ama
def fE (n:Nat) (a0:Int):Option (Bool×Unit):=((dA n a0 (0:Int) (15:Int)).bind fun r1=>some (r1.1,()))
def acs:Entry:=⟨156,[.val (.int .i64) []],[.val .bool [] []],fun n c=>fE n c.1⟩
def aip:Hint:=⟨0,[],[],[],[(53,some 4,Ht)],[],[],[],[]⟩
theorem amb:gN T aip Tryz.f156 acs:=by intro n c; kernel_rfl
theorem ajw [Fr] (n:Nat):ak Tryz.prog n acs:=aj mixed aI Tryz.func156 (by kernel_rfl) (hi:=aip) (aa (KH n) aA) amb
def iA (n:Nat) (a0:Int):Option (Bool×Unit):=((dA n a0 (0:Int) (9999:Int)).bind fun r1=>some (r1.1,()))
def acu:Entry:=⟨157,[.val (.int .i64) []],[.val .bool [] []],fun n c=>iA n c.1⟩
def aiq:Hint:=⟨0,[],[],[],[(53,some 4,Ht)],[],[],[],[]⟩
theorem amc:gN T aiq Tryz.f157 acu:=by intro n c; kernel_rfl
theorem ajx [Fr] (n:Nat):ak Tryz.prog n acu:=aj mixed aI Tryz.func157 (by kernel_rfl) (hi:=aiq) (aa (KH n) aA) amc
def iZ (n:Nat) (a0:tL):Option (Int×Unit):=((qR n a0.1).bind fun r1=>(if (!r1.1)=true then some ((3:Int),()) else ((fE n a0.2.1).bind fun r2=>(if (!r2.1)=true then some ((3:Int),()) else ((iA n a0.2.2.1).bind fun r3=>(if (!r3.1)=true then some ((3:Int),()) else (if decide ((a0.2.2.2.1.length:Int)>(400:Int))=true then some ((2:Int),()) else some ((0:Int),()))))))))
def aff:Entry:=⟨151,[.val BP []],[.val (.int .i64) [] []],fun n c=>iZ n c.1⟩
def air:Hint:=⟨0,[],[],[],[(95,some 6,acr),(156,some 11,acs),(157,some 17,acu)],[],[],[],[]⟩
theorem amd:gN T air Tryz.f151 aff:=by intro n c; kernel_rfl
theorem anq [Fr] (n:Nat):ak Tryz.prog n aff:=aj mixed aI Tryz.func151 (by kernel_rfl) (hi:=air) (aa (ajv n) (aa (ajw n) (aa (ajx n) aA))) amd
def oF (n:Nat) (a0:dQ):Option (Int×Unit):=((jq n a0.1).bind fun r1=>(if (!r1.1)=true then some ((5:Int),()) else ((dA n a0.2.1 (1:Int) (999:Int)).bind fun r2=>(if (!r2.1)=true then some ((3:Int),()) else ((dA n a0.2.2.1 (1:Int) (1000:Int)).bind fun r3=>(if (!r3.1)=true then some ((3:Int),()) else (if decide ((a0.2.2.2.1.length:Int)>(6:Int))=true then some ((2:Int),()) else (rounds (fun L4 (v4:Int×(List tL)×Int×Int×dQ×Unit)=>(if decide (v4.2.2.2.1<v4.2.2.1)=true then (if aH v4.2.2.2.1 v4.2.1.length then ((iZ n (v4.2.1.getD v4.2.2.2.1.toNat lD)).bind fun r5=>(if (!decide (r5.1=(0:Int)))=true then some (r5.1,()) else (if decide (((v4.2.1.getD v4.2.2.2.1.toNat lD).1)≤v4.1)=true then some ((1:Int),()) else (if decide (((v4.2.1.getD v4.2.2.2.1.toNat lD).1)≥v4.2.2.2.2.1.2.2.1)=true then some ((1:Int),()) else L4 ((v4.2.1.getD v4.2.2.2.1.toNat lD).1,v4.2.1,v4.2.2.1,IntKind.i64.wrap (v4.2.2.2.1+(1:Int)),v4.2.2.2.2.1,()))))) else none) else some ((0:Int),()))) n ((0:Int),a0.2.2.2.1,(a0.2.2.2.1.length:Int),(0:Int),a0,())))))))))
def afg:Entry:=⟨116,[.val oJ []],[.val (.int .i64) [] []],fun n c=>oF n c.1⟩
def ais:Hint:=⟨0,[],[(1,[1,3,29,30,31],[34])],[],[(57,some 10,Xm),(53,some 15,Ht),(53,some 20,Ht),(151,some 36,aff)],[],[],[],[]⟩
theorem ame:gN T ais Tryz.f116 afg:=by intro n c; kernel_rfl
theorem anr [Fr] (n:Nat):ak Tryz.prog n afg:=aj mixed aI Tryz.func116 (by kernel_rfl) (hi:=ais) (aa (acE n) (aa (KH n) (aa (KH n) (aa (anq n) aA)))) ame
def lH (n:Nat) (a0:dQ) (a1:dQ):Option (Bool×Unit):=(if decide (a0.1=a1.1)=true then some (true,()) else some (decide (a0.2.1=a1.2.1),()))
def afh:Entry:=⟨118,[.val oJ [], .ro oJ],[.val .bool [] []],fun n c=>lH n c.1 c.2.1⟩
def ait:Hint:=⟨0,[],[],[],[],[],[],[],[]⟩
theorem amf:gN T ait Tryz.f118 afh:=by intro n c; kernel_rfl
theorem ant [Fr] (n:Nat):ak Tryz.prog n afh:=aj mixed aI Tryz.func118 (by kernel_rfl) (hi:=ait) aA amf
def aY (n:Nat) (a0:List dQ) (KS:dQ):Option (Int×Unit):=(rounds (fun L1 (v1:(List dQ)×dQ×Int×Int×Unit)=>(if decide (v1.2.2.2.1<v1.2.2.1)=true then (if aH v1.2.2.2.1 v1.1.length then ((lH n (v1.1.getD v1.2.2.2.1.toNat dH) v1.2.1).bind fun r2=>(if r2.1=true then some (v1.2.2.2.1,()) else L1 (v1.1,v1.2.1,v1.2.2.1,IntKind.i64.wrap (v1.2.2.2.1+(1:Int)),()))) else none) else some ((-1:Int),()))) n (a0,KS,(a0.length:Int),(0:Int),()))
def afi:Entry:=⟨152,[.val (.sl 147 oJ) [], .fn 118 [oJ]],[.val (.int .i64) [] []],fun n c=>aY n c.1 c.2.1⟩
def aiu:Hint:=⟨0,[],[(0,[0,1,7,8],[])],[],[(118,some 16,afh)],[],[],[],[]⟩
theorem amg:gN T aiu Tryz.f152 afi:=by intro n c; kernel_rfl
theorem anu [Fr] (n:Nat):ak Tryz.prog n afi:=aj mixed aI Tryz.func152 (by kernel_rfl) (hi:=aiu) (aa (ant n) aA) amg
def bB (n:Nat) (a0:List dQ) (KS:dQ):Option (Bool×Unit):=((aY n a0 KS).bind fun r1=>some (decide (r1.1≥(0:Int)),()))
def afj:Entry:=⟨117,[.val (.sl 147 oJ) [], .fn 118 [oJ]],[.val .bool [] []],fun n c=>bB n c.1 c.2.1⟩
def aiv:Hint:=⟨0,[],[],[],[(152,some 7,afi)],[],[],[],[]⟩
theorem amh:gN T aiv Tryz.f117 afj:=by intro n c; kernel_rfl
theorem anv [Fr] (n:Nat):ak Tryz.prog n afj:=aj mixed aI Tryz.func117 (by kernel_rfl) (hi:=aiv) (aa (anu n) aA) amh
def iL (n:Nat) (a0:fO):Option (Int×Unit):=((dA n a0.1 (1:Int) (1000:Int)).bind fun r1=>(if (!r1.1)=true then some ((3:Int),()) else (if decide ((a0.2.1.length:Int)>(3:Int))=true then some ((2:Int),()) else (rounds (fun L2 (v2:(List dQ)×Int×Int×fO×Unit)=>(if decide (v2.2.2.1<v2.2.1)=true then (if aH v2.2.2.1 v2.1.length then ((oF n (v2.1.getD v2.2.2.1.toNat dH)).bind fun r3=>(if (!decide (r3.1=(0:Int)))=true then some (r3.1,()) else (if decide ((((v2.1.getD v2.2.2.1.toNat dH).2).1)≥v2.2.2.2.1.1)=true then some ((9:Int),()) else (if 0≤v2.2.2.1∧v2.2.2.1≤(v2.2.2.2.1.2.1.length:Int) then ((bB n (v2.2.2.2.1.2.1.take v2.2.2.1.toNat) (v2.1.getD v2.2.2.1.toNat dH)).bind fun r4=>(if r4.1=true then some ((6:Int),()) else L2 (v2.1,v2.2.1,IntKind.i64.wrap (v2.2.2.1+(1:Int)),v2.2.2.2.1,()))) else none)))) else none) else some ((0:Int),()))) n (a0.2.1,(a0.2.1.length:Int),(0:Int),a0,())))))
def acv:Entry:=⟨92,[.val rU []],[.val (.int .i64) [] []],fun n c=>iL n c.1⟩
def aiw:Hint:=⟨0,[],[(1,[1,17,18,19],[34])],[],[(53,some 9,Ht),(116,some 25,afg),(117,some 41,afj)],[],[],[],[]⟩
theorem ami:gN T aiw Tryz.f92 acv:=by intro n c; kernel_rfl
theorem ajy [Fr] (n:Nat):ak Tryz.prog n acv:=aj mixed aI Tryz.func92 (by kernel_rfl) (hi:=aiw) (aa (KH n) (aa (anr n) (aa (anv n) aA))) ami
def bN (n:Nat) (a0:List Int):Option (Int×Unit):=some ((a0.length:Int),())
def Qg:Entry:=⟨76,[.val (.sl 5 (.int .u8)) []],[.val (.int .i64) [] []],fun n c=>bN n c.1⟩
def aix:Hint:=⟨0,[],[],[],[],[],[],[],[]⟩
theorem amj:gN T aix Tryz.f76 Qg:=by intro n c; kernel_rfl
theorem Uv [Fr] (n:Nat):ak Tryz.prog n Qg:=aj mixed aI Tryz.func76 (by kernel_rfl) (hi:=aix) aA amj
def fq (n:Nat) (a0:Zt1) (a1:Int):Option ((List Int)×Zt1×Unit):=(if a0.2.1=true then (if a1=a1∧0≤a1∧a1 * 1≤140737488355328 then some (List.replicate a1.toNat (0:Int),(a0.1,true,a0.2.2),()) else none) else ((bN n a0.1).bind fun r1=>(if decide (a1>r1.1)=true then (if a1=a1∧0≤a1∧a1 * 1≤140737488355328 then some (List.replicate a1.toNat (0:Int),(a0.1,true,a0.2.2),()) else none) else (if 0≤a1∧a1≤(a0.1.length:Int) then (if 0≤a1∧a1≤(a0.1.length:Int) then some (a0.1.take a1.toNat,(a0.1.drop a1.toNat,a0.2),()) else none) else none))))
def Un:Entry:=⟨125,[.rw Xu [] [4294967295] [5], .val (.int .i64) []],[.val (.sl 5 (.int .u8)) [0] []],fun n c=>fq n c.1 c.2.1⟩
def aiy:Hint:=⟨0,[],[],[],[(76,some 16,Qg)],[],[],[],[]⟩
theorem amk:gN T aiy Tryz.f125 Un:=by intro n c; kernel_rfl
theorem ZA [Fr] (n:Nat):ak Tryz.prog n Un:=aj mixed aI Tryz.func125 (by kernel_rfl) (hi:=aiy) (aa (Uv n) aA) amk
def gZ (n:Nat) (a0:Zt1):Option (Int×Zt1×Unit):=((fq n a0 (2:Int)).bind fun r1=>(if aH (0:Int) r1.1.length then (if aH (1:Int) r1.1.length then some (IntKind.i64.wrap ((IntKind.i64.wrap ((IntKind.i64.wrap (r1.1.getD (0:Int).toNat (0:Int))) * (256:Int)))+(IntKind.i64.wrap (r1.1.getD (1:Int).toNat (0:Int)))),r1.2.1,()) else none) else none))
def Xn:Entry:=⟨123,[.rw Xu [] [4294967295] [5]],[.val (.int .i64) [] []],fun n c=>gZ n c.1⟩
def aiz:Hint:=⟨0,[],[],[],[(125,some 5,Un)],[],[],[],[]⟩
theorem aml:gN T aiz Tryz.f123 Xn:=by intro n c; kernel_rfl
theorem acF [Fr] (n:Nat):ak Tryz.prog n Xn:=aj mixed aI Tryz.func123 (by kernel_rfl) (hi:=aiz) (aa (ZA n) aA) aml
def eY (n:Nat) (a0:Zt1):Option (Int×Zt1×Unit):=((fq n a0 (1:Int)).bind fun r1=>(if aH (0:Int) r1.1.length then some (IntKind.i64.wrap (r1.1.getD (0:Int).toNat (0:Int)),r1.2.1,()) else none))
def RU:Entry:=⟨124,[.rw Xu [] [4294967295] [5]],[.val (.int .i64) [] []],fun n c=>eY n c.1⟩
def aiA:Hint:=⟨0,[],[],[],[(125,some 4,Un)],[],[],[],[]⟩
theorem amm:gN T aiA Tryz.f124 RU:=by intro n c; kernel_rfl
theorem Xp [Fr] (n:Nat):ak Tryz.prog n RU:=aj mixed aI Tryz.func124 (by kernel_rfl) (hi:=aiA) (aa (ZA n) aA) amm
def oG (n:Nat) (a0:iI):Option (Bool×Unit):=(if decide (a0.1=(5:Int))=true then some (true,()) else some (decide (a0.1=(6:Int)),()))
def Zm:Entry:=⟨155,[.val kg []],[.val .bool [] []],fun n c=>oG n c.1⟩
def aiB:Hint:=⟨0,[],[],[],[],[],[],[],[]⟩
theorem amn:gN T aiB Tryz.f155 Zm:=by intro n c; kernel_rfl
theorem afM [Fr] (n:Nat):ak Tryz.prog n Zm:=aj mixed aI Tryz.func155 (by kernel_rfl) (hi:=aiB) aA amn
def kI (n:Nat) (a0:iI):Option (Bool×Unit):=((oG n a0).bind fun r1=>(if r1.1=true then some (true,()) else some (decide (a0.1=(4:Int)),())))
def afk:Entry:=⟨173,[.val kg []],[.val .bool [] []],fun n c=>kI n c.1⟩
def aiC:Hint:=⟨0,[],[],[],[(155,some 4,Zm)],[],[],[],[]⟩
theorem amo:gN T aiC Tryz.f173 afk:=by intro n c; kernel_rfl
theorem anx [Fr] (n:Nat):ak Tryz.prog n afk:=aj mixed aI Tryz.func173 (by kernel_rfl) (hi:=aiC) (aa (afM n) aA) amo
def qQ (n:Nat) (a0:iI):Option (Bool×Unit):=((oG n a0).bind fun r1=>(if r1.1=true then ((kI n a0).bind fun r2=>(if r2.1=true then (if decide (a0.1=(4:Int))=true then (if decide (a0.1=(4:Int))=true then (if decide (a0.1=(3:Int))=true then some (true,()) else (if decide (a0.2.2.2.2.2.2.1=(0:Int))=true then some (decide ((a0.2.2.2.2.2.2.2.1.length:Int)=(0:Int)),()) else some (false,()))) else (if decide (a0.1=(3:Int))=true then (if decide (a0.1=(3:Int))=true then some (true,()) else (if decide (a0.2.2.2.2.2.2.1=(0:Int))=true then some (decide ((a0.2.2.2.2.2.2.2.1.length:Int)=(0:Int)),()) else some (false,()))) else (if decide (a0.2.2.2.2.2.1=(0:Int))=true then (if decide (a0.1=(3:Int))=true then some (true,()) else (if decide (a0.2.2.2.2.2.2.1=(0:Int))=true then some (decide ((a0.2.2.2.2.2.2.2.1.length:Int)=(0:Int)),()) else some (false,()))) else some (false,())))) else (if decide (a0.2.2.2.2.1=(0:Int))=true then (if decide (a0.1=(4:Int))=true then (if decide (a0.1=(3:Int))=true then some (true,()) else (if decide (a0.2.2.2.2.2.2.1=(0:Int))=true then some (decide ((a0.2.2.2.2.2.2.2.1.length:Int)=(0:Int)),()) else some (false,()))) else (if decide (a0.1=(3:Int))=true then (if decide (a0.1=(3:Int))=true then some (true,()) else (if decide (a0.2.2.2.2.2.2.1=(0:Int))=true then some (decide ((a0.2.2.2.2.2.2.2.1.length:Int)=(0:Int)),()) else some (false,()))) else (if decide (a0.2.2.2.2.2.1=(0:Int))=true then (if decide (a0.1=(3:Int))=true then some (true,()) else (if decide (a0.2.2.2.2.2.2.1=(0:Int))=true then some (decide ((a0.2.2.2.2.2.2.2.1.length:Int)=(0:Int)),()) else some (false,()))) else some (false,())))) else some (false,()))) else (if decide ((a0.2.2.2.1.length:Int)=(0:Int))=true then (if decide (a0.1=(4:Int))=true then (if decide (a0.1=(4:Int))=true then (if decide (a0.1=(3:Int))=true then some (true,()) else (if decide (a0.2.2.2.2.2.2.1=(0:Int))=true then some (decide ((a0.2.2.2.2.2.2.2.1.length:Int)=(0:Int)),()) else some (false,()))) else (if decide (a0.1=(3:Int))=true then (if decide (a0.1=(3:Int))=true then some (true,()) else (if decide (a0.2.2.2.2.2.2.1=(0:Int))=true then some (decide ((a0.2.2.2.2.2.2.2.1.length:Int)=(0:Int)),()) else some (false,()))) else (if decide (a0.2.2.2.2.2.1=(0:Int))=true then (if decide (a0.1=(3:Int))=true then some (true,()) else (if decide (a0.2.2.2.2.2.2.1=(0:Int))=true then some (decide ((a0.2.2.2.2.2.2.2.1.length:Int)=(0:Int)),()) else some (false,()))) else some (false,())))) else (if decide (a0.2.2.2.2.1=(0:Int))=true then (if decide (a0.1=(4:Int))=true then (if decide (a0.1=(3:Int))=true then some (true,()) else (if decide (a0.2.2.2.2.2.2.1=(0:Int))=true then some (decide ((a0.2.2.2.2.2.2.2.1.length:Int)=(0:Int)),()) else some (false,()))) else (if decide (a0.1=(3:Int))=true then (if decide (a0.1=(3:Int))=true then some (true,()) else (if decide (a0.2.2.2.2.2.2.1=(0:Int))=true then some (decide ((a0.2.2.2.2.2.2.2.1.length:Int)=(0:Int)),()) else some (false,()))) else (if decide (a0.2.2.2.2.2.1=(0:Int))=true then (if decide (a0.1=(3:Int))=true then some (true,()) else (if decide (a0.2.2.2.2.2.2.1=(0:Int))=true then some (decide ((a0.2.2.2.2.2.2.2.1.length:Int)=(0:Int)),()) else some (false,()))) else some (false,())))) else some (false,()))) else some (false,())))) else (if decide (a0.2.2.1=([]:List Int))=true then ((kI n a0).bind fun r3=>(if r3.1=true then (if decide (a0.1=(4:Int))=true then (if decide (a0.1=(4:Int))=true then (if decide (a0.1=(3:Int))=true then some (true,()) else (if decide (a0.2.2.2.2.2.2.1=(0:Int))=true then some (decide ((a0.2.2.2.2.2.2.2.1.length:Int)=(0:Int)),()) else some (false,()))) else (if decide (a0.1=(3:Int))=true then (if decide (a0.1=(3:Int))=true then some (true,()) else (if decide (a0.2.2.2.2.2.2.1=(0:Int))=true then some (decide ((a0.2.2.2.2.2.2.2.1.length:Int)=(0:Int)),()) else some (false,()))) else (if decide (a0.2.2.2.2.2.1=(0:Int))=true then (if decide (a0.1=(3:Int))=true then some (true,()) else (if decide (a0.2.2.2.2.2.2.1=(0:Int))=true then some (decide ((a0.2.2.2.2.2.2.2.1.length:Int)=(0:Int)),()) else some (false,()))) else some (false,())))) else (if decide (a0.2.2.2.2.1=(0:Int))=true then (if decide (a0.1=(4:Int))=true then (if decide (a0.1=(3:Int))=true then some (true,()) else (if decide (a0.2.2.2.2.2.2.1=(0:Int))=true then some (decide ((a0.2.2.2.2.2.2.2.1.length:Int)=(0:Int)),()) else some (false,()))) else (if decide (a0.1=(3:Int))=true then (if decide (a0.1=(3:Int))=true then some (true,()) else (if decide (a0.2.2.2.2.2.2.1=(0:Int))=true then some (decide ((a0.2.2.2.2.2.2.2.1.length:Int)=(0:Int)),()) else some (false,()))) else (if decide (a0.2.2.2.2.2.1=(0:Int))=true then (if decide (a0.1=(3:Int))=true then some (true,()) else (if decide (a0.2.2.2.2.2.2.1=(0:Int))=true then some (decide ((a0.2.2.2.2.2.2.2.1.length:Int)=(0:Int)),()) else some (false,()))) else some (false,())))) else some (false,()))) else (if decide ((a0.2.2.2.1.length:Int)=(0:Int))=true then (if decide (a0.1=(4:Int))=true then (if decide (a0.1=(4:Int))=true then (if decide (a0.1=(3:Int))=true then some (true,()) else (if decide (a0.2.2.2.2.2.2.1=(0:Int))=true then some (decide ((a0.2.2.2.2.2.2.2.1.length:Int)=(0:Int)),()) else some (false,()))) else (if decide (a0.1=(3:Int))=true then (if decide (a0.1=(3:Int))=true then some (true,()) else (if decide (a0.2.2.2.2.2.2.1=(0:Int))=true then some (decide ((a0.2.2.2.2.2.2.2.1.length:Int)=(0:Int)),()) else some (false,()))) else (if decide (a0.2.2.2.2.2.1=(0:Int))=true then (if decide (a0.1=(3:Int))=true then some (true,()) else (if decide (a0.2.2.2.2.2.2.1=(0:Int))=true then some (decide ((a0.2.2.2.2.2.2.2.1.length:Int)=(0:Int)),()) else some (false,()))) else some (false,())))) else (if decide (a0.2.2.2.2.1=(0:Int))=true then (if decide (a0.1=(4:Int))=true then (if decide (a0.1=(3:Int))=true then some (true,()) else (if decide (a0.2.2.2.2.2.2.1=(0:Int))=true then some (decide ((a0.2.2.2.2.2.2.2.1.length:Int)=(0:Int)),()) else some (false,()))) else (if decide (a0.1=(3:Int))=true then (if decide (a0.1=(3:Int))=true then some (true,()) else (if decide (a0.2.2.2.2.2.2.1=(0:Int))=true then some (decide ((a0.2.2.2.2.2.2.2.1.length:Int)=(0:Int)),()) else some (false,()))) else (if decide (a0.2.2.2.2.2.1=(0:Int))=true then (if decide (a0.1=(3:Int))=true then some (true,()) else (if decide (a0.2.2.2.2.2.2.1=(0:Int))=true then some (decide ((a0.2.2.2.2.2.2.2.1.length:Int)=(0:Int)),()) else some (false,()))) else some (false,())))) else some (false,()))) else some (false,())))) else some (false,()))))
def afl:Entry:=⟨154,[.val kg []],[.val .bool [] []],fun n c=>qQ n c.1⟩
def aiD:Hint:=⟨0,[],[],[],[(155,some 12,Zm),(173,some 20,afk)],[],[],[],[]⟩
theorem amq:gN T aiD Tryz.f154 afl:=by intro n c; kernel_rfl
theorem anz [Fr] (n:Nat):ak Tryz.prog n afl:=aj mixed aI Tryz.func154 (by kernel_rfl) (hi:=aiD) (aa (afM n) (aa (anx n) aA)) amq
def mD (n:Nat) (a0:List Int):Option (Bool×Unit):=(rounds (fun L1 (v1:(List Int)×(List Int)×Int×Int×Unit)=>(if decide (v1.2.2.2.1<v1.2.2.1)=true then (if aH v1.2.2.2.1 v1.2.1.length then ((qR n (v1.2.1.getD v1.2.2.2.1.toNat (0:Int))).bind fun r2=>(if (!r2.1)=true then some (false,()) else (if decide (v1.2.2.2.1>(0:Int))=true then (if aH (IntKind.i64.wrap (v1.2.2.2.1 - (1:Int))) v1.1.length then (if decide ((v1.1.getD (IntKind.i64.wrap (v1.2.2.2.1 - (1:Int))).toNat (0:Int))≥(v1.2.1.getD v1.2.2.2.1.toNat (0:Int)))=true then some (false,()) else L1 (v1.1,v1.2.1,v1.2.2.1,IntKind.i64.wrap (v1.2.2.2.1+(1:Int)),())) else none) else L1 (v1.1,v1.2.1,v1.2.2.1,IntKind.i64.wrap (v1.2.2.2.1+(1:Int)),())))) else none) else some (true,()))) n (a0,a0,(a0.length:Int),(0:Int),()))
def acw:Entry:=⟨56,[.val (.sl 2 (.int .i64)) []],[.val .bool [] []],fun n c=>mD n c.1⟩
def aiE:Hint:=⟨0,[],[(0,[0,5,6,7],[])],[],[(95,some 13,acr)],[],[],[],[]⟩
theorem amr:gN T aiE Tryz.f56 acw:=by intro n c; kernel_rfl
theorem ajz [Fr] (n:Nat):ak Tryz.prog n acw:=aj mixed aI Tryz.func56 (by kernel_rfl) (hi:=aiE) (aa (ajv n) aA) amr
def qw (n:Nat) (a0:iI):Option (Int×Unit):=((dA n a0.1 (1:Int) (7:Int)).bind fun r1=>(if (!r1.1)=true then some ((1:Int),()) else ((qQ n a0).bind fun r2=>(if (!r2.1)=true then some ((1:Int),()) else ((jq n a0.2.1).bind fun r3=>(if (!r3.1)=true then some ((5:Int),()) else ((oG n a0).bind fun r4=>(if r4.1=true then ((jq n a0.2.2.1).bind fun r5=>(if (!r5.1)=true then some ((5:Int),()) else (if decide ((a0.2.2.2.1.length:Int)>(6:Int))=true then some ((2:Int),()) else ((mD n a0.2.2.2.1).bind fun r6=>(if (!r6.1)=true then some ((3:Int),()) else (if decide (a0.1=(4:Int))=true then ((dA n a0.2.2.2.2.1 (1:Int) (3:Int)).bind fun r7=>(if (!r7.1)=true then some ((3:Int),()) else ((fE n a0.2.2.2.2.2.1).bind fun r8=>(if (!r8.1)=true then some ((3:Int),()) else ((iA n a0.2.2.2.2.2.2.1).bind fun r9=>(if (!r9.1)=true then some ((3:Int),()) else (if decide ((a0.2.2.2.2.2.2.2.1.length:Int)>(400:Int))=true then some ((2:Int),()) else some ((0:Int),())))))))) else ((fE n a0.2.2.2.2.2.1).bind fun Rl=>(if (!Rl.1)=true then some ((3:Int),()) else ((iA n a0.2.2.2.2.2.2.1).bind fun Lj=>(if (!Lj.1)=true then some ((3:Int),()) else (if decide ((a0.2.2.2.2.2.2.2.1.length:Int)>(400:Int))=true then some ((2:Int),()) else some ((0:Int),())))))))))))) else (if decide ((a0.2.2.2.1.length:Int)>(6:Int))=true then some ((2:Int),()) else ((mD n a0.2.2.2.1).bind fun NK=>(if (!NK.1)=true then some ((3:Int),()) else (if decide (a0.1=(4:Int))=true then ((dA n a0.2.2.2.2.1 (1:Int) (3:Int)).bind fun RJ=>(if (!RJ.1)=true then some ((3:Int),()) else ((fE n a0.2.2.2.2.2.1).bind fun r14=>(if (!r14.1)=true then some ((3:Int),()) else ((iA n a0.2.2.2.2.2.2.1).bind fun Xa=>(if (!Xa.1)=true then some ((3:Int),()) else (if decide ((a0.2.2.2.2.2.2.2.1.length:Int)>(400:Int))=true then some ((2:Int),()) else some ((0:Int),())))))))) else ((fE n a0.2.2.2.2.2.1).bind fun r16=>(if (!r16.1)=true then some ((3:Int),()) else ((iA n a0.2.2.2.2.2.2.1).bind fun r17=>(if (!r17.1)=true then some ((3:Int),()) else (if decide ((a0.2.2.2.2.2.2.2.1.length:Int)>(400:Int))=true then some ((2:Int),()) else some ((0:Int),()))))))))))))))))))
def acy:Entry:=⟨126,[.val kg []],[.val (.int .i64) [] []],fun n c=>qw n c.1⟩
def aiF:Hint:=⟨0,[],[],[],[(53,some 6,Ht),(154,some 10,afl),(57,some 16,Xm),(155,some 20,Zm),(57,some 24,Xm),(56,some 36,acw),(53,some 45,Ht),(156,some 52,acs),(157,some 58,acu)],[],[],[],[]⟩
theorem ams:gN T aiF Tryz.f126 acy:=by intro n c; kernel_rfl
theorem ajA [Fr] (n:Nat):ak Tryz.prog n acy:=aj mixed aI Tryz.func126 (by kernel_rfl) (hi:=aiF) (aa (KH n) (aa (anz n) (aa (acE n) (aa (afM n) (aa (acE n) (aa (ajz n) (aa (KH n) (aa (ajw n) (aa (ajx n) aA))))))))) ams
def qz (n:Nat) (a0:Int):Option ((List Int)×Unit):=(if (256:Int)≠0 then (if (256:Int)≠0 then some ([IntKind.u8.wrap (IntKind.i64.wrap (a0.tdiv (256:Int))),IntKind.u8.wrap (a0.tmod (256:Int))],()) else none) else none)
def Uo:Entry:=⟨158,[.val (.int .i64) []],[.own (.sl 5 (.int .u8)) [5] [] []],fun n c=>qz n c.1⟩
def aiG:Hint:=⟨0,[],[],[],[],[],[],[],[]⟩
theorem amt:gN T aiG Tryz.f158 Uo:=by intro n c; kernel_rfl
theorem ZB [Fr] (n:Nat):ak Tryz.prog n Uo:=aj mixed aI Tryz.func158 (by kernel_rfl) (hi:=aiG) aA amt
def yz (n:Nat) (a0:List Int):Option (Int×Unit):=(rounds (fun L1 (v1:Int×(List Int)×Int×Int×Unit)=>(if decide (v1.2.2.2.1<v1.2.2.1)=true then (if aH v1.2.2.2.1 v1.2.1.length then (if (65521:Int)≠0 then L1 ((IntKind.i64.wrap ((IntKind.i64.wrap (v1.1 * (31:Int)))+(IntKind.i64.wrap (v1.2.1.getD v1.2.2.2.1.toNat (0:Int))))).tmod (65521:Int),v1.2.1,v1.2.2.1,IntKind.i64.wrap (v1.2.2.2.1+(1:Int)),()) else none) else none) else some (v1.1,()))) n ((1:Int),a0,(a0.length:Int),(0:Int),()))
def afm:Entry:=⟨159,[.val (.sl 5 (.int .u8)) []],[.val (.int .i64) [] []],fun n c=>yz n c.1⟩
def aiH:Hint:=⟨0,[],[(0,[3,6,7,8],[])],[],[],[],[],[],[]⟩
theorem amu:gN T aiH Tryz.f159 afm:=by intro n c; kernel_rfl
theorem anB [Fr] (n:Nat):ak Tryz.prog n afm:=aj mixed aI Tryz.func159 (by kernel_rfl) (hi:=aiH) aA amu
def wO (n:Nat) (a0:iI):Option ((List Int)×Unit):=(if ([IntKind.u8.wrap a0.1,IntKind.u8.wrap (a0.2.1.length:Int)].length+a0.2.1.length) * 1≤140737488355328 then (if (([IntKind.u8.wrap a0.1,IntKind.u8.wrap (a0.2.1.length:Int)]++a0.2.1).length+[IntKind.u8.wrap (a0.2.2.1.length:Int)].length) * 1≤140737488355328 then (if ((([IntKind.u8.wrap a0.1,IntKind.u8.wrap (a0.2.1.length:Int)]++a0.2.1)++[IntKind.u8.wrap (a0.2.2.1.length:Int)]).length+a0.2.2.1.length) * 1≤140737488355328 then (if (((([IntKind.u8.wrap a0.1,IntKind.u8.wrap (a0.2.1.length:Int)]++a0.2.1)++[IntKind.u8.wrap (a0.2.2.1.length:Int)])++a0.2.2.1).length+[IntKind.u8.wrap (a0.2.2.2.1.length:Int)].length) * 1≤140737488355328 then (rounds (fun L1 (v1:(List Int)×Int×Int×iI×(List Int)×Unit)=>(if decide (v1.2.2.1<v1.2.1)=true then (if aH v1.2.2.1 v1.1.length then ((qz n (v1.1.getD v1.2.2.1.toNat (0:Int))).bind fun r2=>(if (v1.2.2.2.2.1.length+r2.1.length) * 1≤140737488355328 then L1 (v1.1,v1.2.1,IntKind.i64.wrap (v1.2.2.1+(1:Int)),v1.2.2.2.1,v1.2.2.2.2.1++r2.1,()) else none)) else none) else (if (v1.2.2.2.2.1.length+[IntKind.u8.wrap v1.2.2.2.1.2.2.2.2.1,IntKind.u8.wrap v1.2.2.2.1.2.2.2.2.2.1].length) * 1≤140737488355328 then ((qz n v1.2.2.2.1.2.2.2.2.2.2.1).bind fun r3=>(if ((v1.2.2.2.2.1++[IntKind.u8.wrap v1.2.2.2.1.2.2.2.2.1,IntKind.u8.wrap v1.2.2.2.1.2.2.2.2.2.1]).length+r3.1.length) * 1≤140737488355328 then ((bN n v1.2.2.2.1.2.2.2.2.2.2.2.1).bind fun r4=>((qz n r4.1).bind fun r5=>(if (((v1.2.2.2.2.1++[IntKind.u8.wrap v1.2.2.2.1.2.2.2.2.1,IntKind.u8.wrap v1.2.2.2.1.2.2.2.2.2.1])++r3.1).length+r5.1.length) * 1≤140737488355328 then (if ((((v1.2.2.2.2.1++[IntKind.u8.wrap v1.2.2.2.1.2.2.2.2.1,IntKind.u8.wrap v1.2.2.2.1.2.2.2.2.2.1])++r3.1)++r5.1).length+v1.2.2.2.1.2.2.2.2.2.2.2.1.length) * 1≤140737488355328 then ((bN n ((((v1.2.2.2.2.1++[IntKind.u8.wrap v1.2.2.2.1.2.2.2.2.1,IntKind.u8.wrap v1.2.2.2.1.2.2.2.2.2.1])++r3.1)++r5.1)++v1.2.2.2.1.2.2.2.2.2.2.2.1)).bind fun r6=>((qz n (IntKind.i64.wrap (r6.1+(4:Int)))).bind fun r7=>(if (r7.1.length+((((v1.2.2.2.2.1++[IntKind.u8.wrap v1.2.2.2.1.2.2.2.2.1,IntKind.u8.wrap v1.2.2.2.1.2.2.2.2.2.1])++r3.1)++r5.1)++v1.2.2.2.1.2.2.2.2.2.2.2.1).length) * 1≤140737488355328 then ((yz n (r7.1++((((v1.2.2.2.2.1++[IntKind.u8.wrap v1.2.2.2.1.2.2.2.2.1,IntKind.u8.wrap v1.2.2.2.1.2.2.2.2.2.1])++r3.1)++r5.1)++v1.2.2.2.1.2.2.2.2.2.2.2.1))).bind fun r8=>((qz n r8.1).bind fun r9=>(if ((r7.1++((((v1.2.2.2.2.1++[IntKind.u8.wrap v1.2.2.2.1.2.2.2.2.1,IntKind.u8.wrap v1.2.2.2.1.2.2.2.2.2.1])++r3.1)++r5.1)++v1.2.2.2.1.2.2.2.2.2.2.2.1)).length+r9.1.length) * 1≤140737488355328 then some ((r7.1++((((v1.2.2.2.2.1++[IntKind.u8.wrap v1.2.2.2.1.2.2.2.2.1,IntKind.u8.wrap v1.2.2.2.1.2.2.2.2.2.1])++r3.1)++r5.1)++v1.2.2.2.1.2.2.2.2.2.2.2.1))++r9.1,()) else none))) else none))) else none) else none))) else none)) else none))) n (a0.2.2.2.1,(a0.2.2.2.1.length:Int),(0:Int),a0,((([IntKind.u8.wrap a0.1,IntKind.u8.wrap (a0.2.1.length:Int)]++a0.2.1)++[IntKind.u8.wrap (a0.2.2.1.length:Int)])++a0.2.2.1)++[IntKind.u8.wrap (a0.2.2.2.1.length:Int)],())) else none) else none) else none) else none)
def afn:Entry:=⟨128,[.val kg []],[.own (.sl 5 (.int .u8)) [5] [] []],fun n c=>wO n c.1⟩
def aiI:Hint:=⟨0,[],[(0,[1,3,37,38,39],[34,450])],[],[(158,some 45,Uo),(158,some 60,Uo),(76,some 64,Qg),(158,some 65,Uo),(76,some 72,Qg),(158,some 74,Uo),(159,some 79,afm),(158,some 80,Uo)],[],[],[],[]⟩
theorem amv:gN T aiI Tryz.f128 afn:=by intro n c; kernel_rfl
theorem anC [Fr] (n:Nat):ak Tryz.prog n afn:=aj mixed aI Tryz.func128 (by kernel_rfl) (hi:=aiI) (aa (ZB n) (aa (ZB n) (aa (Uv n) (aa (ZB n) (aa (Uv n) (aa (ZB n) (aa (anB n) (aa (ZB n) aA)))))))) amv
def Bc (n:Nat) (a0:List Int) (a1:List Int):Option (Bool×Unit):=some (decide (a0=a1),())
def afo:Entry:=⟨127,[.val (.sl 5 (.int .u8)) [], .val (.sl 5 (.int .u8)) []],[.val .bool [] []],fun n c=>Bc n c.1 c.2.1⟩
def aiJ:Hint:=⟨0,[],[],[],[],[],[],[],[]⟩
theorem amw:gN T aiJ Tryz.f127 afo:=by intro n c; kernel_rfl
theorem anD [Fr] (n:Nat):ak Tryz.prog n afo:=aj mixed aI Tryz.func127 (by kernel_rfl) (hi:=aiJ) aA amw
def rZ (n:Nat) (a0:List Int):Option (iI×Int×Unit):=((gZ n (a0,false,())).bind fun r1=>(if r1.2.1.2.1=true then some (Ie,(0:Int),()) else ((bN n a0).bind fun r2=>(if decide (r1.1>r2.1)=true then some (Ie,(0:Int),()) else (if 0≤(2:Int)∧(2:Int)≤(if r1.1>(2:Int) then r1.1 else (2:Int))∧(if r1.1>(2:Int) then r1.1 else (2:Int))≤(a0.length:Int) then ((eY n ((a0.take (if r1.1>(2:Int) then r1.1 else (2:Int)).toNat).drop (2:Int).toNat,r1.2.1.2)).bind fun r3=>((eY n r3.2.1).bind fun r4=>((fq n r4.2.1 r4.1).bind fun r5=>((eY n r5.2.1).bind fun r6=>((fq n r6.2.1 r6.1).bind fun r7=>((eY n r7.2.1).bind fun r8=>(rounds (fun L9 (v9:(List Int)×Int×Int×Int×iI×iI×Zt1×Unit)=>(if decide (v9.2.2.2.1<v9.2.2.1)=true then ((gZ n v9.2.2.2.2.2.2.1).bind fun Rl=>(if (v9.2.2.2.2.2.1.2.2.2.1.length+[Rl.1].length) * 8≤140737488355328 then L9 (v9.1,v9.2.1,v9.2.2.1,IntKind.i64.wrap (v9.2.2.2.1+(1:Int)),v9.2.2.2.2.1,(v9.2.2.2.2.2.1.1,v9.2.2.2.2.2.1.2.1,v9.2.2.2.2.2.1.2.2.1,v9.2.2.2.2.2.1.2.2.2.1++[Rl.1],v9.2.2.2.2.2.1.2.2.2.2),Rl.2.1,()) else none)) else ((eY n v9.2.2.2.2.2.2.1).bind fun Lj=>((eY n Lj.2.1).bind fun NK=>((gZ n NK.2.1).bind fun RJ=>((gZ n RJ.2.1).bind fun r14=>((fq n r14.2.1 r14.1).bind fun Xa=>(if (([]:List Int).length+Xa.1.length) * 1≤140737488355328 then (if Xa.2.1.2.1=true then some (Ie,(0:Int),()) else ((qw n (v9.2.2.2.2.2.1.1,v9.2.2.2.2.2.1.2.1,v9.2.2.2.2.2.1.2.2.1,v9.2.2.2.2.2.1.2.2.2.1,Lj.1,NK.1,RJ.1,([]:List Int)++Xa.1,v9.2.2.2.2.2.1.2.2.2.2.2.2.2.2)).bind fun r16=>(if (!decide (r16.1=(0:Int)))=true then some (Ie,(0:Int),()) else ((wO n (v9.2.2.2.2.2.1.1,v9.2.2.2.2.2.1.2.1,v9.2.2.2.2.2.1.2.2.1,v9.2.2.2.2.2.1.2.2.2.1,Lj.1,NK.1,RJ.1,([]:List Int)++Xa.1,v9.2.2.2.2.2.1.2.2.2.2.2.2.2.2)).bind fun r17=>(if 0≤v9.2.1∧v9.2.1≤(v9.1.length:Int) then ((Bc n r17.1 (v9.1.take v9.2.1.toNat)).bind fun r18=>(if (!r18.1)=true then some (Ie,(0:Int),()) else some ((v9.2.2.2.2.2.1.1,v9.2.2.2.2.2.1.2.1,v9.2.2.2.2.2.1.2.2.1,v9.2.2.2.2.2.1.2.2.2.1,Lj.1,NK.1,RJ.1,([]:List Int)++Xa.1,v9.2.2.2.2.2.1.2.2.2.2.2.2.2.2),v9.2.1,()))) else none))))) else none)))))))) n (a0,r1.1,r8.1,(0:Int),Ie,(r3.1,r5.1,r7.1,([]:List Int),(0:Int),(0:Int),(0:Int),([]:List Int),()),r8.2.1,())))))))) else none)))))
def afp:Entry:=⟨97,[.val (.sl 5 (.int .u8)) []],[.own kg [2,5] [] [], .val (.int .i64) [] []],fun n c=>rZ n c.1⟩
def aiK:Hint:=⟨0,[50,92],[(0,[0,2,4,5,6,46,47],[66,194,290])],[],[(123,some 11,Xn),(76,some 19,Qg),(124,some 31,RU),(124,some 35,RU),(125,some 36,Un),(124,some 41,RU),(125,some 42,Un),(124,some 46,RU),(123,some 52,Xn),(124,some 58,RU),(124,some 61,RU),(123,some 64,Xn),(123,some 69,Xn),(125,some 70,Un),(126,some 79,acy),(128,some 84,afn),(127,some 88,afo)],[],[],[],[]⟩
theorem amx:gN T aiK Tryz.f97 afp:=by intro n c; kernel_rfl
theorem anE [Fr] (n:Nat):ak Tryz.prog n afp:=aj mixed aI Tryz.func97 (by kernel_rfl) (hi:=aiK) (aa (acF n) (aa (Uv n) (aa (Xp n) (aa (Xp n) (aa (ZA n) (aa (Xp n) (aa (ZA n) (aa (Xp n) (aa (acF n) (aa (Xp n) (aa (Xp n) (aa (acF n) (aa (acF n) (aa (ZA n) (aa (ajA n) (aa (anC n) (aa (anD n) aA))))))))))))))))) amx
def qy (n:Nat) (a0:List Int):Option ((List iI)×Int×Unit):=(rounds (fun L1 (v1:(List Int)×Int×(List iI)×Unit)=>(if 0≤v1.2.1∧v1.2.1≤(v1.1.length:Int) then ((rZ n (v1.1.drop v1.2.1.toNat)).bind fun r2=>(if decide (r2.2.1=(0:Int))=true then some (v1.2.2.1,v1.2.1,()) else (if (v1.2.2.1.length+[r2.1].length) * 112≤140737488355328 then L1 (v1.1,IntKind.i64.wrap (v1.2.1+r2.2.1),v1.2.2.1++[r2.1],()) else none))) else none)) n (a0,(0:Int),([]:List iI),()))
def acz:Entry:=⟨58,[.val (.sl 5 (.int .u8)) []],[.own (.sl 121 kg) [2,5,121] [] [], .val (.int .i64) [] []],fun n c=>qy n c.1⟩
def aiL:Hint:=⟨0,[21],[(0,[0,4,5],[258])],[],[(97,some 13,afp)],[],[],[],[]⟩
theorem amy:gN T aiL Tryz.f58 acz:=by intro n c; kernel_rfl
theorem ajB [Fr] (n:Nat):ak Tryz.prog n acz:=aj mixed aI Tryz.func58 (by kernel_rfl) (hi:=aiL) (aa (anE n) aA) amy
def mq (n:Nat) (a0:CR):Option ((List iI)×Bool×Unit):=((qy n a0.2.1).bind fun r1=>((qy n a0.2.2.1).bind fun r2=>(if (r1.1.length+r2.1.length) * 112≤140737488355328 then ((bN n a0.2.1).bind fun r3=>(if decide (r1.2.1=r3.1)=true then ((bN n a0.2.2.1).bind fun r4=>some (r1.1++r2.1,decide (r2.2.1=r4.1),())) else some (r1.1++r2.1,false,()))) else none)))
def afq:Entry:=⟨93,[.val EA []],[.own (.sl 121 kg) [2,5,121] [] [], .val .bool [] []],fun n c=>mq n c.1⟩
def aiM:Hint:=⟨0,[],[],[],[(58,some 11,acz),(58,some 17,acz),(76,some 26,Qg),(76,some 32,Qg)],[],[],[],[]⟩
theorem amz:gN T aiM Tryz.f93 afq:=by intro n c; kernel_rfl
theorem anF [Fr] (n:Nat):ak Tryz.prog n afq:=aj mixed aI Tryz.func93 (by kernel_rfl) (hi:=aiM) (aa (ajB n) (aa (ajB n) (aa (Uv n) (aa (Uv n) aA)))) amz
def yw (n:Nat)  : Option (fO×Unit):=some (((1:Int),([]:List dQ),()),())
def afr:Entry:=⟨60,[],[.own rU [5,147,162] [] []],fun n c=>yw n⟩
def aiN:Hint:=⟨0,[],[],[],[],[],[],[],[]⟩
theorem amA:gN T aiN Tryz.f60 afr:=by intro n c; kernel_rfl
theorem anG [Fr] (n:Nat):ak Tryz.prog n afr:=aj mixed aI Tryz.func60 (by kernel_rfl) (hi:=aiN) aA amA
def dV (n:Nat) (a0:List Int):Option ((List Int)×Unit):=(if a0.isEmpty=true then (agC [(.sl 5 (.int .u8))] (some (([]:List Int),())) (if (([]:List Int).length+a0.length) * 1≤140737488355328 then some (([]:List Int)++a0,()) else none)) else (if (([]:List Int).length+a0.length) * 1≤140737488355328 then some (([]:List Int)++a0,()) else none))
def Zn:Entry:=⟨61,[.val (.sl 5 (.int .u8)) []],[.own (.sl 5 (.int .u8)) [5] [] []],fun n c=>dV n c.1⟩
def aiO:Hint:=⟨0,[],[],[],[],[],[],[],[]⟩
theorem amB:gN T aiO Tryz.f61 Zn:=by intro n c; kernel_rfl
theorem afN [Fr] (n:Nat):ak Tryz.prog n Zn:=aj mixed aI Tryz.func61 (by kernel_rfl) (hi:=aiO) aA amB
def mo (n:Nat) (a0:fO):Option (fO×Unit):=(rounds (fun L1 (v1:(List dQ)×Int×Int×fO×fO×Unit)=>(if decide (v1.2.2.1<v1.2.1)=true then (if aH v1.2.2.1 v1.1.length then (rounds (fun L2 (v2:(List dQ)×Int×Int×(List tL)×Int×Int×fO×fO×dQ×Unit)=>(if decide (v2.2.2.2.2.2.1<v2.2.2.2.2.1)=true then (if aH v2.2.2.2.2.2.1 v2.2.2.2.1.length then ((dV n (((((v2.2.2.2.1.getD v2.2.2.2.2.2.1.toNat lD).2).2).2).1)).bind fun r3=>(if (v2.2.2.2.2.2.2.2.2.1.2.2.2.1.length+[((v2.2.2.2.1.getD v2.2.2.2.2.2.1.toNat lD).1,((v2.2.2.2.1.getD v2.2.2.2.2.2.1.toNat lD).2).1,(((v2.2.2.2.1.getD v2.2.2.2.2.2.1.toNat lD).2).2).1,r3.1,((((v2.2.2.2.1.getD v2.2.2.2.2.2.1.toNat lD).2).2).2).2)].length) * 48≤140737488355328 then L2 (v2.1,v2.2.1,v2.2.2.1,v2.2.2.2.1,v2.2.2.2.2.1,IntKind.i64.wrap (v2.2.2.2.2.2.1+(1:Int)),v2.2.2.2.2.2.2.1,v2.2.2.2.2.2.2.2.1,(v2.2.2.2.2.2.2.2.2.1.1,v2.2.2.2.2.2.2.2.2.1.2.1,v2.2.2.2.2.2.2.2.2.1.2.2.1,v2.2.2.2.2.2.2.2.2.1.2.2.2.1++[((v2.2.2.2.1.getD v2.2.2.2.2.2.1.toNat lD).1,((v2.2.2.2.1.getD v2.2.2.2.2.2.1.toNat lD).2).1,(((v2.2.2.2.1.getD v2.2.2.2.2.2.1.toNat lD).2).2).1,r3.1,((((v2.2.2.2.1.getD v2.2.2.2.2.2.1.toNat lD).2).2).2).2)],v2.2.2.2.2.2.2.2.2.1.2.2.2.2),()) else none)) else none) else (if (v2.2.2.2.2.2.2.2.1.2.1.length+[v2.2.2.2.2.2.2.2.2.1].length) * 56≤140737488355328 then L1 (v2.1,v2.2.1,IntKind.i64.wrap (v2.2.2.1+(1:Int)),v2.2.2.2.2.2.2.1,(v2.2.2.2.2.2.2.2.1.1,v2.2.2.2.2.2.2.2.1.2.1++[v2.2.2.2.2.2.2.2.2.1],v2.2.2.2.2.2.2.2.1.2.2),()) else none))) n (v1.1,v1.2.1,v1.2.2.1,((((v1.1.getD v1.2.2.1.toNat dH).2).2).2).1,((((((v1.1.getD v1.2.2.1.toNat dH).2).2).2).1).length:Int),(0:Int),v1.2.2.2.1,v1.2.2.2.2.1,((v1.1.getD v1.2.2.1.toNat dH).1,((v1.1.getD v1.2.2.1.toNat dH).2).1,(((v1.1.getD v1.2.2.1.toNat dH).2).2).1,([]:List tL),()),())) else none) else some (v1.2.2.2.2.1,()))) n (a0.2.1,(a0.2.1.length:Int),(0:Int),Ox,(a0.1,([]:List dQ),()),()))
def acA:Entry:=⟨98,[.val rU []],[.own rU [5,147,162] [] []],fun n c=>mo n c.1⟩
def aiP:Hint:=⟨0,[38,39,45,46,51],[(0,[2,3,13,14,15],[66,98]),(2,[2,3,6,13,14,15,27,28,29],[66,98,194])],[],[(61,some 35,Zn)],[],[],[],[]⟩
theorem amC:gN T aiP Tryz.f98 acA:=by intro n c; kernel_rfl
theorem ajC [Fr] (n:Nat):ak Tryz.prog n acA:=aj mixed aI Tryz.func98 (by kernel_rfl) (hi:=aiP) (aa (afN n) aA) amC
def tJ (n:Nat) (a0:dQ) (a1:List Int):Option (Bool×Unit):=some (decide (a0.1=a1),())
def afs:Entry:=⟨174,[.val oJ [], .ro .str],[.val .bool [] []],fun n c=>tJ n c.1 c.2.1⟩
def aiQ:Hint:=⟨0,[],[],[],[],[],[],[],[]⟩
theorem amD:gN T aiQ Tryz.f174 afs:=by intro n c; kernel_rfl
theorem anH [Fr] (n:Nat):ak Tryz.prog n afs:=aj mixed aI Tryz.func174 (by kernel_rfl) (hi:=aiQ) aA amD
def bX (n:Nat) (a0:List dQ) (KS:List Int):Option (Int×Unit):=(rounds (fun L1 (v1:(List dQ)×(List Int)×Int×Int×Unit)=>(if decide (v1.2.2.2.1<v1.2.2.1)=true then (if aH v1.2.2.2.1 v1.1.length then ((tJ n (v1.1.getD v1.2.2.2.1.toNat dH) v1.2.1).bind fun r2=>(if r2.1=true then some (v1.2.2.2.1,()) else L1 (v1.1,v1.2.1,v1.2.2.1,IntKind.i64.wrap (v1.2.2.2.1+(1:Int)),()))) else none) else some ((-1:Int),()))) n (a0,KS,(a0.length:Int),(0:Int),()))
def aft:Entry:=⟨152,[.val (.sl 147 oJ) [], .fn 174 [.str]],[.val (.int .i64) [] []],fun n c=>bX n c.1 c.2.1⟩
def aiR:Hint:=⟨0,[],[(0,[0,1,7,8],[])],[],[(174,some 16,afs)],[],[],[],[]⟩
theorem amE:gN T aiR Tryz.f152 aft:=by intro n c; kernel_rfl
theorem anI [Fr] (n:Nat):ak Tryz.prog n aft:=aj mixed aI Tryz.func152 (by kernel_rfl) (hi:=aiR) (aa (anH n) aA) amE
def jB (n:Nat) (a0:fO) (a1:List Int):Option (Int×Unit):=((bX n a0.2.1 a1).bind fun r1=>some (r1.1,()))
def Zo:Entry:=⟨161,[.val rU [], .val .str []],[.val (.int .i64) [] []],fun n c=>jB n c.1 c.2.1⟩
def aiS:Hint:=⟨0,[],[],[],[(152,some 8,aft)],[],[],[],[]⟩
theorem amF:gN T aiS Tryz.f161 Zo:=by intro n c; kernel_rfl
theorem afO [Fr] (n:Nat):ak Tryz.prog n Zo:=aj mixed aI Tryz.func161 (by kernel_rfl) (hi:=aiS) (aa (anI n) aA) amF
def o7 (n:Nat) (a0:fO) (a1:List Int):Option (Int×fO×Unit):=((jB n a0 a1).bind fun r1=>(if decide (r1.1≥(0:Int))=true then some ((6:Int),a0,()) else (if decide ((a0.2.1.length:Int)=(3:Int))=true then some ((10:Int),a0,()) else (if decide (a0.1=(1000:Int))=true then some ((10:Int),a0,()) else (if (a0.2.1.length+[(a1,a0.1,(1:Int),([]:List tL),())].length) * 56≤140737488355328 then some ((0:Int),(IntKind.i64.wrap (a0.1+(1:Int)),a0.2.1++[(a1,a0.1,(1:Int),([]:List tL),())],a0.2.2),()) else none)))))
def afu:Entry:=⟨160,[.rw rU [5,147,162] [5,147,162,4294967295] [5,147,162], .val .str []],[.val (.int .i64) [] []],fun n c=>o7 n c.1 c.2.1⟩
def aiT:Hint:=⟨0,[30],[],[],[(161,some 10,Zo)],[],[],[],[]⟩
theorem amG:gN T aiT Tryz.f160 afu:=by intro n c; kernel_rfl
theorem anJ [Fr] (n:Nat):ak Tryz.prog n afu:=aj mixed aI Tryz.func160 (by kernel_rfl) (hi:=aiT) (aa (afO n) aA) amG
namespace Us
def tyI:Y1:={ ty:=[(2,(.int .i64)),(3,(.int .i64)),(4, .bool),(5,(.int .u8)),(6,(.int .u8)),(7,Zk4),(8,Zk4),(9, .str),(10, .str),(11, .str),(12,(.int .u64)),(13,Zk0),(14,Zk0),(21,(.int .i32)),(22,(.sl 5 (.int .u8))),(23,(.sl 142 Mg)),(24,UC),(25,UC),(26,UE),(27,UE),(28,(.sl 79 zV)),(29,UG),(30,UG),(32,(.sl 9 .str)),(33,(.sl 147 Zk3)),(34,Zk8),(35,Zk8),(36,acR),(37,acR),(38,(.sl 74 zV)),(39,afU),(40,afU),(41,ajO),(42,ajO),(57,(.sl 2 (.int .i64))),(58,ajM),(59,ajM),(73,zV),(74,zV),(79,zV),(85,(.sl 121 kg)),(88,ajL),(89,ajL),(120,kg),(121,kg),(122,Mh),(123,Mh),(137,(.sl 22 (.sl 5 (.int .u8)))),(140,(.sl 203 BP)),(141,Mg),(142,Mg),(145,(.sl 162 BP)),(146,Zk3),(147,Zk3),(161,BP),(162,BP),(166,Xu),(167,Xu),(179,Xv),(180,Xv),(203,BP),(219,(.int .u32)),(220,(.int .u8)),(221,(.int .u8)),(224,(.int .i32)),(225,(.int .i32))],bytes:=[(2,8),(3,8),(4,1),(5,1),(6,1),(7,24),(8,24),(9,16),(10,16),(11,16),(12,8),(13,24),(14,24),(21,4),(22,24),(23,24),(24,32),(25,32),(26,88),(27,88),(28,24),(29,112),(30,112),(32,24),(33,24),(34,32),(35,32),(36,88),(37,88),(38,24),(39,112),(40,112),(41,144),(42,144),(57,24),(58,120),(59,120),(73,56),(74,56),(79,56),(85,24),(88,64),(89,64),(120,112),(121,112),(122,128),(123,128),(137,24),(140,24),(141,56),(142,56),(145,24),(146,56),(147,56),(161,48),(162,48),(166,32),(167,32),(179,40),(180,40),(203,48),(219,4),(220,1),(221,1),(224,4),(225,4)],ptr:=[15,16,17,55,81,83,116,144,151,165,177,182,223],ids:=true }
def T:jv:=tyI.tab
theorem aI:Fj Tryz.prog tyI=true:=by kernel_rfl
theorem mixed:Tryz.prog.follows .mixedOrders=true:=by kernel_rfl
def bQ (n:Nat) (a0:List Zt3) (a1:Int) (a2:Int):Option Zt8:=(if 0≤a1∧a1≤a2∧a2≤(a0.length:Int)∧(a0.length:Int)≤(a0.length:Int) then (if decide (a1=a2)=true then some (((a0.length:Nat):Int),a0,()) else (if 0≤(0:Int)∧(0:Int)≤a1∧a1≤(a0.length:Int) then (if 0≤a2∧a2≤(a0.length:Int)∧(a0.length:Int)≤(a0.length:Int) then (if a1.toNat≤a2.toNat then (if 0≤(((a1.toNat+((a0.length:Int).toNat - a2.toNat)) - 0:Nat):Int)∧(((a1.toNat+((a0.length:Int).toNat - a2.toNat)) - 0:Nat):Int)≤(a0.length:Int)∧((0:Nat):Int)+(a0.length:Int)≤((a0.take a1.toNat++(a0.take ((a0.length:Int).toNat)).drop a2.toNat++a0.drop (a1.toNat+((a0.length:Int).toNat - a2.toNat))).length:Int) then some ((((a1.toNat+((a0.length:Int).toNat - a2.toNat)):Nat):Int),(a0.take a1.toNat++(a0.take ((a0.length:Int).toNat)).drop a2.toNat++a0.drop (a1.toNat+((a0.length:Int).toNat - a2.toNat))).take (0+(((a1.toNat+((a0.length:Int).toNat - a2.toNat)) - 0:Nat):Int).toNat)++List.replicate ((0+(a0.length:Int).toNat) - (0+(((a1.toNat+((a0.length:Int).toNat - a2.toNat)) - 0:Nat):Int).toNat)) (([]:List Int),(0:Int),(0:Int),(0:Nat),())++(a0.take a1.toNat++(a0.take ((a0.length:Int).toNat)).drop a2.toNat++a0.drop (a1.toNat+((a0.length:Int).toNat - a2.toNat))).drop (0+(a0.length:Int).toNat),()) else none) else none) else none) else none)) else none)
def Zp:Entry:=⟨162,[.jw (.sl 147 Zk3) [5,147,162] [147], .val (.int .i64) [], .val (.int .i64) []],[.into 0 []],fun n c=>bQ n c.1 c.2.1 c.2.2.1⟩
def aiU:Hint:=⟨0,[],[],[],[],[],[],[13,22,25,26,29,31],[]⟩
theorem amH:gN T aiU Tryz.f162 Zp:=by intro n c; kernel_rfl
theorem afP [Fr] (n:Nat):ak Tryz.prog n Zp:=aj mixed aI Tryz.func162 (by kernel_rfl) (hi:=aiU) aA amH
end Us
def aeB:List dh:=[.jw (.sl 147 oJ) [5,147,162] [147], .val (.int .i64) [], .val (.int .i64) []]
def ak4:List jF:=[.into 0 []]
def bQ (n:Nat) (a0:List dQ) (a1:Int) (a2:Int):Option (Int×List dQ×Unit):=nK.MI dH a0 a1 a2
def Zp:Entry:=⟨162,aeB,ak4,fun n (c:Cont (kin aeB))=>bQ n c.1 c.2.1 c.2.2.1⟩
theorem afP [Fr] (n:Nat):ak Tryz.prog n Zp:=nK.QE (k0:=.str) (kk:=BP) (e:=162) (t:=147) (ow:=[5,147,162]) (wt:=[147]) (vG:=[147]) (d0:=([]:List Int)) (FI:=Us.bQ) (by simp [K.tys,aL]) (by simp [K.tys,aL]) (by simp [K.tys,aL]) (fun fr=>Us.afP n) (by simp [oC,aL]) (fun _ _ _=>⟨rfl,rfl⟩) (fun xs i j h=>nK.U4 _ xs i j h)
def uD (n:Nat) (a0:dQ) (a1:tL):Option (Int×dQ×Unit):=((dV n a1.2.2.2.1).bind fun r1=>(if [(a0.2.2.1,a1.2.1,a1.2.2.1,r1.1,())].length=1∧(a0.2.2.2.1.length+1) * 48≤140737488355328 then some (IntKind.i64.wrap ((IntKind.i64.wrap (a0.2.2.1+(1:Int))) - (1:Int)),(a0.1,a0.2.1,IntKind.i64.wrap (a0.2.2.1+(1:Int)),a0.2.2.2.1++[[(a0.2.2.1,a1.2.1,a1.2.2.1,r1.1,())].getD 0 lD],a0.2.2.2.2),()) else none))
def afv:Entry:=⟨163,[.rw oJ [5,162] [162,4294967295] [5,162], .val BP []],[.val (.int .i64) [] []],fun n c=>uD n c.1 c.2.1⟩
def aiV:Hint:=⟨0,[9],[],[],[(61,some 20,Zn)],[],[],[],[23]⟩
theorem amI:gN T aiV Tryz.f163 afv:=by intro n c; kernel_rfl
theorem anK [Fr] (n:Nat):ak Tryz.prog n afv:=aj mixed aI Tryz.func163 (by kernel_rfl) (hi:=aiV) (aa (afN n) aA) amI
def eH (n:Nat) (a0:List Int) (a1:Int):Option (Int×Unit):=(rounds (fun L1 (v1:(List Int)×Int×Int×Int×Unit)=>(if decide (v1.2.2.2.1<v1.2.2.1)=true then (if aH v1.2.2.2.1 v1.1.length then (if decide (v1.2.1=(v1.1.getD v1.2.2.2.1.toNat (0:Int)))=true then some (v1.2.2.2.1,()) else L1 (v1.1,v1.2.1,v1.2.2.1,IntKind.i64.wrap (v1.2.2.2.1+(1:Int)),())) else none) else some ((-1:Int),()))) n (a0,a1,(a0.length:Int),(0:Int),()))
def Uq:Entry:=⟨180,[.val (.sl 2 (.int .i64)) [], .val (.int .i64) []],[.val (.int .i64) [] []],fun n c=>eH n c.1 c.2.1⟩
def Zw:Hint:=⟨0,[],[(0,[0,1,7,8],[])],[],[],[],[],[],[]⟩
theorem aeO:gN T Zw Tryz.f180 Uq:=by intro n c; kernel_rfl
theorem afQ [Fr] (n:Nat):ak Tryz.prog n Uq:=aj mixed aI Tryz.func180 (by kernel_rfl) (hi:=Zw) aA aeO
def aW (n:Nat) (a0:List Int) (a1:Int):Option (Bool×Unit):=((eH n a0 a1).bind fun r1=>some (decide (r1.1≥(0:Int)),()))
def RV:Entry:=⟨175,[.val (.sl 2 (.int .i64)) [], .val (.int .i64) []],[.val .bool [] []],fun n c=>aW n c.1 c.2.1⟩
def Zx:Hint:=⟨0,[],[],[],[(180,some 7,Uq)],[],[],[],[]⟩
theorem aeP:gN T Zx Tryz.f175 RV:=by intro n c; kernel_rfl
theorem acG [Fr] (n:Nat):ak Tryz.prog n RV:=aj mixed aI Tryz.func175 (by kernel_rfl) (hi:=Zx) (aa (afQ n) aA) aeP
def nM (n:Nat) (a0:dQ) (a1:iI):Option ((List Int)×dQ×Unit):=(rounds (fun L1 (v1:Int×Int×dQ×iI×(List Int)×Unit)=>(if decide (v1.2.1<v1.1)=true then (if aH v1.2.1 v1.2.2.1.2.2.2.1.length then ((aW n v1.2.2.2.1.2.2.2.1 ((v1.2.2.1.2.2.2.1.getD v1.2.1.toNat lD).1)).bind fun r2=>(if (!r2.1)=true then L1 (v1.1,IntKind.i64.wrap (v1.2.1+(1:Int)),v1.2.2.1,v1.2.2.2.1,v1.2.2.2.2.1,()) else (if (v1.2.2.2.2.1.length+[(v1.2.2.1.2.2.2.1.getD v1.2.1.toNat lD).1].length) * 8≤140737488355328 then (if decide (v1.2.2.2.1.2.2.2.2.1=(1:Int))=true then L1 (v1.1,IntKind.i64.wrap (v1.2.1+(1:Int)),(v1.2.2.1.1,v1.2.2.1.2.1,v1.2.2.1.2.2.1,(fH v1.2.2.1.2.2.2.1 v1.2.1.toNat lD fun z1=>(z1.1,v1.2.2.2.1.2.2.2.2.2.1,z1.2.2)),v1.2.2.1.2.2.2.2),v1.2.2.2.1,v1.2.2.2.2.1++[(v1.2.2.1.2.2.2.1.getD v1.2.1.toNat lD).1],()) else (if decide (v1.2.2.2.1.2.2.2.2.1=(2:Int))=true then L1 (v1.1,IntKind.i64.wrap (v1.2.1+(1:Int)),(v1.2.2.1.1,v1.2.2.1.2.1,v1.2.2.1.2.2.1,(fH v1.2.2.1.2.2.2.1 v1.2.1.toNat lD fun z1=>(z1.1,IntKind.i64.wrap ((BitVec.ofInt (IntKind.bits .i64) (((v1.2.2.1.2.2.2.1.getD v1.2.1.toNat lD).2).1) ||| BitVec.ofInt (IntKind.bits .i64) v1.2.2.2.1.2.2.2.2.2.1).toNat),z1.2.2)),v1.2.2.1.2.2.2.2),v1.2.2.2.1,v1.2.2.2.2.1++[(v1.2.2.1.2.2.2.1.getD v1.2.1.toNat lD).1],()) else L1 (v1.1,IntKind.i64.wrap (v1.2.1+(1:Int)),(v1.2.2.1.1,v1.2.2.1.2.1,v1.2.2.1.2.2.1,(fH v1.2.2.1.2.2.2.1 v1.2.1.toNat lD fun z1=>(z1.1,IntKind.i64.wrap ((BitVec.ofInt (IntKind.bits .i64) (((v1.2.2.1.2.2.2.1.getD v1.2.1.toNat lD).2).1) &&& ~~~ BitVec.ofInt (IntKind.bits .i64) v1.2.2.2.1.2.2.2.2.2.1).toNat),z1.2.2)),v1.2.2.1.2.2.2.2),v1.2.2.2.1,v1.2.2.2.2.1++[(v1.2.2.1.2.2.2.1.getD v1.2.1.toNat lD).1],()))) else none))) else none) else some (v1.2.2.2.2.1,v1.2.2.1,()))) n ((a0.2.2.2.1.length:Int),(0:Int),a0,a1,([]:List Int),()))
def afw:Entry:=⟨164,[.rw oJ [5,162] [162] [], .val kg []],[.own (.sl 2 (.int .i64)) [2] [] []],fun n c=>nM n c.1 c.2.1⟩
def aiW:Hint:=⟨0,[20],[(0,[0,3,5,13,14],[0,98,258])],[],[(175,some 29,RV)],[],[],[],[]⟩
theorem amJ:gN T aiW Tryz.f164 afw:=by intro n c; kernel_rfl
theorem anL [Fr] (n:Nat):ak Tryz.prog n afw:=aj mixed aI Tryz.func164 (by kernel_rfl) (hi:=aiW) (aa (acG n) aA) amJ
namespace IdP
def tyI:Y1:={ ty:=[(2,(.int .i64)),(3,(.int .i64)),(4, .bool),(5,(.int .u8)),(6,(.int .u8)),(7,Zk4),(8,Zk4),(9, .str),(10, .str),(11, .str),(12,(.int .u64)),(13,Zk0),(14,Zk0),(21,(.int .i32)),(22,(.sl 5 (.int .u8))),(23,(.sl 142 Zk9)),(24,UB),(25,UB),(26,UD),(27,UD),(28,(.sl 79 zV)),(29,Xy),(30,Xy),(32,(.sl 9 .str)),(33,(.sl 147 KP)),(34,R9),(35,R9),(36,Sa),(37,Sa),(38,(.sl 74 zV)),(39,UF),(40,UF),(41,Xz),(42,Xz),(57,(.sl 2 (.int .i64))),(58,Xx),(59,Xx),(73,zV),(74,zV),(79,zV),(85,(.sl 121 kg)),(88,Xw),(89,Xw),(120,kg),(121,kg),(122,Mh),(123,Mh),(137,(.sl 22 (.sl 5 (.int .u8)))),(140,(.sl 203 Ov)),(141,Zk9),(142,Zk9),(145,(.sl 162 Ov)),(146,KP),(147,KP),(161,Ov),(162,Ov),(166,Xu),(167,Xu),(179,Xv),(180,Xv),(203,Ov),(219,(.int .u32)),(220,(.int .u8)),(221,(.int .u8)),(224,(.int .i32)),(225,(.int .i32))],bytes:=[(2,8),(3,8),(4,1),(5,1),(6,1),(7,24),(8,24),(9,16),(10,16),(11,16),(12,8),(13,24),(14,24),(21,4),(22,24),(23,24),(24,32),(25,32),(26,88),(27,88),(28,24),(29,112),(30,112),(32,24),(33,24),(34,32),(35,32),(36,88),(37,88),(38,24),(39,112),(40,112),(41,144),(42,144),(57,24),(58,120),(59,120),(73,56),(74,56),(79,56),(85,24),(88,64),(89,64),(120,112),(121,112),(122,128),(123,128),(137,24),(140,24),(141,56),(142,56),(145,24),(146,56),(147,56),(161,48),(162,48),(166,32),(167,32),(179,40),(180,40),(203,48),(219,4),(220,1),(221,1),(224,4),(225,4)],ptr:=[15,16,17,55,81,83,116,144,151,165,177,182,223],ids:=true }
def T:jv:=tyI.tab
theorem aI:Fj Tryz.prog tyI=true:=by kernel_rfl
theorem mixed:Tryz.prog.follows .mixedOrders=true:=by kernel_rfl
def gy (n:Nat) (a0:Zt9):Option ((List Int)×Zt9×Unit):=(rounds (fun L1 (v1:(List Qr)×Int×Int×Zt9×(List Int)×(List Qr)×Unit)=>(if decide (v1.2.2.1<v1.2.1)=true then (if aH v1.2.2.1 v1.1.length then (if (!decide ((IntKind.i64.wrap ((BitVec.ofInt (IntKind.bits .i64) (((v1.1.getD v1.2.2.1.toNat Qs).2).1) &&& BitVec.ofInt (IntKind.bits .i64) (8:Int)).toNat))=(0:Int)))=true then (if (v1.2.2.2.2.1.length+[(v1.1.getD v1.2.2.1.toNat Qs).1].length) * 8≤140737488355328 then L1 (v1.1,v1.2.1,IntKind.i64.wrap (v1.2.2.1+(1:Int)),v1.2.2.2.1,v1.2.2.2.2.1++[(v1.1.getD v1.2.2.1.toNat Qs).1],v1.2.2.2.2.2.1,()) else none) else (if (v1.2.2.2.2.2.1.length+[v1.1.getD v1.2.2.1.toNat Qs].length) * 48≤140737488355328 then L1 (v1.1,v1.2.1,IntKind.i64.wrap (v1.2.2.1+(1:Int)),v1.2.2.2.1,v1.2.2.2.2.1,v1.2.2.2.2.2.1++[v1.1.getD v1.2.2.1.toNat Qs],()) else none)) else none) else some (v1.2.2.2.2.1,(v1.2.2.2.1.1,v1.2.2.2.1.2.1,v1.2.2.2.1.2.2.1,v1.2.2.2.2.2.1,v1.2.2.2.1.2.2.2.2),()))) n (a0.2.2.2.1,(a0.2.2.2.1.length:Int),(0:Int),a0,([]:List Int),([]:List Qr),()))
def Zq:Entry:=⟨165,[.rw KP [5,162] [4294967295] [162]],[.own (.sl 2 (.int .i64)) [2] [] []],fun n c=>gy n c.1⟩
def aiX:Hint:=⟨0,[],[(0,[0,3,4,12,13,14],[0,226,258])],[],[],[],[],[],[]⟩
theorem amK:gN T aiX Tryz.f165 Zq:=by intro n c; kernel_rfl
theorem afR [Fr] (n:Nat):ak Tryz.prog n Zq:=aj mixed aI Tryz.func165 (by kernel_rfl) (hi:=aiX) aA amK
end IdP
def gy (n:Nat) (a0:List Int×Int×Int×List kP.CQ×Unit):Option (List Int×(List Int×Int×Int×List kP.CQ×Unit)×Unit):=kP.Bt n a0
def aeC:List dh:=[.rw oJ [5,162] [4294967295,5] [162,4294967294]]
def ak5:List jF:=[.own (.sl 2 (.int .i64)) [2] [] []]
def Zq:Entry:=⟨165,aeC,ak5,fun n (c:Cont (kin aeC))=>gy n c.1⟩
def afF (x:Qr):Bool:=!decide ((IntKind.i64.wrap ((BitVec.ofInt (IntKind.bits .i64) (x.2.1) &&& BitVec.ofInt (IntKind.bits .i64) (8:Int)).toNat))=(0:Int))
theorem amY {n:Nat} {nm:List Int} {w h:Int} {xs:List Qr} (hc:xs.length * 48≤140737488355328) (hn:xs.length<n):IdP.gy n (nm,w,h,xs,())=some ((xs.filter afF).map (·.1),(nm,w,h,xs.filter (fun x=>!afF x),()),()):=
 Wo.YI (xs:=xs) (p:=afF) (g:=(·.1)) (d:=Qs) (sc:=8) (sa:=48) (a0:=(nm,w,h,xs,()))
  (fin:=fun a cs ks=>(cs,(a.1,a.2.1,a.2.2.1,ks,a.2.2.2.2),())) (fun _ _=>rfl) (by have:=hc; omega) (by have:=hc; omega) hc hn
theorem afR [Fr] (n:Nat):ak Tryz.prog n Zq:=kP.Rj (e:=5) (m:=162) (i:=2) (FI:=fun n c=>IdP.gy n c.1) (fun fr=>IdP.afR n) (fun nm w h xs hc hn=>amY hc hn)
def eG (n:Nat) (a0:List tL):Option (Int×Unit):=some ((a0.length:Int),())
def afx:Entry:=⟨176,[.val (.sl 162 BP) []],[.val (.int .i64) [] []],fun n c=>eG n c.1⟩
def aiY:Hint:=⟨0,[],[],[],[],[],[],[],[]⟩
theorem amL:gN T aiY Tryz.f176 afx:=by intro n c; kernel_rfl
theorem anN [Fr] (n:Nat):ak Tryz.prog n afx:=aj mixed aI Tryz.func176 (by kernel_rfl) (hi:=aiY) aA amL
def kG (n:Nat) (a0:dQ) (a1:tL):Option (Int×dQ×Unit):=((dV n a1.2.2.2.1).bind fun r1=>(if [(a0.2.2.1,a1.2.1,a1.2.2.1,r1.1,())].length=1∧(a0.2.2.2.1.length+1) * 48≤140737488355328 then some (IntKind.i64.wrap ((IntKind.i64.wrap (a0.2.2.1+(1:Int))) - (1:Int)),(a0.1,a0.2.1,IntKind.i64.wrap (a0.2.2.1+(1:Int)),a0.2.2.2.1++[[(a0.2.2.1,a1.2.1,a1.2.2.1,r1.1,())].getD 0 lD],a0.2.2.2.2),()) else none))
def afy:Entry:=⟨163,[.rw oJ [5,162] [162,4294967295] [5,162], .val BP [0]],[.val (.int .i64) [] []],fun n c=>kG n c.1 c.2.1⟩
def aiZ:Hint:=⟨0,[9],[],[],[(61,some 20,Zn)],[],[],[],[23]⟩
theorem amM:gN T aiZ Tryz.f163 afy:=by intro n c; kernel_rfl
theorem anO [Fr] (n:Nat):ak Tryz.prog n afy:=aj mixed aI Tryz.func163 (by kernel_rfl) (hi:=aiZ) (aa (afN n) aA) amM
namespace y9
def tyI:Y1:={ ty:=[(2,(.int .i64)),(3,(.int .i64)),(4, .bool),(5,(.int .u8)),(6,(.int .u8)),(7,Zk4),(8,Zk4),(9, .str),(10, .str),(11, .str),(12,(.int .u64)),(13,Zk0),(14,Zk0),(21,(.int .i32)),(22,(.sl 5 (.int .u8))),(23,(.sl 142 Zk9)),(24,UB),(25,UB),(26,UD),(27,UD),(28,(.sl 79 zV)),(29,Xy),(30,Xy),(32,(.sl 9 .str)),(33,(.sl 147 KP)),(34,R9),(35,R9),(36,Sa),(37,Sa),(38,(.sl 74 zV)),(39,UF),(40,UF),(41,Xz),(42,Xz),(57,(.sl 2 (.int .i64))),(58,Xx),(59,Xx),(73,zV),(74,zV),(79,zV),(85,(.sl 121 kg)),(88,Xw),(89,Xw),(120,kg),(121,kg),(122,Mh),(123,Mh),(137,(.sl 22 (.sl 5 (.int .u8)))),(140,(.sl 203 Ov)),(141,Zk9),(142,Zk9),(145,(.sl 162 Ov)),(146,KP),(147,KP),(161,Ov),(162,Ov),(166,Xu),(167,Xu),(179,Xv),(180,Xv),(203,Ov),(219,(.int .u32)),(220,(.int .u8)),(221,(.int .u8)),(224,(.int .i32)),(225,(.int .i32))],bytes:=[(2,8),(3,8),(4,1),(5,1),(6,1),(7,24),(8,24),(9,16),(10,16),(11,16),(12,8),(13,24),(14,24),(21,4),(22,24),(23,24),(24,32),(25,32),(26,88),(27,88),(28,24),(29,112),(30,112),(32,24),(33,24),(34,32),(35,32),(36,88),(37,88),(38,24),(39,112),(40,112),(41,144),(42,144),(57,24),(58,120),(59,120),(73,56),(74,56),(79,56),(85,24),(88,64),(89,64),(120,112),(121,112),(122,128),(123,128),(137,24),(140,24),(141,56),(142,56),(145,24),(146,56),(147,56),(161,48),(162,48),(166,32),(167,32),(179,40),(180,40),(203,48),(219,4),(220,1),(221,1),(224,4),(225,4)],ptr:=[15,16,17,55,81,83,116,144,151,165,177,182,223],ids:=true }
def T:jv:=tyI.tab
theorem aI:Fj Tryz.prog tyI=true:=by kernel_rfl
theorem mixed:Tryz.prog.follows .mixedOrders=true:=by kernel_rfl
def eH (n:Nat) (a0:List Int) (a1:Int):Option (Int×Unit):=(rounds (fun L1 (v1:(List Int)×Int×Int×Int×Unit)=>(if decide (v1.2.2.2.1<v1.2.2.1)=true then (if aH v1.2.2.2.1 v1.1.length then (if decide (v1.2.1=(v1.1.getD v1.2.2.2.1.toNat (0:Int)))=true then some (v1.2.2.2.1,()) else L1 (v1.1,v1.2.1,v1.2.2.1,IntKind.i64.wrap (v1.2.2.2.1+(1:Int)),())) else none) else some ((-1:Int),()))) n (a0,a1,(a0.length:Int),(0:Int),()))
def Uq:Entry:=⟨180,[.val (.sl 2 (.int .i64)) [], .val (.int .i64) []],[.val (.int .i64) [] []],fun n c=>eH n c.1 c.2.1⟩
def Zw:Hint:=⟨0,[],[(0,[0,1,7,8],[])],[],[],[],[],[],[]⟩
theorem aeO:gN T Zw Tryz.f180 Uq:=by intro n c; kernel_rfl
theorem afQ [Fr] (n:Nat):ak Tryz.prog n Uq:=aj mixed aI Tryz.func180 (by kernel_rfl) (hi:=Zw) aA aeO
def aW (n:Nat) (a0:List Int) (a1:Int):Option (Bool×Unit):=((eH n a0 a1).bind fun r1=>some (decide (r1.1≥(0:Int)),()))
def RV:Entry:=⟨175,[.val (.sl 2 (.int .i64)) [], .val (.int .i64) []],[.val .bool [] []],fun n c=>aW n c.1 c.2.1⟩
def Zx:Hint:=⟨0,[],[],[],[(180,some 7,Uq)],[],[],[],[]⟩
theorem aeP:gN T Zx Tryz.f175 RV:=by intro n c; kernel_rfl
theorem acG [Fr] (n:Nat):ak Tryz.prog n RV:=aj mixed aI Tryz.func175 (by kernel_rfl) (hi:=Zx) (aa (afQ n) aA) aeP
def fB (n:Nat) (a0:Qr) (a1:iI):Option (Bool×Unit):=((aW n a1.2.2.2.1 a0.1).bind fun r1=>some (r1.1,()))
def acB:Entry:=⟨178,[.val Ov [], .ro kg],[.val .bool [] []],fun n c=>fB n c.1 c.2.1⟩
def ai0:Hint:=⟨0,[],[],[],[(175,some 8,RV)],[],[],[],[]⟩
theorem amN:gN T ai0 Tryz.f178 acB:=by intro n c; kernel_rfl
theorem ajD [Fr] (n:Nat):ak Tryz.prog n acB:=aj mixed aI Tryz.func178 (by kernel_rfl) (hi:=ai0) (aa (acG n) aA) amN
def aZ (n:Nat) (a0:List Qr) (KS:iI):Option (Int×Unit):=(rounds (fun L1 (v1:(List Qr)×iI×Int×Int×Unit)=>(if decide (v1.2.2.2.1<v1.2.2.1)=true then (if aH v1.2.2.2.1 v1.1.length then ((fB n (v1.1.getD v1.2.2.2.1.toNat Qs) v1.2.1).bind fun r2=>(if r2.1=true then some (v1.2.2.2.1,()) else L1 (v1.1,v1.2.1,v1.2.2.1,IntKind.i64.wrap (v1.2.2.2.1+(1:Int)),()))) else none) else some ((-1:Int),()))) n (a0,KS,(a0.length:Int),(0:Int),()))
def afz:Entry:=⟨181,[.val (.sl 162 Ov) [], .fn 178 [kg]],[.val (.int .i64) [] []],fun n c=>aZ n c.1 c.2.1⟩
def ai1:Hint:=⟨0,[],[(0,[0,1,7,8],[])],[],[(178,some 16,acB)],[],[],[],[]⟩
theorem amO:gN T ai1 Tryz.f181 afz:=by intro n c; kernel_rfl
theorem anP [Fr] (n:Nat):ak Tryz.prog n afz:=aj mixed aI Tryz.func181 (by kernel_rfl) (hi:=ai1) (aa (ajD n) aA) amO
def aF (n:Nat) (a0:List Qr) (KS:iI):Option (Int×(List Qr)×Unit):=((aZ n a0 KS).bind fun r1=>(if decide (r1.1=(-1:Int))=true then some (((a0.length:Nat):Int),a0,()) else (rounds (fun L2 (v2:iI×Int×Int×(List Qr)×Unit)=>(if decide (v2.2.2.1<(v2.2.2.2.1.length:Int))=true then (if aH v2.2.2.1 v2.2.2.2.1.length then ((fB n (v2.2.2.2.1.getD v2.2.2.1.toNat Qs) v2.1).bind fun r3=>(if (!r3.1)=true then (if aH v2.2.1 v2.2.2.2.1.length then L2 (v2.1,IntKind.i64.wrap (v2.2.1+(1:Int)),IntKind.i64.wrap (v2.2.2.1+(1:Int)),v2.2.2.2.1.set v2.2.1.toNat (v2.2.2.2.1.getD v2.2.2.1.toNat Qs),()) else none) else L2 (v2.1,v2.2.1,IntKind.i64.wrap (v2.2.2.1+(1:Int)),v2.2.2.2.1,()))) else none) else (if 0≤v2.2.1∧v2.2.1≤(v2.2.2.2.1.length:Int)∧(v2.2.2.2.1.length:Int)≤(v2.2.2.2.1.length:Int) then (if 0≤(0:Int)∧(0:Int)≤v2.2.1∧v2.2.1≤((v2.2.2.2.1.take v2.2.1.toNat++List.replicate ((v2.2.2.2.1.length:Int).toNat - v2.2.1.toNat) Qs++v2.2.2.2.1.drop ((v2.2.2.2.1.length:Int).toNat)).length:Int) then some (((v2.2.1.toNat:Nat):Int),v2.2.2.2.1.take v2.2.1.toNat++List.replicate ((v2.2.2.2.1.length:Int).toNat - v2.2.1.toNat) Qs++v2.2.2.2.1.drop ((v2.2.2.2.1.length:Int).toNat),()) else none) else none))) n (KS,r1.1,IntKind.i64.wrap (r1.1+(1:Int)),a0,()))))
def Zr:Entry:=⟨177,[.jw (.sl 162 Ov) [5,162] [162], .fn 178 [kg]],[.into 0 []],fun n c=>aF n c.1 c.2.1⟩
def ai2:Hint:=⟨0,[],[(0,[0,1,5,6],[0])],[],[(181,some 10,afz),(178,some 28,acB)],[],[],[38,41],[]⟩
theorem amP:gN T ai2 Tryz.f177 Zr:=by intro n c; kernel_rfl
theorem afS [Fr] (n:Nat):ak Tryz.prog n Zr:=aj mixed aI Tryz.func177 (by kernel_rfl) (hi:=ai2) (aa (anP n) (aa (ajD n) aA)) amP
end y9
def aeD:List dh:=[.jw (.sl 162 BP) [5,162] [162], .fn 178 [kg]]
def ak6:List jF:=[.into 0 []]
def aF (n:Nat) (a0:List tL) (KS:iI):Option (Int×List tL×Unit):=nK.Jj n a0 KS
def Zr:Entry:=⟨177,aeD,ak6,fun n (c:Cont (kin aeD))=>aF n c.1 c.2.1⟩
theorem amZ {n:Nat} {xs:List nK.acH} {op:nK.OpC} (hx:xs.length≤140737488355328) (hn:xs.length<n) (hb:op.2.2.2.1.length≤140737488355328) (hu:op.2.2.2.1.length<n):y9.aF n xs op=some (nK.Kg (0,0,0,0,()) (fun x=>op.2.2.2.1.contains x.1) xs):=by
 have hc:∀x,y9.fB n x op=some (op.2.2.2.1.contains x.1,()):=fun x=>by
  have h:y9.aW n op.2.2.2.1 x.1=some (op.2.2.2.1.contains x.1,()):=nK.QL (fun _ _=>rfl) hb hu
  show (y9.aW n op.2.2.2.1 x.1).bind _=_
  rw [h]; rfl
 have hi:y9.aZ n xs op=some (_,()):=nK.Nk (p:=fun x=>op.2.2.2.1.contains x.1) (q:=fun c x=>y9.fB n x c) (d:=(0,0,0,0,())) (fun _ _=>rfl) hc hx hn
 show (y9.aZ n xs op).bind _=_
 rw [hi]
 exact nK.XO (p:=fun x=>op.2.2.2.1.contains x.1) (q:=fun c x=>y9.fB n x c) (d:=(0,0,0,0,())) (fun _ _=>rfl) hc hx hn
theorem afS [Fr] (n:Nat):ak Tryz.prog n Zr:=nK.OA (e:=5) (t:=162) (i:=2) (b:=5) (cl:=178) (ow:=[5,162]) (wt:=[162]) (vG:=[162]) (FI:=y9.aF) (by simp [K.tys,aL]) (by simp [K.tys,aL]) (by simp [K.tys,aL]) (fun fr=>y9.afS n) (by simp [oC,aL]) (fun xs op h1 h2 h3 h4=>amZ h1 h2 h3 h4)
def lI (n:Nat) (a0:fO) (a1:Int) (a2:iI):Option ((List Int)×Int×fO×Unit):=((jB n a0 a2.2.2.1).bind fun r1=>(if decide (r1.1<(0:Int))=true then some (([]:List Int),(4:Int),a0,()) else (if decide (a2.1=(6:Int))=true then (if decide (r1.1=a1)=true then some (([]:List Int),(9:Int),a0,()) else (if aH a1 a0.2.1.length then (rounds (fun L2 (v2:Int×Int×(List tL)×Int×Int×fO×iI×(List tL)×Unit)=>(if decide (v2.2.2.2.2.1<v2.2.2.2.1)=true then (if aH v2.2.2.2.2.1 v2.2.2.1.length then ((aW n v2.2.2.2.2.2.2.1.2.2.2.1 ((v2.2.2.1.getD v2.2.2.2.2.1.toNat lD).1)).bind fun r3=>(if r3.1=true then (if (v2.2.2.2.2.2.2.2.1.length+[v2.2.2.1.getD v2.2.2.2.2.1.toNat lD].length) * 48≤140737488355328 then L2 (v2.1,v2.2.1,v2.2.2.1,v2.2.2.2.1,IntKind.i64.wrap (v2.2.2.2.2.1+(1:Int)),v2.2.2.2.2.2.1,v2.2.2.2.2.2.2.1,v2.2.2.2.2.2.2.2.1++[v2.2.2.1.getD v2.2.2.2.2.1.toNat lD],()) else none) else L2 (v2.1,v2.2.1,v2.2.2.1,v2.2.2.2.1,IntKind.i64.wrap (v2.2.2.2.2.1+(1:Int)),v2.2.2.2.2.2.1,v2.2.2.2.2.2.2.1,v2.2.2.2.2.2.2.2.1,()))) else none) else (if aH v2.2.1 v2.2.2.2.2.2.1.2.1.length then (if decide ((IntKind.i64.wrap (((((((v2.2.2.2.2.2.1.2.1.getD v2.2.1.toNat dH).2).2).2).1).length:Int)+(v2.2.2.2.2.2.2.2.1.length:Int)))>(6:Int))=true then some (([]:List Int),(10:Int),v2.2.2.2.2.2.1,()) else ((eG n v2.2.2.2.2.2.2.2.1).bind fun r4=>(if decide ((IntKind.i64.wrap (((((v2.2.2.2.2.2.1.2.1.getD v2.2.1.toNat dH).2).2).1)+r4.1))>(1000:Int))=true then some (([]:List Int),(10:Int),v2.2.2.2.2.2.1,()) else (rounds (fun L5 (v5:Int×Int×Int×Int×fO×iI×(List tL)×(List Int)×Unit)=>(if decide (v5.2.2.2.1<v5.2.2.1)=true then (if aH v5.2.2.2.1 v5.2.2.2.2.2.2.1.length then ((kG n (v5.2.2.2.2.1.2.1.getD v5.2.1.toNat dH) (v5.2.2.2.2.2.2.1.getD v5.2.2.2.1.toNat lD)).bind fun r6=>(if (v5.2.2.2.2.2.2.2.1.length+[r6.1].length) * 8≤140737488355328 then L5 (v5.1,v5.2.1,v5.2.2.1,IntKind.i64.wrap (v5.2.2.2.1+(1:Int)),(v5.2.2.2.2.1.1,v5.2.2.2.2.1.2.1.set v5.2.1.toNat r6.2.1,v5.2.2.2.2.1.2.2),v5.2.2.2.2.2.1,v5.2.2.2.2.2.2.1,v5.2.2.2.2.2.2.2.1++[r6.1],()) else none)) else none) else (if decide (v5.2.2.2.2.2.1.1=(6:Int))=true then (if aH v5.1 v5.2.2.2.2.1.2.1.length then ((aF n (((((v5.2.2.2.2.1.2.1.getD v5.1.toNat dH).2).2).2).1) v5.2.2.2.2.2.1).bind fun r7=>(if ([v5.1]:List Int)=([v5.1]:List Int) then some (v5.2.2.2.2.2.2.2.1,(0:Int),(v5.2.2.2.2.1.1,(fH (fH v5.2.2.2.2.1.2.1 v5.1.toNat dH fun z1=>(z1.1,z1.2.1,z1.2.2.1,r7.2.1,z1.2.2.2.2)) v5.1.toNat dH fun z1=>(z1.1,z1.2.1,z1.2.2.1,((((((fH v5.2.2.2.2.1.2.1 v5.1.toNat dH fun z1=>(z1.1,z1.2.1,z1.2.2.1,r7.2.1,z1.2.2.2.2)).getD v5.1.toNat dH).2).2).2).1).take r7.1.toNat,z1.2.2.2.2)),v5.2.2.2.2.1.2.2),()) else none)) else none) else some (v5.2.2.2.2.2.2.2.1,(0:Int),v5.2.2.2.2.1,())))) n (v2.1,v2.2.1,(v2.2.2.2.2.2.2.2.1.length:Int),(0:Int),v2.2.2.2.2.2.1,v2.2.2.2.2.2.2.1,v2.2.2.2.2.2.2.2.1,([]:List Int),()))))) else none))) n (a1,r1.1,((((a0.2.1.getD a1.toNat dH).2).2).2).1,((((((a0.2.1.getD a1.toNat dH).2).2).2).1).length:Int),(0:Int),a0,a2,([]:List tL),())) else none)) else (if aH a1 a0.2.1.length then (rounds (fun L8 (v8:Int×Int×(List tL)×Int×Int×fO×iI×(List tL)×Unit)=>(if decide (v8.2.2.2.2.1<v8.2.2.2.1)=true then (if aH v8.2.2.2.2.1 v8.2.2.1.length then ((aW n v8.2.2.2.2.2.2.1.2.2.2.1 ((v8.2.2.1.getD v8.2.2.2.2.1.toNat lD).1)).bind fun r9=>(if r9.1=true then (if (v8.2.2.2.2.2.2.2.1.length+[v8.2.2.1.getD v8.2.2.2.2.1.toNat lD].length) * 48≤140737488355328 then L8 (v8.1,v8.2.1,v8.2.2.1,v8.2.2.2.1,IntKind.i64.wrap (v8.2.2.2.2.1+(1:Int)),v8.2.2.2.2.2.1,v8.2.2.2.2.2.2.1,v8.2.2.2.2.2.2.2.1++[v8.2.2.1.getD v8.2.2.2.2.1.toNat lD],()) else none) else L8 (v8.1,v8.2.1,v8.2.2.1,v8.2.2.2.1,IntKind.i64.wrap (v8.2.2.2.2.1+(1:Int)),v8.2.2.2.2.2.1,v8.2.2.2.2.2.2.1,v8.2.2.2.2.2.2.2.1,()))) else none) else (if aH v8.2.1 v8.2.2.2.2.2.1.2.1.length then (if decide ((IntKind.i64.wrap (((((((v8.2.2.2.2.2.1.2.1.getD v8.2.1.toNat dH).2).2).2).1).length:Int)+(v8.2.2.2.2.2.2.2.1.length:Int)))>(6:Int))=true then some (([]:List Int),(10:Int),v8.2.2.2.2.2.1,()) else ((eG n v8.2.2.2.2.2.2.2.1).bind fun Rl=>(if decide ((IntKind.i64.wrap (((((v8.2.2.2.2.2.1.2.1.getD v8.2.1.toNat dH).2).2).1)+Rl.1))>(1000:Int))=true then some (([]:List Int),(10:Int),v8.2.2.2.2.2.1,()) else (rounds (fun L11 (v11:Int×Int×Int×Int×fO×iI×(List tL)×(List Int)×Unit)=>(if decide (v11.2.2.2.1<v11.2.2.1)=true then (if aH v11.2.2.2.1 v11.2.2.2.2.2.2.1.length then ((kG n (v11.2.2.2.2.1.2.1.getD v11.2.1.toNat dH) (v11.2.2.2.2.2.2.1.getD v11.2.2.2.1.toNat lD)).bind fun NK=>(if (v11.2.2.2.2.2.2.2.1.length+[NK.1].length) * 8≤140737488355328 then L11 (v11.1,v11.2.1,v11.2.2.1,IntKind.i64.wrap (v11.2.2.2.1+(1:Int)),(v11.2.2.2.2.1.1,v11.2.2.2.2.1.2.1.set v11.2.1.toNat NK.2.1,v11.2.2.2.2.1.2.2),v11.2.2.2.2.2.1,v11.2.2.2.2.2.2.1,v11.2.2.2.2.2.2.2.1++[NK.1],()) else none)) else none) else (if decide (v11.2.2.2.2.2.1.1=(6:Int))=true then (if aH v11.1 v11.2.2.2.2.1.2.1.length then ((aF n (((((v11.2.2.2.2.1.2.1.getD v11.1.toNat dH).2).2).2).1) v11.2.2.2.2.2.1).bind fun RJ=>(if ([v11.1]:List Int)=([v11.1]:List Int) then some (v11.2.2.2.2.2.2.2.1,(0:Int),(v11.2.2.2.2.1.1,(fH (fH v11.2.2.2.2.1.2.1 v11.1.toNat dH fun z1=>(z1.1,z1.2.1,z1.2.2.1,RJ.2.1,z1.2.2.2.2)) v11.1.toNat dH fun z1=>(z1.1,z1.2.1,z1.2.2.1,((((((fH v11.2.2.2.2.1.2.1 v11.1.toNat dH fun z1=>(z1.1,z1.2.1,z1.2.2.1,RJ.2.1,z1.2.2.2.2)).getD v11.1.toNat dH).2).2).2).1).take RJ.1.toNat,z1.2.2.2.2)),v11.2.2.2.2.1.2.2),()) else none)) else none) else some (v11.2.2.2.2.2.2.2.1,(0:Int),v11.2.2.2.2.1,())))) n (v8.1,v8.2.1,(v8.2.2.2.2.2.2.2.1.length:Int),(0:Int),v8.2.2.2.2.2.1,v8.2.2.2.2.2.2.1,v8.2.2.2.2.2.2.2.1,([]:List Int),()))))) else none))) n (a1,r1.1,((((a0.2.1.getD a1.toNat dH).2).2).2).1,((((((a0.2.1.getD a1.toNat dH).2).2).2).1).length:Int),(0:Int),a0,a2,([]:List tL),())) else none))))
def afA:Entry:=⟨166,[.rw rU [5,147,162] [5,147,162,4294967295] [5,162], .val (.int .i64) [], .val kg []],[.own (.sl 2 (.int .i64)) [2] [] [], .val (.int .i64) [] []],fun n c=>lI n c.1 c.2.1 c.2.2.1⟩
def ai3:Hint:=⟨0,[62,104,111],[(1,[0,1,5,8,9,43,44,45],[0,162,1122]),(3,[0,1,5,12,13,85,86,87],[0,162,1122,2690])],[(35,[5])],[(161,some 22,Zo),(175,some 53,RV),(176,some 80,afx),(163,some 94,afy),(177,some 113,Zr)],[],[(2245,[0])],[],[]⟩
theorem amQ:gN T ai3 Tryz.f166 afA:=by intro n c; kernel_rfl
theorem anQ [Fr] (n:Nat):ak Tryz.prog n afA:=aj mixed aI Tryz.func166 (by kernel_rfl) (hi:=ai3) (aa (afO n) (aa (acG n) (aa (anN n) (aa (anO n) (aa (afS n) aA))))) amQ
def nN (n:Nat) (a0:fO) (a1:iI):Option ((List Int)×Int×fO×Unit):=(if decide (a1.1=(1:Int))=true then ((o7 n a0 a1.2.1).bind fun r1=>some (([]:List Int),r1.1,r1.2.1,())) else ((jB n a0 a1.2.1).bind fun r2=>(if decide (r2.1<(0:Int))=true then some (([]:List Int),(4:Int),a0,()) else (if aH r2.1 a0.2.1.length then (if decide (a1.1=(2:Int))=true then ((bQ n a0.2.1 r2.1 (IntKind.i64.wrap (r2.1+(1:Int)))).bind fun r3=>(if ([]:List Int)=([]:List Int) then some (([]:List Int),(0:Int),(a0.1,r3.2.1.take r3.1.toNat,a0.2.2),()) else none)) else (if decide (a1.1=(3:Int))=true then (if decide (((((((a0.2.1.getD r2.1.toNat dH).2).2).2).1).length:Int)=(6:Int))=true then some (([]:List Int),(10:Int),a0,()) else (if decide (((((a0.2.1.getD r2.1.toNat dH).2).2).1)=(1000:Int))=true then some (([]:List Int),(10:Int),a0,()) else ((uD n (a0.2.1.getD r2.1.toNat dH) ((0:Int),a1.2.2.2.2.2.1,a1.2.2.2.2.2.2.1,a1.2.2.2.2.2.2.2.1,())).bind fun r4=>some ([r4.1],(0:Int),(a0.1,a0.2.1.set r2.1.toNat r4.2.1,a0.2.2),())))) else (if decide (a1.1=(4:Int))=true then ((nM n (a0.2.1.getD r2.1.toNat dH) a1).bind fun r5=>some (r5.1,(0:Int),(a0.1,a0.2.1.set r2.1.toNat r5.2.1,a0.2.2),())) else (if decide (a1.1=(7:Int))=true then ((gy n (a0.2.1.getD r2.1.toNat dH)).bind fun r6=>some (r6.1,(0:Int),(a0.1,a0.2.1.set r2.1.toNat r6.2.1,a0.2.2),())) else ((lI n a0 r2.1 a1).bind fun r7=>some (r7.1,r7.2.1,r7.2.2.1,())))))) else none))))
def afB:Entry:=⟨129,[.rw rU [5,147,162] [5,147,162,4294967295] [5,147,162,4294967294], .val kg []],[.own (.sl 2 (.int .i64)) [2] [] [], .val (.int .i64) [] []],fun n c=>nN n c.1 c.2.1⟩
def ai4:Hint:=⟨0,[26,37],[],[],[(160,some 14,afu),(161,some 20,Zo),(162,some 41,Zp),(163,some 67,afv),(164,some 73,afw),(165,some 77,Zq),(166,some 81,afA)],[],[],[],[]⟩
theorem amR:gN T ai4 Tryz.f129 afB:=by intro n c; kernel_rfl
theorem anR [Fr] (n:Nat):ak Tryz.prog n afB:=aj mixed aI Tryz.func129 (by kernel_rfl) (hi:=ai4) (aa (anJ n) (aa (afO n) (aa (afP n) (aa (anK n) (aa (anL n) (aa (afR n) (aa (anQ n) aA))))))) amR
def uE (n:Nat) (a0:fO) (a1:iI):Option (JB×Unit):=((qw n a1).bind fun r1=>(if (!decide (r1.1=(0:Int)))=true then some ((r1.1,([]:List Int),Ox,()),()) else ((mo n a0).bind fun r2=>((nN n r2.1 a1).bind fun r3=>(if (!decide (r3.2.1=(0:Int)))=true then some ((r3.2.1,([]:List Int),Ox,()),()) else some (((0:Int),r3.1,r3.2.2.1,()),()))))))
def afC:Entry:=⟨99,[.val rU [], .val kg []],[.own Qo [2,5,147,162] [] []],fun n c=>uE n c.1 c.2.1⟩
def ai5:Hint:=⟨0,[27],[],[],[(126,some 10,acy),(98,some 16,acA),(129,some 19,afB)],[],[],[],[]⟩
theorem amS:gN T ai5 Tryz.f99 afC:=by intro n c; kernel_rfl
theorem anS [Fr] (n:Nat):ak Tryz.prog n afC:=aj mixed aI Tryz.func99 (by kernel_rfl) (hi:=ai5) (aa (ajA n) (aa (ajC n) (aa (anR n) aA))) amS
def oD (n:Nat) (a0:fO) (a1:List iI):Option (JB×Unit):=(if decide ((a1.length:Int)>(60:Int))=true then some (((2:Int),([]:List Int),Ox,()),()) else ((iL n a0).bind fun r1=>(if (!decide (r1.1=(0:Int)))=true then some ((r1.1,([]:List Int),Ox,()),()) else ((mo n a0).bind fun r2=>(rounds (fun L3 (v3:(List iI)×Int×Int×JB×fO×Unit)=>(if decide (v3.2.2.1<v3.2.1)=true then (if aH v3.2.2.1 v3.1.length then ((uE n v3.2.2.2.2.1 (v3.1.getD v3.2.2.1.toNat Ie)).bind fun r4=>(if (!decide (r4.1.1=(0:Int)))=true then some ((r4.1.1,([]:List Int),Ox,()),()) else L3 (v3.1,v3.2.1,IntKind.i64.wrap (v3.2.2.1+(1:Int)),v3.2.2.2.1,r4.1.2.2.1,()))) else none) else some (((0:Int),([]:List Int),v3.2.2.2.2.1,()),()))) n (a1,(a1.length:Int),(0:Int),afX,r2.1,()))))))
def Y4:Entry:=⟨59,[.val rU [], .val (.sl 121 kg) []],[.own Qo [2,5,147,162] [] []],fun n c=>oD n c.1 c.2.1⟩
def adM:Hint:=⟨0,[38,40],[(0,[4,6,22,23,24],[130,194])],[],[(92,some 15,acv),(98,some 21,acA),(99,some 30,afC)],[],[],[],[]⟩
theorem aho:gN T adM Tryz.f59 Y4:=by intro n c; kernel_rfl
theorem ai8 [Fr] (n:Nat):ak Tryz.prog n Y4:=aj mixed aI Tryz.func59 (by kernel_rfl) (hi:=adM) (aa (ajy n) (aa (ajC n) (aa (anS n) aA))) aho
def iB (n:Nat) (a0:List Int) (a1:List Int):Option (Bool×Unit):=(if (!decide ((a0.length:Int)=(a1.length:Int)))=true then some (false,()) else (rounds (fun L1 (v1:(List Int)×(List Int)×Int×Int×Unit)=>(if decide (v1.2.2.2.1<v1.2.2.1)=true then (if aH v1.2.2.2.1 v1.1.length then (if aH v1.2.2.2.1 v1.2.1.length then (if (!decide ((v1.1.getD v1.2.2.2.1.toNat (0:Int))=(v1.2.1.getD v1.2.2.2.1.toNat (0:Int))))=true then some (false,()) else L1 (v1.1,v1.2.1,v1.2.2.1,IntKind.i64.wrap (v1.2.2.2.1+(1:Int)),())) else none) else none) else some (true,()))) n (a0,a1,(a0.length:Int),(0:Int),())))
def Y5:Entry:=⟨153,[.val (.sl 5 (.int .u8)) [], .val (.sl 5 (.int .u8)) []],[.val .bool [] []],fun n c=>iB n c.1 c.2.1⟩
def adN:Hint:=⟨0,[],[(0,[0,1,12,13],[])],[],[],[],[],[],[]⟩
theorem ahp:gN T adN Tryz.f153 Y5:=by intro n c; kernel_rfl
theorem ai9 [Fr] (n:Nat):ak Tryz.prog n Y5:=aj mixed aI Tryz.func153 (by kernel_rfl) (hi:=adN) aA ahp
def lJ (n:Nat) (a0:tL) (a1:tL):Option (Bool×Unit):=(if decide (a0.1=a1.1)=true then (if decide (a0.2.1=a1.2.1)=true then (if decide (a0.2.2.1=a1.2.2.1)=true then ((iB n a0.2.2.2.1 a1.2.2.2.1).bind fun r1=>some (r1.1,())) else some (false,())) else some (false,())) else some (false,()))
def Y6:Entry:=⟨122,[.val BP [], .val BP []],[.val .bool [] []],fun n c=>lJ n c.1 c.2.1⟩
def adO:Hint:=⟨0,[],[],[],[(153,some 29,Y5)],[],[],[],[]⟩
theorem ahq:gN T adO Tryz.f122 Y6:=by intro n c; kernel_rfl
theorem aja [Fr] (n:Nat):ak Tryz.prog n Y6:=aj mixed aI Tryz.func122 (by kernel_rfl) (hi:=adO) (aa (ai9 n) aA) ahq
def aO (n:Nat) (a0:List tL) (a1:List tL):Option (Bool×Unit):=(if (!decide ((a0.length:Int)=(a1.length:Int)))=true then some (false,()) else (rounds (fun L1 (v1:(List tL)×(List tL)×Int×Int×Unit)=>(if decide (v1.2.2.2.1<v1.2.2.1)=true then (if aH v1.2.2.2.1 v1.2.1.length then (if aH v1.2.2.2.1 v1.1.length then ((lJ n (v1.2.1.getD v1.2.2.2.1.toNat lD) (v1.1.getD v1.2.2.2.1.toNat lD)).bind fun r2=>(if (!r2.1)=true then some (false,()) else L1 (v1.1,v1.2.1,v1.2.2.1,IntKind.i64.wrap (v1.2.2.2.1+(1:Int)),()))) else none) else none) else some (true,()))) n (a1,a0,(a0.length:Int),(0:Int),())))
def Y7:Entry:=⟨121,[.val (.sl 162 BP) [], .val (.sl 162 BP) [], .fn 122 []],[.val .bool [] []],fun n c=>aO n c.1 c.2.1⟩
def adP:Hint:=⟨0,[],[(0,[1,2,15,16,17],[])],[],[(122,some 29,Y6)],[],[],[],[]⟩
theorem ahr:gN T adP Tryz.f121 Y7:=by intro n c; kernel_rfl
theorem ajb [Fr] (n:Nat):ak Tryz.prog n Y7:=aj mixed aI Tryz.func121 (by kernel_rfl) (hi:=adP) (aa (aja n) aA) ahr
def lG (n:Nat) (a0:dQ) (a1:dQ):Option (Bool×Unit):=(if decide (a0.1=a1.1)=true then (if decide (a0.2.1=a1.2.1)=true then (if decide (a0.2.2.1=a1.2.2.1)=true then ((aO n a0.2.2.2.1 a1.2.2.2.1).bind fun r1=>some (r1.1,())) else some (false,())) else some (false,())) else some (false,()))
def Y8:Entry:=⟨120,[.val oJ [], .val oJ []],[.val .bool [] []],fun n c=>lG n c.1 c.2.1⟩
def adQ:Hint:=⟨0,[],[],[],[(121,some 29,Y7)],[],[],[],[]⟩
theorem ahs:gN T adQ Tryz.f120 Y8:=by intro n c; kernel_rfl
theorem ajc [Fr] (n:Nat):ak Tryz.prog n Y8:=aj mixed aI Tryz.func120 (by kernel_rfl) (hi:=adQ) (aa (ajb n) aA) ahs
def bu (n:Nat) (a0:List dQ) (a1:List dQ):Option (Bool×Unit):=(if (!decide ((a0.length:Int)=(a1.length:Int)))=true then some (false,()) else (rounds (fun L1 (v1:(List dQ)×(List dQ)×Int×Int×Unit)=>(if decide (v1.2.2.2.1<v1.2.2.1)=true then (if aH v1.2.2.2.1 v1.2.1.length then (if aH v1.2.2.2.1 v1.1.length then ((lG n (v1.2.1.getD v1.2.2.2.1.toNat dH) (v1.1.getD v1.2.2.2.1.toNat dH)).bind fun r2=>(if (!r2.1)=true then some (false,()) else L1 (v1.1,v1.2.1,v1.2.2.1,IntKind.i64.wrap (v1.2.2.2.1+(1:Int)),()))) else none) else none) else some (true,()))) n (a1,a0,(a0.length:Int),(0:Int),())))
def Y9:Entry:=⟨119,[.val (.sl 147 oJ) [], .val (.sl 147 oJ) [], .fn 120 []],[.val .bool [] []],fun n c=>bu n c.1 c.2.1⟩
def adR:Hint:=⟨0,[],[(0,[1,2,15,16,17],[])],[],[(120,some 29,Y8)],[],[],[],[]⟩
theorem aht:gN T adR Tryz.f119 Y9:=by intro n c; kernel_rfl
theorem ajd [Fr] (n:Nat):ak Tryz.prog n Y9:=aj mixed aI Tryz.func119 (by kernel_rfl) (hi:=adR) (aa (ajc n) aA) aht
def kJ (n:Nat) (a0:fO) (a1:fO):Option (Bool×Unit):=(if decide (a0.1=a1.1)=true then ((bu n a0.2.1 a1.2.1).bind fun r1=>some (r1.1,())) else some (false,()))
def Za:Entry:=⟨94,[.val rU [], .val rU []],[.val .bool [] []],fun n c=>kJ n c.1 c.2.1⟩
def adS:Hint:=⟨0,[],[],[],[(119,some 15,Y9)],[],[],[],[]⟩
theorem ahu:gN T adS Tryz.f94 Za:=by intro n c; kernel_rfl
theorem aje [Fr] (n:Nat):ak Tryz.prog n Za:=aj mixed aI Tryz.func94 (by kernel_rfl) (hi:=adS) (aa (ajd n) aA) ahu
def iM (n:Nat) (a0:CR):Option (Int×Unit):=(if decide ((IntKind.i64.wrap ((a0.2.1.length:Int)+(a0.2.2.1.length:Int)))>(8000:Int))=true then some ((2:Int),()) else (if (!a0.1)=true then (if decide ((a0.2.2.1.length:Int)>(0:Int))=true then some ((1:Int),()) else (if (!decide (a0.2.2.2.1.1=(0:Int)))=true then some ((1:Int),()) else (if decide ((a0.2.2.2.1.2.1.length:Int)>(0:Int))=true then some ((1:Int),()) else (if (!a0.1)=true then some ((0:Int),()) else ((iL n a0.2.2.2.1).bind fun r1=>(if (!decide (r1.1=(0:Int)))=true then some (r1.1,()) else ((mq n a0).bind fun r2=>(if (!r2.2.1)=true then some ((5:Int),()) else ((yw n).bind fun r3=>((oD n r3.1 r2.1).bind fun r4=>(if (!decide (r4.1.1=(0:Int)))=true then some ((9:Int),()) else ((kJ n r4.1.2.2.1 a0.2.2.2.1).bind fun r5=>(if (!r5.1)=true then some ((9:Int),()) else some ((0:Int),())))))))))))))) else (if (!a0.1)=true then some ((0:Int),()) else ((iL n a0.2.2.2.1).bind fun r6=>(if (!decide (r6.1=(0:Int)))=true then some (r6.1,()) else ((mq n a0).bind fun r7=>(if (!r7.2.1)=true then some ((5:Int),()) else ((yw n).bind fun r8=>((oD n r8.1 r7.1).bind fun r9=>(if (!decide (r9.1.1=(0:Int)))=true then some ((9:Int),()) else ((kJ n r9.1.2.2.1 a0.2.2.2.1).bind fun Rl=>(if (!Rl.1)=true then some ((9:Int),()) else some ((0:Int),())))))))))))))
def We:Entry:=⟨52,[.val EA []],[.val (.int .i64) [] []],fun n c=>iM n c.1⟩
def adT:Hint:=⟨0,[],[],[],[(92,some 45,acv),(93,some 51,afq),(60,some 56,afr),(59,some 58,Y4),(94,some 67,Za)],[],[],[],[]⟩
theorem ahv:gN T adT Tryz.f52 We:=by intro n c; kernel_rfl
theorem ad3 [Fr] (n:Nat):ak Tryz.prog n We:=aj mixed aI Tryz.func52 (by kernel_rfl) (hi:=adT) (aa (ajy n) (aa (anF n) (aa (anG n) (aa (ai8 n) (aa (aje n) aA))))) ahv
def gB (n:Nat) (a0:List GX):Option (Int×Unit):=some ((a0.length:Int),())
def Zb:Entry:=⟨54,[.val (.sl 74 zV) []],[.val (.int .i64) [] []],fun n c=>gB n c.1⟩
def adU:Hint:=⟨0,[],[],[],[],[],[],[],[]⟩
theorem ahw:gN T adU Tryz.f54 Zb:=by intro n c; kernel_rfl
theorem ajf [Fr] (n:Nat):ak Tryz.prog n Zb:=aj mixed aI Tryz.func54 (by kernel_rfl) (hi:=adU) aA ahw
def rT (n:Nat) (a0:Int):Option (Bool×Unit):=((dA n a0 (1:Int) (3:Int)).bind fun r1=>some (r1.1,()))
def Zc:Entry:=⟨55,[.val (.int .i64) []],[.val .bool [] []],fun n c=>rT n c.1⟩
def adV:Hint:=⟨0,[],[],[],[(53,some 4,Ht)],[],[],[],[]⟩
theorem ahx:gN T adV Tryz.f55 Zc:=by intro n c; kernel_rfl
theorem ajg [Fr] (n:Nat):ak Tryz.prog n Zc:=aj mixed aI Tryz.func55 (by kernel_rfl) (hi:=adV) (aa (KH n) aA) ahx
def gz (n:Nat) (a0:D9):Option (Int×Unit):=((iM n a0.1).bind fun r1=>(if (!decide (r1.1=(0:Int)))=true then some (r1.1,()) else ((gB n a0.2.1).bind fun r2=>((dA n r2.1 (1:Int) (3:Int)).bind fun r3=>(if (!r3.1)=true then some ((2:Int),()) else (rounds (fun L4 (v4:(List GX)×Int×Int×Unit)=>(if decide (v4.2.2.1<v4.2.1)=true then (if aH v4.2.2.1 v4.1.length then ((rT n (((((v4.1.getD v4.2.2.1.toNat Ed).2).2).2).1)).bind fun r5=>(if (!r5.1)=true then some ((3:Int),()) else ((dA n (((v4.1.getD v4.2.2.1.toNat Ed).2).1) (0:Int) (999:Int)).bind fun r6=>(if (!r6.1)=true then some ((3:Int),()) else (if decide ((((((v4.1.getD v4.2.2.1.toNat Ed).2).2).1).length:Int)>(6:Int))=true then some ((3:Int),()) else ((mD n ((((v4.1.getD v4.2.2.1.toNat Ed).2).2).1)).bind fun r7=>(if (!r7.1)=true then some ((3:Int),()) else (if decide (((v4.1.getD v4.2.2.1.toNat Ed).1)=([]:List Int))=true then (if (!decide ((((v4.1.getD v4.2.2.1.toNat Ed).2).1)=(0:Int)))=true then some ((1:Int),()) else (if decide ((((((v4.1.getD v4.2.2.1.toNat Ed).2).2).1).length:Int)>(0:Int))=true then some ((1:Int),()) else (if (!decide (((v4.1.getD v4.2.2.1.toNat Ed).1)=([]:List Int)))=true then ((jq n ((v4.1.getD v4.2.2.1.toNat Ed).1)).bind fun r8=>(if (!r8.1)=true then some ((1:Int),()) else (if decide ((((v4.1.getD v4.2.2.1.toNat Ed).2).1)=(0:Int))=true then some ((1:Int),()) else L4 (v4.1,v4.2.1,IntKind.i64.wrap (v4.2.2.1+(1:Int)),())))) else L4 (v4.1,v4.2.1,IntKind.i64.wrap (v4.2.2.1+(1:Int)),())))) else (if (!decide (((v4.1.getD v4.2.2.1.toNat Ed).1)=([]:List Int)))=true then ((jq n ((v4.1.getD v4.2.2.1.toNat Ed).1)).bind fun r9=>(if (!r9.1)=true then some ((1:Int),()) else (if decide ((((v4.1.getD v4.2.2.1.toNat Ed).2).1)=(0:Int))=true then some ((1:Int),()) else L4 (v4.1,v4.2.1,IntKind.i64.wrap (v4.2.2.1+(1:Int)),())))) else L4 (v4.1,v4.2.1,IntKind.i64.wrap (v4.2.2.1+(1:Int)),())))))))))) else none) else some ((0:Int),()))) n (a0.2.1,(a0.2.1.length:Int),(0:Int),())))))))
def Zd:Entry:=⟨24,[.val KQ []],[.val (.int .i64) [] []],fun n c=>gz n c.1⟩
def adW:Hint:=⟨0,[],[(0,[18,19,20],[])],[],[(52,some 8,We),(54,some 14,Zb),(53,some 15,Ht),(55,some 27,Zc),(53,some 32,Ht),(56,some 44,acw),(57,some 69,Xm)],[],[],[],[]⟩
theorem ahy:gN T adW Tryz.f24 Zd:=by intro n c; kernel_rfl
theorem aji [Fr] (n:Nat):ak Tryz.prog n Zd:=aj mixed aI Tryz.func24 (by kernel_rfl) (hi:=adW) (aa (ad3 n) (aa (ajf n) (aa (KH n) (aa (ajg n) (aa (KH n) (aa (ajz n) (aa (acE n) aA))))))) ahy
def wP (n:Nat) (a0:CR):Option (Int×Unit):=((iM n a0).bind fun r1=>(if (!decide (r1.1=(0:Int)))=true then some (r1.1,()) else (if (!a0.1)=true then some ((9:Int),()) else some ((0:Int),()))))
def Ze:Entry:=⟨75,[.val EA []],[.val (.int .i64) [] []],fun n c=>wP n c.1⟩
def adX:Hint:=⟨0,[],[],[],[(52,some 5,We)],[],[],[],[]⟩
theorem ahz:gN T adX Tryz.f75 Ze:=by intro n c; kernel_rfl
theorem ajj [Fr] (n:Nat):ak Tryz.prog n Ze:=aj mixed aI Tryz.func75 (by kernel_rfl) (hi:=adX) (aa (ad3 n) aA) ahz
def X8:Go.Shelf.Ren:=⟨fun | 4=>106 | n=>n,fun | 22=>22 | 25=>5 | 3=>3 | 4=>4 | 9=>9 | 20=>20 | 0=>0 | n=>n,fun | n=>n⟩
theorem ajX:Go.Proofs.Lays8.n4 Tryz.prog X8:={
 mixed:=by kernel_rfl
 f4:=⟨Tryz.f106.name,by decide,Tryz.func106.trans (congrArg some (by kernel_rfl))⟩
 t0:=Tryz.underlying0
 a0:=Tryz.isAgg0
 z0:=Tryz.sizeOf0
 v0:=Tryz.zeroValue0
 t3:=Tryz.underlying3
 a3:=Tryz.isAgg3
 z3:=Tryz.sizeOf3
 v3:=Tryz.zeroValue3
 t4:=Tryz.underlying4
 a4:=Tryz.isAgg4
 z4:=Tryz.sizeOf4
 v4:=Tryz.zeroValue4
 t9:=Tryz.underlying9
 a9:=Tryz.isAgg9
 z9:=Tryz.sizeOf9
 v9:=Tryz.zeroValue9
 t20:=Tryz.underlying20
 a20:=Tryz.isAgg20
 z20:=Tryz.sizeOf20
 v20:=Tryz.zeroValue20
 t22:=Tryz.underlying22
 a22:=Tryz.isAgg22
 z22:=Tryz.sizeOf22
 v22:=Tryz.zeroValue22 }
def uP (n:Nat) (a0:Int):Option (List Int×Unit):=if 0≤a0∧a0≤1073741824 then some ([],()) else none
def abF:List dh:=[.into 0 [], .val (.int .i64) []]
def ag2:List jF:=[.own (.sl 5 (.int .u8)) [5] [] []]
def adL:Entry:=⟨106,abF,ag2,fun n (c:Cont (kin abF))=>uP n c.1⟩
theorem ajk [Fr] (n:Nat):ak Tryz.prog n adL:=Wj.Vm (t:=22) (T:=T) ajX rfl rfl ((VW aI).ty 22 _ (by kernel_rfl)) (by kernel_rfl) (Go.MuLone.run_callFunc_enter Tryz.func106 (by kernel_rfl) rfl)
def gV (n:Nat) (a0:List (List Int)):Option ((List Int)×Unit):=(rounds (fun L1 (v1:(List (List Int))×Int×(List (List Int))×Int×Int×Unit)=>(if decide (v1.2.2.2.2.1<v1.2.2.2.1)=true then (if aH v1.2.2.2.2.1 v1.2.2.1.length then (if decide ((IntKind.i64.wrap (v1.2.1+((v1.2.2.1.getD v1.2.2.2.2.1.toNat ([]:List Int)).length:Int)))<(0:Int))=true then none else L1 (v1.1,IntKind.i64.wrap (v1.2.1+((v1.2.2.1.getD v1.2.2.2.2.1.toNat ([]:List Int)).length:Int)),v1.2.2.1,v1.2.2.2.1,IntKind.i64.wrap (v1.2.2.2.2.1+(1:Int)),())) else none) else ((uP n v1.2.1).bind fun r2=>(rounds (fun L3 (v3:(List (List Int))×Int×Int×(List Int)×Unit)=>(if decide (v3.2.2.1<v3.2.1)=true then (if aH v3.2.2.1 v3.1.length then (if (v3.2.2.2.1.length+(v3.1.getD v3.2.2.1.toNat ([]:List Int)).length) * 1≤140737488355328 then L3 (v3.1,v3.2.1,IntKind.i64.wrap (v3.2.2.1+(1:Int)),v3.2.2.2.1++(v3.1.getD v3.2.2.1.toNat ([]:List Int)),()) else none) else none) else some (v3.2.2.2.1,()))) n (v1.1,(v1.1.length:Int),(0:Int),r2.1,()))))) n (a0,(0:Int),a0,(a0.length:Int),(0:Int),()))
def Zf:Entry:=⟨77,[.val (.sl 22 (.sl 5 (.int .u8))) []],[.own (.sl 5 (.int .u8)) [5] [] []],fun n c=>gV n c.1⟩
def adY:Hint:=⟨0,[],[(0,[0,3,9,10,11],[]),(2,[6,25,26,27],[770])],[],[(106,some 24,adL)],[],[],[],[]⟩
theorem ahA:gN T adY Tryz.f77 Zf:=by intro n c; kernel_rfl
theorem ajl [Fr] (n:Nat):ak Tryz.prog n Zf:=aj mixed aI Tryz.func77 (by kernel_rfl) (hi:=adY) (aa (ajk n) aA) ahA
def oZ (n:Nat) (a0:CR) (a1:Int):Option (afW×Unit):=((wP n a0).bind fun r1=>(if (!decide (r1.1=(0:Int)))=true then some ((r1.1,([]:List Int),afY,()),()) else ((bN n a0.2.2.1).bind fun r2=>((dA n a1 (0:Int) r2.1).bind fun r3=>(if (!r3.1)=true then some (((3:Int),([]:List Int),afY,()),()) else (if 0≤a1∧a1≤(a0.2.2.1.length:Int) then ((gV n [a0.2.1,a0.2.2.1.take a1.toNat]).bind fun r4=>some (((0:Int),([]:List Int),(false,r4.1,([]:List Int),Ox,()),()),())) else none))))))
def Zg:Entry:=⟨36,[.val EA [], .val (.int .i64) []],[.own ZL [2,5,147,162] [] []],fun n c=>oZ n c.1 c.2.1⟩
def adZ:Hint:=⟨0,[],[],[],[(75,some 7,Ze),(76,some 15,Qg),(53,some 16,Ht),(77,some 26,Zf)],[],[],[],[]⟩
theorem ahB:gN T adZ Tryz.f36 Zg:=by intro n c; kernel_rfl
theorem ajm [Fr] (n:Nat):ak Tryz.prog n Zg:=aj mixed aI Tryz.func36 (by kernel_rfl) (hi:=adZ) (aa (ajj n) (aa (Uv n) (aa (KH n) (aa (ajl n) aA)))) ahB
def yx (n:Nat) (a0:Int):Option ((List GX)×Unit):=(rounds (fun L1 (v1:Int×Int×(List GX)×Unit)=>(if decide (v1.2.1<v1.1)=true then (if (v1.2.2.1.length+[(([]:List Int),(0:Int),([]:List Int),(1:Int),())].length) * 56≤140737488355328 then L1 (v1.1,IntKind.i64.wrap (v1.2.1+(1:Int)),v1.2.2.1++[(([]:List Int),(0:Int),([]:List Int),(1:Int),())],()) else none) else some (v1.2.2.1,()))) n (a0,(0:Int),([]:List GX),()))
def Zh:Entry:=⟨37,[.val (.int .i64) []],[.own (.sl 74 zV) [2,74] [] []],fun n c=>yx n c.1⟩
def ad1:Hint:=⟨0,[],[(0,[3,5,6],[130])],[],[],[],[],[],[]⟩
theorem ahC:gN T ad1 Tryz.f37 Zh:=by intro n c; kernel_rfl
theorem ajn [Fr] (n:Nat):ak Tryz.prog n Zh:=aj mixed aI Tryz.func37 (by kernel_rfl) (hi:=ad1) aA ahC
def kH (n:Nat) (a0:D9) (a1:Int):Option (Qq×Unit):=((gz n a0).bind fun r1=>(if (!decide (r1.1=(0:Int)))=true then some ((r1.1,([]:List (List Int)),acS,()),()) else ((oZ n a0.1 a1).bind fun r2=>(if (!decide (r2.1.1=(0:Int)))=true then some ((r2.1.1,([]:List (List Int)),acS,()),()) else ((yx n (a0.2.1.length:Int)).bind fun r3=>some (((0:Int),([]:List (List Int)),(r2.1.2.2.1,r3.1,()),()),()))))))
def Wh:Entry:=⟨15,[.val KQ [], .val (.int .i64) []],[.own Qp [2,5,9,74,147,162] [] []],fun n c=>kH n c.1 c.2.1⟩
def ad2:Hint:=⟨0,[24],[],[],[(24,some 8,Zd),(36,some 16,Zg),(37,some 28,Zh)],[],[],[],[]⟩
theorem ahD:gN T ad2 Tryz.f15 Wh:=by intro n c; kernel_rfl
theorem ad4 [Fr] (n:Nat):ak Tryz.prog n Wh:=aj mixed aI Tryz.func15 (by kernel_rfl) (hi:=ad2) (aa (aji n) (aa (ajm n) (aa (ajn n) aA))) ahD
def qU (n:Nat) (a0:List (List Int)) (a1:List (List Int)):Option (Bool×Unit):=(if (!decide ((a0.length:Int)=(a1.length:Int)))=true then some (false,()) else (rounds (fun L1 (v1:(List (List Int))×(List (List Int))×Int×Unit)=>(if decide (v1.2.2.1<(v1.1.length:Int))=true then (if aH v1.2.2.1 v1.1.length then (if aH v1.2.2.1 v1.2.1.length then (if (!decide ((v1.1.getD v1.2.2.1.toNat ([]:List Int))=(v1.2.1.getD v1.2.2.1.toNat ([]:List Int))))=true then some (false,()) else L1 (v1.1,v1.2.1,IntKind.i64.wrap (v1.2.2.1+(1:Int)),())) else none) else none) else some (true,()))) n (a0,a1,(0:Int),())))
def pW:List dh:=[.val (.sl 9 .str) [], .val (.sl 9 .str) []]
def Au:List jF:=[.val .bool [] []]
def vN:Entry:=⟨27,pW,Au,fun n (c:Cont (kin pW))=>qU n c.1 c.2.1⟩
def Bz:Hint:=⟨0,[],[(0,[0,1,5],[])],[],[],[],[],[],[]⟩
theorem I6:∀n (c:Cont (kin pW)),fU T Bz Tryz.f27 pW Au n c=vN.F n c:=by intro n c; kernel_rfl
theorem Jm [Fr] (n:Nat):ak Tryz.prog n vN:=aj mixed aI Tryz.func27 (by kernel_rfl) (hi:=Bz) aA I6
def mE (n:Nat) (a0:List Int) (a1:List Int):Option (Bool×Unit):=(if (!decide ((a0.length:Int)=(a1.length:Int)))=true then some (false,()) else (rounds (fun L1 (v1:(List Int)×Zt0)=>(if decide (v1.2.2.1<(v1.1.length:Int))=true then (if aH v1.2.2.1 v1.1.length then (if aH v1.2.2.1 v1.2.1.length then (if (!decide ((v1.1.getD v1.2.2.1.toNat (0:Int))=(v1.2.1.getD v1.2.2.1.toNat (0:Int))))=true then some (false,()) else L1 (v1.1,v1.2.1,IntKind.i64.wrap (v1.2.2.1+(1:Int)),())) else none) else none) else some (true,()))) n (a0,a1,(0:Int),())))
def sM:List dh:=[.val (.sl 5 (.int .u8)) [], .val (.sl 5 (.int .u8)) []]
def DN:List jF:=[.val .bool [] []]
def qm:Entry:=⟨64,sM,DN,fun n (c:Cont (kin sM))=>mE n c.1 c.2.1⟩
def Eg:Hint:=⟨0,[],[(0,[0,1,5],[])],[],[],[],[],[],[]⟩
theorem Lr:∀n (c:Cont (kin sM)),fU T Eg Tryz.f64 sM DN n c=qm.F n c:=by intro n c; kernel_rfl
theorem za [Fr] (n:Nat):ak Tryz.prog n qm:=aj mixed aI Tryz.func64 (by kernel_rfl) (hi:=Eg) aA Lr
def mF (n:Nat) (a0:tL) (a1:tL):Option (Bool×Unit):=(if (!decide (a0.1=a1.1))=true then some (false,()) else (if (!decide (a0.2.1=a1.2.1))=true then some (false,()) else (if (!decide (a0.2.2.1=a1.2.2.1))=true then some (false,()) else ((mE n a0.2.2.2.1 a1.2.2.2.1).bind fun r1=>(if (!r1.1)=true then some (false,()) else some (true,()))))))
def pU:List dh:=[.val BP [], .val BP []]
def Aq:List jF:=[.val .bool [] []]
def vL:Entry:=⟨179,pU,Aq,fun n (c:Cont (kin pU))=>mF n c.1 c.2.1⟩
def Bv:Hint:=⟨0,[],[],[],[(64,some 24,qm)],[],[],[],[]⟩
theorem I4:∀n (c:Cont (kin pU)),fU T Bv Tryz.f179 pU Aq n c=vL.F n c:=by intro n c; kernel_rfl
theorem Jk [Fr] (n:Nat):ak Tryz.prog n vL:=aj mixed aI Tryz.func179 (by kernel_rfl) (hi:=Bv) (aa (za n) aA) I4
def o8 (n:Nat) (a0:List tL) (a1:List tL):Option (Bool×Unit):=(if (!decide ((a0.length:Int)=(a1.length:Int)))=true then some (false,()) else (rounds (fun L1 (v1:(List tL)×(List tL)×Int×Unit)=>(if decide (v1.2.2.1<(v1.1.length:Int))=true then (if aH v1.2.2.1 v1.1.length then (if aH v1.2.2.1 v1.2.1.length then ((mF n (v1.1.getD v1.2.2.1.toNat lD) (v1.2.1.getD v1.2.2.1.toNat lD)).bind fun r2=>(if (!r2.1)=true then some (false,()) else L1 (v1.1,v1.2.1,IntKind.i64.wrap (v1.2.2.1+(1:Int)),()))) else none) else none) else some (true,()))) n (a0,a1,(0:Int),())))
def nX:List dh:=[.val (.sl 162 BP) [], .val (.sl 162 BP) []]
def zH:List jF:=[.val .bool [] []]
def uo:Entry:=⟨167,nX,zH,fun n (c:Cont (kin nX))=>o8 n c.1 c.2.1⟩
def Aa:Hint:=⟨0,[],[(0,[0,1,5],[])],[],[(179,some 25,vL)],[],[],[],[]⟩
theorem G7:∀n (c:Cont (kin nX)),fU T Aa Tryz.f167 nX zH n c=uo.F n c:=by intro n c; kernel_rfl
theorem Hz [Fr] (n:Nat):ak Tryz.prog n uo:=aj mixed aI Tryz.func167 (by kernel_rfl) (hi:=Aa) (aa (Jk n) aA) G7
def uF (n:Nat) (a0:dQ) (a1:dQ):Option (Bool×Unit):=(if (!decide (a0.1=a1.1))=true then some (false,()) else (if (!decide (a0.2.1=a1.2.1))=true then some (false,()) else (if (!decide (a0.2.2.1=a1.2.2.1))=true then some (false,()) else ((o8 n a0.2.2.2.1 a1.2.2.2.1).bind fun r1=>(if (!r1.1)=true then some (false,()) else some (true,()))))))
def xk:List dh:=[.val oJ [], .val oJ []]
def Gc:List jF:=[.val .bool [] []]
def CE:Entry:=⟨130,xk,Gc,fun n (c:Cont (kin xk))=>uF n c.1 c.2.1⟩
def Hu:Hint:=⟨0,[],[],[],[(167,some 24,uo)],[],[],[],[]⟩
theorem Qd:∀n (c:Cont (kin xk)),fU T Hu Tryz.f130 xk Gc n c=CE.F n c:=by intro n c; kernel_rfl
theorem Qh [Fr] (n:Nat):ak Tryz.prog n CE:=aj mixed aI Tryz.func130 (by kernel_rfl) (hi:=Hu) (aa (Hz n) aA) Qd
def wQ (n:Nat) (a0:List dQ) (a1:List dQ):Option (Bool×Unit):=(if (!decide ((a0.length:Int)=(a1.length:Int)))=true then some (false,()) else (rounds (fun L1 (v1:(List dQ)×(List dQ)×Int×Unit)=>(if decide (v1.2.2.1<(v1.1.length:Int))=true then (if aH v1.2.2.1 v1.1.length then (if aH v1.2.2.1 v1.2.1.length then ((uF n (v1.1.getD v1.2.2.1.toNat dH) (v1.2.1.getD v1.2.2.1.toNat dH)).bind fun r2=>(if (!r2.1)=true then some (false,()) else L1 (v1.1,v1.2.1,IntKind.i64.wrap (v1.2.2.1+(1:Int)),()))) else none) else none) else some (true,()))) n (a0,a1,(0:Int),())))
def vv:List dh:=[.val (.sl 147 oJ) [], .val (.sl 147 oJ) []]
def EZ:List jF:=[.val .bool [] []]
def A9:Entry:=⟨100,vv,EZ,fun n (c:Cont (kin vv))=>wQ n c.1 c.2.1⟩
def F4:Hint:=⟨0,[],[(0,[0,1,5],[])],[],[(130,some 25,CE)],[],[],[],[]⟩
theorem Oh:∀n (c:Cont (kin vv)),fU T F4 Tryz.f100 vv EZ n c=A9.F n c:=by intro n c; kernel_rfl
theorem Om [Fr] (n:Nat):ak Tryz.prog n A9:=aj mixed aI Tryz.func100 (by kernel_rfl) (hi:=F4) (aa (Qh n) aA) Oh
def uG (n:Nat) (a0:fO) (a1:fO):Option (Bool×Unit):=(if (!decide (a0.1=a1.1))=true then some (false,()) else ((wQ n a0.2.1 a1.2.1).bind fun r1=>(if (!r1.1)=true then some (false,()) else some (true,()))))
def sO:List dh:=[.val rU [], .val rU []]
def DR:List jF:=[.val .bool [] []]
def yR:Entry:=⟨65,sO,DR,fun n (c:Cont (kin sO))=>uG n c.1 c.2.1⟩
def Eh:Hint:=⟨0,[],[],[],[(100,some 14,A9)],[],[],[],[]⟩
theorem Ls:∀n (c:Cont (kin sO)),fU T Eh Tryz.f65 sO DR n c=yR.F n c:=by intro n c; kernel_rfl
theorem LK [Fr] (n:Nat):ak Tryz.prog n yR:=aj mixed aI Tryz.func65 (by kernel_rfl) (hi:=Eh) (aa (Om n) aA) Ls
def qA (n:Nat) (a0:CR) (a1:CR):Option (Bool×Unit):=(if (!(a0.1 == a1.1))=true then some (false,()) else ((mE n a0.2.1 a1.2.1).bind fun r1=>(if (!r1.1)=true then some (false,()) else ((mE n a0.2.2.1 a1.2.2.1).bind fun r2=>(if (!r2.1)=true then some (false,()) else ((uG n a0.2.2.2.1 a1.2.2.2.1).bind fun r3=>(if (!r3.1)=true then some (false,()) else some (true,()))))))))
def sP:List dh:=[.val EA [], .val EA []]
def DT:List jF:=[.val .bool [] []]
def yS:Entry:=⟨28,sP,DT,fun n (c:Cont (kin sP))=>qA n c.1 c.2.1⟩
def Ei:Hint:=⟨0,[],[],[],[(64,some 14,qm),(64,some 20,qm),(65,some 26,yR)],[],[],[],[]⟩
theorem Lt:∀n (c:Cont (kin sP)),fU T Ei Tryz.f28 sP DT n c=yS.F n c:=by intro n c; kernel_rfl
theorem LM [Fr] (n:Nat):ak Tryz.prog n yS:=aj mixed aI Tryz.func28 (by kernel_rfl) (hi:=Ei) (aa (za n) (aa (za n) (aa (LK n) aA))) Lt
def ku (n:Nat) (a0:List Int) (a1:List Int):Option (Bool×Unit):=(if (!decide ((a0.length:Int)=(a1.length:Int)))=true then some (false,()) else (rounds (fun L1 (v1:(List Int)×Zt0)=>(if decide (v1.2.2.1<(v1.1.length:Int))=true then (if aH v1.2.2.1 v1.1.length then (if aH v1.2.2.1 v1.2.1.length then (if (!decide ((v1.1.getD v1.2.2.1.toNat (0:Int))=(v1.2.1.getD v1.2.2.1.toNat (0:Int))))=true then some (false,()) else L1 (v1.1,v1.2.1,IntKind.i64.wrap (v1.2.2.1+(1:Int)),())) else none) else none) else some (true,()))) n (a0,a1,(0:Int),())))
def rC:List dh:=[.val (.sl 2 (.int .i64)) [], .val (.sl 2 (.int .i64)) []]
def Cm:List jF:=[.val .bool [] []]
def xP:Entry:=⟨101,rC,Cm,fun n (c:Cont (kin rC))=>ku n c.1 c.2.1⟩
def Dw:Hint:=⟨0,[],[(0,[0,1,5],[])],[],[],[],[],[],[]⟩
theorem Kz:∀n (c:Cont (kin rC)),fU T Dw Tryz.f101 rC Cm n c=xP.F n c:=by intro n c; kernel_rfl
theorem KI [Fr] (n:Nat):ak Tryz.prog n xP:=aj mixed aI Tryz.func101 (by kernel_rfl) (hi:=Dw) aA Kz
def jC (n:Nat) (a0:GX) (a1:GX):Option (Bool×Unit):=(if (!decide (a0.1=a1.1))=true then some (false,()) else (if (!decide (a0.2.1=a1.2.1))=true then some (false,()) else ((ku n a0.2.2.1 a1.2.2.1).bind fun r1=>(if (!r1.1)=true then some (false,()) else (if (!decide (a0.2.2.2.1=a1.2.2.2.1))=true then some (false,()) else some (true,()))))))
def pV:List dh:=[.val zV [], .val zV []]
def Ar:List jF:=[.val .bool [] []]
def vM:Entry:=⟨66,pV,Ar,fun n (c:Cont (kin pV))=>jC n c.1 c.2.1⟩
def Bw:Hint:=⟨0,[],[],[],[(101,some 19,xP)],[],[],[],[]⟩
theorem I5:∀n (c:Cont (kin pV)),fU T Bw Tryz.f66 pV Ar n c=vM.F n c:=by intro n c; kernel_rfl
theorem Jl [Fr] (n:Nat):ak Tryz.prog n vM:=aj mixed aI Tryz.func66 (by kernel_rfl) (hi:=Bw) (aa (KI n) aA) I5
def kK (n:Nat) (a0:List GX) (a1:List GX):Option (Bool×Unit):=(if (!decide ((a0.length:Int)=(a1.length:Int)))=true then some (false,()) else (rounds (fun L1 (v1:(List GX)×(List GX)×Int×Unit)=>(if decide (v1.2.2.1<(v1.1.length:Int))=true then (if aH v1.2.2.1 v1.1.length then (if aH v1.2.2.1 v1.2.1.length then ((jC n (v1.1.getD v1.2.2.1.toNat Ed) (v1.2.1.getD v1.2.2.1.toNat Ed)).bind fun r2=>(if (!r2.1)=true then some (false,()) else L1 (v1.1,v1.2.1,IntKind.i64.wrap (v1.2.2.1+(1:Int)),()))) else none) else none) else some (true,()))) n (a0,a1,(0:Int),())))
def nY:List dh:=[.val (.sl 74 zV) [], .val (.sl 74 zV) []]
def zI:List jF:=[.val .bool [] []]
def uq:Entry:=⟨29,nY,zI,fun n (c:Cont (kin nY))=>kK n c.1 c.2.1⟩
def Ab:Hint:=⟨0,[],[(0,[0,1,5],[])],[],[(66,some 25,vM)],[],[],[],[]⟩
theorem G8:∀n (c:Cont (kin nY)),fU T Ab Tryz.f29 nY zI n c=uq.F n c:=by intro n c; kernel_rfl
theorem HV [Fr] (n:Nat):ak Tryz.prog n uq:=aj mixed aI Tryz.func29 (by kernel_rfl) (hi:=Ab) (aa (Jl n) aA) G8
def mG (n:Nat) (a0:D9) (a1:D9):Option (Bool×Unit):=((qA n a0.1 a1.1).bind fun r1=>(if (!r1.1)=true then some (false,()) else ((kK n a0.2.1 a1.2.1).bind fun r2=>(if (!r2.1)=true then some (false,()) else some (true,())))))
def sQ:List dh:=[.val KQ [], .val KQ []]
def DU:List jF:=[.val .bool [] []]
def uu:Entry:=⟨10,sQ,DU,fun n (c:Cont (kin sQ))=>mG n c.1 c.2.1⟩
def Ej:Hint:=⟨0,[],[],[],[(28,some 9,yS),(29,some 15,uq)],[],[],[],[]⟩
theorem Lu:∀n (c:Cont (kin sQ)),fU T Ej Tryz.f10 sQ DU n c=uu.F n c:=by intro n c; kernel_rfl
theorem Ew [Fr] (n:Nat):ak Tryz.prog n uu:=aj mixed aI Tryz.func10 (by kernel_rfl) (hi:=Ej) (aa (LM n) (aa (HV n) aA)) Lu
def fJ (n:Nat) (a0:Qq) (a1:Qq):Option (Bool×Unit):=(if (!decide (a0.1=a1.1))=true then some (false,()) else ((qU n a0.2.1 a1.2.1).bind fun r1=>(if (!r1.1)=true then some (false,()) else ((mG n a0.2.2.1 a1.2.2.1).bind fun r2=>(if (!r2.1)=true then some (false,()) else some (true,()))))))
def jZ:List dh:=[.val Qp [], .val Qp []]
def vK:List jF:=[.val .bool [] []]
def iG:Entry:=⟨9,jZ,vK,fun n (c:Cont (kin jZ))=>fJ n c.1 c.2.1⟩
def xx:Hint:=⟨0,[],[],[],[(27,some 14,vN),(10,some 20,uu)],[],[],[],[]⟩
theorem Ee:∀n (c:Cont (kin jZ)),fU T xx Tryz.f9 jZ vK n c=iG.F n c:=by intro n c; kernel_rfl
theorem qC [Fr] (n:Nat):ak Tryz.prog n iG:=aj mixed aI Tryz.func9 (by kernel_rfl) (hi:=xx) (aa (Jm n) (aa (Ew n) aA)) Ee
def jD (n:Nat) (a0:List Int) (a1:Int):Option (Int×(List Int)×Unit):=(rounds (fun L1 (v1:Int×Int×(List Int)×Unit)=>(if decide (v1.2.1<(v1.2.2.1.length:Int))=true then (if aH v1.2.1 v1.2.2.1.length then L1 (IntKind.i64.wrap (v1.1+(1:Int)),IntKind.i64.wrap (v1.2.1+(1:Int)),v1.2.2.1.set v1.2.1.toNat (IntKind.u8.wrap v1.1),()) else none) else some (v1.1,v1.2.2.1,()))) n (a1,(0:Int),a0,()))
def qb:List dh:=[.jw (.sl 5 (.int .u8)) [5] [5], .val (.int .i64) []]
def AA:List jF:=[.val (.int .i64) [] []]
def mg:Entry:=⟨67,qb,AA,fun n (c:Cont (kin qb))=>jD n c.1 c.2.1⟩
def BF:Hint:=⟨0,[],[(0,[0,1,5],[0])],[],[],[],[],[],[]⟩
theorem Jb:∀n (c:Cont (kin qb)),fU T BF Tryz.f67 qb AA n c=mg.F n c:=by intro n c; kernel_rfl
theorem wm [Fr] (n:Nat):ak Tryz.prog n mg:=aj mixed aI Tryz.func67 (by kernel_rfl) (hi:=BF) aA Jb
def dP (n:Nat) (a0:Int):Option ((List Int)×Unit):=(if decide (a0≤(0:Int))=true then some ([109,48],()) else (rounds (fun L1 (v1:Int×(List Int)×Unit)=>(if decide (v1.1>(0:Int))=true then (if (10:Int)≠0 then (if [IntKind.u8.wrap (IntKind.i64.wrap ((48:Int)+(v1.1.tmod (10:Int))))].length+v1.2.1.length≤9223372036854775807 then (if (10:Int)≠0 then L1 (IntKind.i64.wrap (v1.1.tdiv (10:Int)),[IntKind.u8.wrap (IntKind.i64.wrap ((48:Int)+(v1.1.tmod (10:Int))))]++v1.2.1,()) else none) else none) else none) else (if [109].length+v1.2.1.length≤9223372036854775807 then some ([109]++v1.2.1,()) else none))) n (a0,([]:List Int),())))
def rF:List dh:=[.val (.int .i64) []]
def Cq:List jF:=[.val .str [] []]
def gP:Entry:=⟨69,rF,Cq,fun n (c:Cont (kin rF))=>dP n c.1⟩
def Dz:Hint:=⟨0,[],[(0,[0,3],[])],[],[],[],[],[],[]⟩
theorem KD:∀n (c:Cont (kin rF)),fU T Dz Tryz.f69 rF Cq n c=gP.F n c:=by intro n c; kernel_rfl
theorem kD [Fr] (n:Nat):ak Tryz.prog n gP:=aj mixed aI Tryz.func69 (by kernel_rfl) (hi:=Dz) aA KD
def lN (n:Nat) (a0:List tL) (a1:Int):Option (Int×(List tL)×Unit):=(rounds (fun L1 (v1:Int×Int×(List tL)×Unit)=>(if decide (v1.2.1<(v1.2.2.1.length:Int))=true then (if aH v1.2.1 v1.2.2.1.length then (if aH v1.2.1 (fH v1.2.2.1 v1.2.1.toNat lD fun z1=>(v1.1,z1.2)).length then (if aH v1.2.1 (fH (fH v1.2.2.1 v1.2.1.toNat lD fun z1=>(v1.1,z1.2)) v1.2.1.toNat lD fun z1=>(z1.1,IntKind.i64.wrap (v1.1+(1:Int)),z1.2.2)).length then (if aH v1.2.1 (fH (fH (fH v1.2.2.1 v1.2.1.toNat lD fun z1=>(v1.1,z1.2)) v1.2.1.toNat lD fun z1=>(z1.1,IntKind.i64.wrap (v1.1+(1:Int)),z1.2.2)) v1.2.1.toNat lD fun z1=>(z1.1,z1.2.1,IntKind.i64.wrap ((IntKind.i64.wrap (v1.1+(1:Int)))+(1:Int)),z1.2.2.2)).length then ((jD n ((((((fH (fH (fH v1.2.2.1 v1.2.1.toNat lD fun z1=>(v1.1,z1.2)) v1.2.1.toNat lD fun z1=>(z1.1,IntKind.i64.wrap (v1.1+(1:Int)),z1.2.2)) v1.2.1.toNat lD fun z1=>(z1.1,z1.2.1,IntKind.i64.wrap ((IntKind.i64.wrap (v1.1+(1:Int)))+(1:Int)),z1.2.2.2)).getD v1.2.1.toNat lD).2).2).2).1) (IntKind.i64.wrap ((IntKind.i64.wrap ((IntKind.i64.wrap (v1.1+(1:Int)))+(1:Int)))+(1:Int)))).bind fun r2=>L1 (r2.1,IntKind.i64.wrap (v1.2.1+(1:Int)),(fH (fH (fH (fH v1.2.2.1 v1.2.1.toNat lD fun z1=>(v1.1,z1.2)) v1.2.1.toNat lD fun z1=>(z1.1,IntKind.i64.wrap (v1.1+(1:Int)),z1.2.2)) v1.2.1.toNat lD fun z1=>(z1.1,z1.2.1,IntKind.i64.wrap ((IntKind.i64.wrap (v1.1+(1:Int)))+(1:Int)),z1.2.2.2)) v1.2.1.toNat lD fun z1=>(z1.1,z1.2.1,z1.2.2.1,r2.2.1,z1.2.2.2.2)),())) else none) else none) else none) else none) else some (v1.1,v1.2.2.1,()))) n (a1,(0:Int),a0,()))
def kU:List dh:=[.jw (.sl 162 BP) [5,162] [5,162,4294967295], .val (.int .i64) []]
def xL:List jF:=[.val (.int .i64) [] []]
def rQ:Entry:=⟨131,kU,xL,fun n (c:Cont (kin kU))=>lN n c.1 c.2.1⟩
def yf:Hint:=⟨0,[37],[(0,[0,1,5],[0])],[],[(67,some 39,mg)],[],[],[],[]⟩
theorem FQ:∀n (c:Cont (kin kU)),fU T yf Tryz.f131 kU xL n c=rQ.F n c:=by intro n c; kernel_rfl
theorem FV [Fr] (n:Nat):ak Tryz.prog n rQ:=aj mixed aI Tryz.func131 (by kernel_rfl) (hi:=yf) (aa (wm n) aA) FQ
def sH (n:Nat) (a0:List dQ) (a1:Int):Option fO:=(rounds (fun L1 (v1:Int×fO)=>(if decide (v1.2.1<(v1.2.2.1.length:Int))=true then ((dP n v1.1).bind fun r2=>(if aH v1.2.1 v1.2.2.1.length then (if aH v1.2.1 (fH v1.2.2.1 v1.2.1.toNat dH fun z1=>(r2.1,z1.2)).length then (if aH v1.2.1 (fH (fH v1.2.2.1 v1.2.1.toNat dH fun z1=>(r2.1,z1.2)) v1.2.1.toNat dH fun z1=>(z1.1,IntKind.i64.wrap (v1.1+(1:Int)),z1.2.2)).length then (if aH v1.2.1 (fH (fH (fH v1.2.2.1 v1.2.1.toNat dH fun z1=>(r2.1,z1.2)) v1.2.1.toNat dH fun z1=>(z1.1,IntKind.i64.wrap (v1.1+(1:Int)),z1.2.2)) v1.2.1.toNat dH fun z1=>(z1.1,z1.2.1,IntKind.i64.wrap ((IntKind.i64.wrap (v1.1+(1:Int)))+(1:Int)),z1.2.2.2)).length then ((lN n ((((((fH (fH (fH v1.2.2.1 v1.2.1.toNat dH fun z1=>(r2.1,z1.2)) v1.2.1.toNat dH fun z1=>(z1.1,IntKind.i64.wrap (v1.1+(1:Int)),z1.2.2)) v1.2.1.toNat dH fun z1=>(z1.1,z1.2.1,IntKind.i64.wrap ((IntKind.i64.wrap (v1.1+(1:Int)))+(1:Int)),z1.2.2.2)).getD v1.2.1.toNat dH).2).2).2).1) (IntKind.i64.wrap ((IntKind.i64.wrap ((IntKind.i64.wrap (v1.1+(1:Int)))+(1:Int)))+(1:Int)))).bind fun r3=>L1 (r3.1,IntKind.i64.wrap (v1.2.1+(1:Int)),(fH (fH (fH (fH v1.2.2.1 v1.2.1.toNat dH fun z1=>(r2.1,z1.2)) v1.2.1.toNat dH fun z1=>(z1.1,IntKind.i64.wrap (v1.1+(1:Int)),z1.2.2)) v1.2.1.toNat dH fun z1=>(z1.1,z1.2.1,IntKind.i64.wrap ((IntKind.i64.wrap (v1.1+(1:Int)))+(1:Int)),z1.2.2.2)) v1.2.1.toNat dH fun z1=>(z1.1,z1.2.1,z1.2.2.1,r3.2.1,z1.2.2.2.2)),())) else none) else none) else none) else none)) else some (v1.1,v1.2.2.1,()))) n (a1,(0:Int),a0,()))
def rE:List dh:=[.jw (.sl 147 oJ) [5,147,162] [5,147,162,4294967295], .val (.int .i64) []]
def Co:List jF:=[.val (.int .i64) [] []]
def xR:Entry:=⟨102,rE,Co,fun n (c:Cont (kin rE))=>sH n c.1 c.2.1⟩
def Dy:Hint:=⟨0,[38],[(0,[0,1,5],[0])],[],[(69,some 15,gP),(131,some 40,rQ)],[],[],[],[]⟩
theorem KC:∀n (c:Cont (kin rE)),fU T Dy Tryz.f102 rE Co n c=xR.F n c:=by intro n c; kernel_rfl
theorem KL [Fr] (n:Nat):ak Tryz.prog n xR:=aj mixed aI Tryz.func102 (by kernel_rfl) (hi:=Dy) (aa (kD n) (aa (FV n) aA)) KC
def qV (n:Nat) (a0:fO) (a1:Int):Option (Int×fO×Unit):=((sH n a0.2.1 a1).bind fun r1=>some (r1.1,(a0.1,r1.2.1,a0.2.2),()))
def qc:List dh:=[.jw rU [5,147,162] [5,147,162,4294967295], .val (.int .i64) []]
def AB:List jF:=[.val (.int .i64) [] []]
def vR:Entry:=⟨68,qc,AB,fun n (c:Cont (kin qc))=>qV n c.1 c.2.1⟩
def BG:Hint:=⟨0,[],[],[],[(102,some 8,xR)],[],[],[],[]⟩
theorem Jc:∀n (c:Cont (kin qc)),fU T BG Tryz.f68 qc AB n c=vR.F n c:=by intro n c; kernel_rfl
theorem Jq [Fr] (n:Nat):ak Tryz.prog n vR:=aj mixed aI Tryz.func68 (by kernel_rfl) (hi:=BG) (aa (KL n) aA) Jc
def qW (n:Nat) (a0:CR) (a1:Int):Option (Int×CR×Unit):=((jD n a0.2.1 a1).bind fun r1=>((jD n a0.2.2.1 r1.1).bind fun r2=>((qV n a0.2.2.2.1 r2.1).bind fun r3=>some (r3.1,(a0.1,r1.2.1,r2.2.1,r3.2.1,a0.2.2.2.2),()))))
def qd:List dh:=[.jw EA [5,147,162] [5,147,162,4294967295], .val (.int .i64) []]
def AJ:List jF:=[.val (.int .i64) [] []]
def vS:Entry:=⟨30,qd,AJ,fun n (c:Cont (kin qd))=>qW n c.1 c.2.1⟩
def BH:Hint:=⟨0,[],[],[],[(67,some 8,mg),(67,some 12,mg),(68,some 16,vR)],[],[],[],[]⟩
theorem Jd:∀n (c:Cont (kin qd)),fU T BH Tryz.f30 qd AJ n c=vS.F n c:=by intro n c; kernel_rfl
theorem Jr [Fr] (n:Nat):ak Tryz.prog n vS:=aj mixed aI Tryz.func30 (by kernel_rfl) (hi:=BH) (aa (wm n) (aa (wm n) (aa (Jq n) aA))) Jd
def pg (n:Nat) (a0:List Int) (a1:Int):Option (Int×(List Int)×Unit):=(rounds (fun L1 (v1:Int×Int×(List Int)×Unit)=>(if decide (v1.2.1<(v1.2.2.1.length:Int))=true then (if aH v1.2.1 v1.2.2.1.length then L1 (IntKind.i64.wrap (v1.1+(1:Int)),IntKind.i64.wrap (v1.2.1+(1:Int)),v1.2.2.1.set v1.2.1.toNat v1.1,()) else none) else some (v1.1,v1.2.2.1,()))) n (a1,(0:Int),a0,()))
def og:List dh:=[.jw (.sl 2 (.int .i64)) [2] [2], .val (.int .i64) []]
def zK:List jF:=[.val (.int .i64) [] []]
def uy:Entry:=⟨70,og,zK,fun n (c:Cont (kin og))=>pg n c.1 c.2.1⟩
def Ad:Hint:=⟨0,[],[(0,[0,1,5],[0])],[],[],[],[],[],[]⟩
theorem He:∀n (c:Cont (kin og)),fU T Ad Tryz.f70 og zK n c=uy.F n c:=by intro n c; kernel_rfl
theorem HZ [Fr] (n:Nat):ak Tryz.prog n uy:=aj mixed aI Tryz.func70 (by kernel_rfl) (hi:=Ad) aA He
def lQ (n:Nat) (a0:List GX) (a1:Int):Option (Int×(List GX)×Unit):=(rounds (fun L1 (v1:Int×Int×(List GX)×Unit)=>(if decide (v1.2.1<(v1.2.2.1.length:Int))=true then ((dP n v1.1).bind fun r2=>(if aH v1.2.1 v1.2.2.1.length then (if aH v1.2.1 (fH v1.2.2.1 v1.2.1.toNat Ed fun z1=>(r2.1,z1.2)).length then (if aH v1.2.1 (fH (fH v1.2.2.1 v1.2.1.toNat Ed fun z1=>(r2.1,z1.2)) v1.2.1.toNat Ed fun z1=>(z1.1,IntKind.i64.wrap (v1.1+(1:Int)),z1.2.2)).length then ((pg n (((((fH (fH v1.2.2.1 v1.2.1.toNat Ed fun z1=>(r2.1,z1.2)) v1.2.1.toNat Ed fun z1=>(z1.1,IntKind.i64.wrap (v1.1+(1:Int)),z1.2.2)).getD v1.2.1.toNat Ed).2).2).1) (IntKind.i64.wrap ((IntKind.i64.wrap (v1.1+(1:Int)))+(1:Int)))).bind fun r3=>(if aH v1.2.1 (fH (fH (fH v1.2.2.1 v1.2.1.toNat Ed fun z1=>(r2.1,z1.2)) v1.2.1.toNat Ed fun z1=>(z1.1,IntKind.i64.wrap (v1.1+(1:Int)),z1.2.2)) v1.2.1.toNat Ed fun z1=>(z1.1,z1.2.1,r3.2.1,z1.2.2.2)).length then L1 (IntKind.i64.wrap (r3.1+(1:Int)),IntKind.i64.wrap (v1.2.1+(1:Int)),(fH (fH (fH (fH v1.2.2.1 v1.2.1.toNat Ed fun z1=>(r2.1,z1.2)) v1.2.1.toNat Ed fun z1=>(z1.1,IntKind.i64.wrap (v1.1+(1:Int)),z1.2.2)) v1.2.1.toNat Ed fun z1=>(z1.1,z1.2.1,r3.2.1,z1.2.2.2)) v1.2.1.toNat Ed fun z1=>(z1.1,z1.2.1,z1.2.2.1,r3.1,z1.2.2.2.2)),()) else none)) else none) else none) else none)) else some (v1.1,v1.2.2.1,()))) n (a1,(0:Int),a0,()))
def kY:List dh:=[.jw (.sl 74 zV) [2,74] [2,74,4294967295], .val (.int .i64) []]
def xM:List jF:=[.val (.int .i64) [] []]
def rR:Entry:=⟨31,kY,xM,fun n (c:Cont (kin kY))=>lQ n c.1 c.2.1⟩
def yg:Hint:=⟨0,[31],[(0,[0,1,5],[0])],[],[(69,some 15,gP),(70,some 33,uy)],[],[],[],[]⟩
theorem FR:∀n (c:Cont (kin kY)),fU T yg Tryz.f31 kY xM n c=rR.F n c:=by intro n c; kernel_rfl
theorem FW [Fr] (n:Nat):ak Tryz.prog n rR:=aj mixed aI Tryz.func31 (by kernel_rfl) (hi:=yg) (aa (kD n) (aa (HZ n) aA)) FR
def mO (n:Nat) (a0:D9) (a1:Int):Option (Int×D9×Unit):=((qW n a0.1 a1).bind fun r1=>((lQ n a0.2.1 r1.1).bind fun r2=>some (r2.1,(r1.2.1,r2.2.1,a0.2.2),())))
def qg:List dh:=[.jw KQ [2,5,74,147,162] [2,5,74,147,162,4294967295], .val (.int .i64) []]
def AL:List jF:=[.val (.int .i64) [] []]
def qP:Entry:=⟨11,qg,AL,fun n (c:Cont (kin qg))=>mO n c.1 c.2.1⟩
def BI:Hint:=⟨0,[],[],[],[(30,some 8,vS),(31,some 12,rR)],[],[],[],[]⟩
theorem Je:∀n (c:Cont (kin qg)),fU T BI Tryz.f11 qg AL n c=qP.F n c:=by intro n c; kernel_rfl
theorem BN [Fr] (n:Nat):ak Tryz.prog n qP:=aj mixed aI Tryz.func11 (by kernel_rfl) (hi:=BI) (aa (Jr n) (aa (FW n) aA)) Je
def nP (n:Nat) (a0:List (List Int)) (a1:Int):Option (Int×(List (List Int))×Unit):=(rounds (fun L1 (v1:Int×Int×(List (List Int))×Unit)=>(if decide (v1.2.1<(v1.2.2.1.length:Int))=true then ((dP n v1.1).bind fun r2=>(if aH v1.2.1 v1.2.2.1.length then L1 (IntKind.i64.wrap (v1.1+(1:Int)),IntKind.i64.wrap (v1.2.1+(1:Int)),v1.2.2.1.set v1.2.1.toNat r2.1,()) else none)) else some (v1.1,v1.2.2.1,()))) n (a1,(0:Int),a0,()))
def lY:List dh:=[.jw (.sl 9 .str) [9] [9], .val (.int .i64) []]
def ym:List jF:=[.val (.int .i64) [] []]
def tH:Entry:=⟨32,lY,ym,fun n (c:Cont (kin lY))=>nP n c.1 c.2.1⟩
def y8:Hint:=⟨0,[],[(0,[0,1,5],[0])],[],[(69,some 15,gP)],[],[],[],[]⟩
theorem Gl:∀n (c:Cont (kin lY)),fU T y8 Tryz.f32 lY ym n c=tH.F n c:=by intro n c; kernel_rfl
theorem Gn [Fr] (n:Nat):ak Tryz.prog n tH:=aj mixed aI Tryz.func32 (by kernel_rfl) (hi:=y8) (aa (kD n) aA) Gl
def jf (n:Nat) (a0:Qq) (a1:Int):Option (Int×Qq×Unit):=((nP n a0.2.1 a1).bind fun r1=>((mO n a0.2.2.1 r1.1).bind fun r2=>some (r2.1,(a0.1,r1.2.1,r2.2.1,a0.2.2.2),())))
def iO:List dh:=[.jw Qp [2,5,9,74,147,162] [2,5,9,74,147,162,4294967295], .val (.int .i64) []]
def uh:List jF:=[.val (.int .i64) [] []]
def nL:Entry:=⟨12,iO,uh,fun n (c:Cont (kin iO))=>jf n c.1 c.2.1⟩
def uV:Hint:=⟨0,[],[],[],[(32,some 8,tH),(11,some 12,qP)],[],[],[],[]⟩
theorem CB:∀n (c:Cont (kin iO)),fU T uV Tryz.f12 iO uh n c=nL.F n c:=by intro n c; kernel_rfl
theorem CK [Fr] (n:Nat):ak Tryz.prog n nL:=aj mixed aI Tryz.func12 (by kernel_rfl) (hi:=uV) (aa (Gn n) (aa (BN n) aA)) CB
def jL (n:Nat) (a0:List (List Int)) (a1:Int):Option (Int×Unit):=(rounds (fun L1 (v1:(List (List Int))×Int×Int×Unit)=>(if decide (v1.2.2.1<(v1.1.length:Int))=true then (if aH v1.2.2.1 v1.1.length then ((dP n v1.2.1).bind fun r2=>(if (!decide ((v1.1.getD v1.2.2.1.toNat ([]:List Int))=r2.1))=true then some ((-1:Int),()) else L1 (v1.1,IntKind.i64.wrap (v1.2.1+(1:Int)),IntKind.i64.wrap (v1.2.2.1+(1:Int)),()))) else none) else some (v1.2.1,()))) n (a0,a1,(0:Int),()))
def lX:List dh:=[.val (.sl 9 .str) [], .val (.int .i64) []]
def yl:List jF:=[.val (.int .i64) [] []]
def tF:Entry:=⟨33,lX,yl,fun n (c:Cont (kin lX))=>jL n c.1 c.2.1⟩
def y7:Hint:=⟨0,[],[(0,[0,1,5],[])],[],[(69,some 17,gP)],[],[],[],[]⟩
theorem Gj:∀n (c:Cont (kin lX)),fU T y7 Tryz.f33 lX yl n c=tF.F n c:=by intro n c; kernel_rfl
theorem Gm [Fr] (n:Nat):ak Tryz.prog n tF:=aj mixed aI Tryz.func33 (by kernel_rfl) (hi:=y7) (aa (kD n) aA) Gj
def fK (n:Nat) (a0:List Int) (a1:Int):Option (Int×Unit):=(rounds (fun L1 (v1:(List Int)×Int×Int×Unit)=>(if decide (v1.2.2.1<(v1.1.length:Int))=true then (if aH v1.2.2.1 v1.1.length then (if (!decide ((v1.1.getD v1.2.2.1.toNat (0:Int))=(IntKind.u8.wrap v1.2.1)))=true then some ((-1:Int),()) else L1 (v1.1,IntKind.i64.wrap (v1.2.1+(1:Int)),IntKind.i64.wrap (v1.2.2.1+(1:Int)),())) else none) else some (v1.2.1,()))) n (a0,a1,(0:Int),()))
def pX:List dh:=[.val (.sl 5 (.int .u8)) [], .val (.int .i64) []]
def Av:List jF:=[.val (.int .i64) [] []]
def l9:Entry:=⟨103,pX,Av,fun n (c:Cont (kin pX))=>fK n c.1 c.2.1⟩
def BA:Hint:=⟨0,[],[(0,[0,1,5],[])],[],[],[],[],[],[]⟩
theorem I7:∀n (c:Cont (kin pX)),fU T BA Tryz.f103 pX Av n c=l9.F n c:=by intro n c; kernel_rfl
theorem vZ [Fr] (n:Nat):ak Tryz.prog n l9:=aj mixed aI Tryz.func103 (by kernel_rfl) (hi:=BA) aA I7
def lK (n:Nat) (a0:List tL) (a1:Int):Option (Int×Unit):=(rounds (fun L1 (v1:(List tL)×Int×Int×Unit)=>(if decide (v1.2.2.1<(v1.1.length:Int))=true then (if aH v1.2.2.1 v1.1.length then (if (!decide (((v1.1.getD v1.2.2.1.toNat lD).1)=v1.2.1))=true then some ((-1:Int),()) else (if aH v1.2.2.1 v1.1.length then (if (!decide ((((v1.1.getD v1.2.2.1.toNat lD).2).1)=(IntKind.i64.wrap (v1.2.1+(1:Int)))))=true then some ((-1:Int),()) else (if aH v1.2.2.1 v1.1.length then (if (!decide (((((v1.1.getD v1.2.2.1.toNat lD).2).2).1)=(IntKind.i64.wrap ((IntKind.i64.wrap (v1.2.1+(1:Int)))+(1:Int)))))=true then some ((-1:Int),()) else (if aH v1.2.2.1 v1.1.length then ((fK n (((((v1.1.getD v1.2.2.1.toNat lD).2).2).2).1) (IntKind.i64.wrap ((IntKind.i64.wrap ((IntKind.i64.wrap (v1.2.1+(1:Int)))+(1:Int)))+(1:Int)))).bind fun r2=>(if decide (r2.1<(0:Int))=true then some ((-1:Int),()) else L1 (v1.1,r2.1,IntKind.i64.wrap (v1.2.2.1+(1:Int)),()))) else none)) else none)) else none)) else none) else some (v1.2.1,()))) n (a0,a1,(0:Int),()))
def kR:List dh:=[.val (.sl 162 BP) [], .val (.int .i64) []]
def xJ:List jF:=[.val (.int .i64) [] []]
def rO:Entry:=⟨168,kR,xJ,fun n (c:Cont (kin kR))=>lK n c.1 c.2.1⟩
def x9:Hint:=⟨0,[],[(0,[0,1,5],[])],[],[(103,some 45,l9)],[],[],[],[]⟩
theorem FO:∀n (c:Cont (kin kR)),fU T x9 Tryz.f168 kR xJ n c=rO.F n c:=by intro n c; kernel_rfl
theorem FT [Fr] (n:Nat):ak Tryz.prog n rO:=aj mixed aI Tryz.func168 (by kernel_rfl) (hi:=x9) (aa (vZ n) aA) FO
def oH (n:Nat) (a0:List dQ) (a1:Int):Option (Int×Unit):=(rounds (fun L1 (v1:(List dQ)×Int×Int×Unit)=>(if decide (v1.2.2.1<(v1.1.length:Int))=true then (if aH v1.2.2.1 v1.1.length then ((dP n v1.2.1).bind fun r2=>(if (!decide (((v1.1.getD v1.2.2.1.toNat dH).1)=r2.1))=true then some ((-1:Int),()) else (if aH v1.2.2.1 v1.1.length then (if (!decide ((((v1.1.getD v1.2.2.1.toNat dH).2).1)=(IntKind.i64.wrap (v1.2.1+(1:Int)))))=true then some ((-1:Int),()) else (if aH v1.2.2.1 v1.1.length then (if (!decide (((((v1.1.getD v1.2.2.1.toNat dH).2).2).1)=(IntKind.i64.wrap ((IntKind.i64.wrap (v1.2.1+(1:Int)))+(1:Int)))))=true then some ((-1:Int),()) else (if aH v1.2.2.1 v1.1.length then ((lK n (((((v1.1.getD v1.2.2.1.toNat dH).2).2).2).1) (IntKind.i64.wrap ((IntKind.i64.wrap ((IntKind.i64.wrap (v1.2.1+(1:Int)))+(1:Int)))+(1:Int)))).bind fun r3=>(if decide (r3.1<(0:Int))=true then some ((-1:Int),()) else L1 (v1.1,r3.1,IntKind.i64.wrap (v1.2.2.1+(1:Int)),()))) else none)) else none)) else none))) else none) else some (v1.2.1,()))) n (a0,a1,(0:Int),()))
def rD:List dh:=[.val (.sl 147 oJ) [], .val (.int .i64) []]
def Cn:List jF:=[.val (.int .i64) [] []]
def xQ:Entry:=⟨132,rD,Cn,fun n (c:Cont (kin rD))=>oH n c.1 c.2.1⟩
def Dx:Hint:=⟨0,[],[(0,[0,1,5],[])],[],[(69,some 18,gP),(168,some 46,rO)],[],[],[],[]⟩
theorem KA:∀n (c:Cont (kin rD)),fU T Dx Tryz.f132 rD Cn n c=xQ.F n c:=by intro n c; kernel_rfl
theorem KJ [Fr] (n:Nat):ak Tryz.prog n xQ:=aj mixed aI Tryz.func132 (by kernel_rfl) (hi:=Dx) (aa (kD n) (aa (FT n) aA)) KA
def mH (n:Nat) (a0:fO) (a1:Int):Option (Int×Unit):=((oH n a0.2.1 a1).bind fun r1=>(if decide (r1.1<(0:Int))=true then some ((-1:Int),()) else some (r1.1,())))
def pY:List dh:=[.val rU [], .val (.int .i64) []]
def Aw:List jF:=[.val (.int .i64) [] []]
def vO:Entry:=⟨104,pY,Aw,fun n (c:Cont (kin pY))=>mH n c.1 c.2.1⟩
def BB:Hint:=⟨0,[],[],[],[(132,some 8,xQ)],[],[],[],[]⟩
theorem I8:∀n (c:Cont (kin pY)),fU T BB Tryz.f104 pY Aw n c=vO.F n c:=by intro n c; kernel_rfl
theorem Jn [Fr] (n:Nat):ak Tryz.prog n vO:=aj mixed aI Tryz.func104 (by kernel_rfl) (hi:=BB) (aa (KJ n) aA) I8
def mJ (n:Nat) (a0:CR) (a1:Int):Option (Int×Unit):=((fK n a0.2.1 a1).bind fun r1=>(if decide (r1.1<(0:Int))=true then some ((-1:Int),()) else ((fK n a0.2.2.1 r1.1).bind fun r2=>(if decide (r2.1<(0:Int))=true then some ((-1:Int),()) else ((mH n a0.2.2.2.1 r2.1).bind fun r3=>(if decide (r3.1<(0:Int))=true then some ((-1:Int),()) else some (r3.1,())))))))
def p9:List dh:=[.val EA [], .val (.int .i64) []]
def Ay:List jF:=[.val (.int .i64) [] []]
def vP:Entry:=⟨71,p9,Ay,fun n (c:Cont (kin p9))=>mJ n c.1 c.2.1⟩
def BC:Hint:=⟨0,[],[],[],[(103,some 8,l9),(103,some 14,l9),(104,some 20,vO)],[],[],[],[]⟩
theorem I9:∀n (c:Cont (kin p9)),fU T BC Tryz.f71 p9 Ay n c=vP.F n c:=by intro n c; kernel_rfl
theorem Jo [Fr] (n:Nat):ak Tryz.prog n vP:=aj mixed aI Tryz.func71 (by kernel_rfl) (hi:=BC) (aa (vZ n) (aa (vZ n) (aa (Jn n) aA))) I9
def o9 (n:Nat) (a0:List Int) (a1:Int):Option (Int×Unit):=(rounds (fun L1 (v1:(List Int)×Int×Int×Unit)=>(if decide (v1.2.2.1<(v1.1.length:Int))=true then (if aH v1.2.2.1 v1.1.length then (if (!decide ((v1.1.getD v1.2.2.1.toNat (0:Int))=v1.2.1))=true then some ((-1:Int),()) else L1 (v1.1,IntKind.i64.wrap (v1.2.1+(1:Int)),IntKind.i64.wrap (v1.2.2.1+(1:Int)),())) else none) else some (v1.2.1,()))) n (a0,a1,(0:Int),()))
def nZ:List dh:=[.val (.sl 2 (.int .i64)) [], .val (.int .i64) []]
def zJ:List jF:=[.val (.int .i64) [] []]
def uw:Entry:=⟨105,nZ,zJ,fun n (c:Cont (kin nZ))=>o9 n c.1 c.2.1⟩
def Ac:Hint:=⟨0,[],[(0,[0,1,5],[])],[],[],[],[],[],[]⟩
theorem G9:∀n (c:Cont (kin nZ)),fU T Ac Tryz.f105 nZ zJ n c=uw.F n c:=by intro n c; kernel_rfl
theorem HY [Fr] (n:Nat):ak Tryz.prog n uw:=aj mixed aI Tryz.func105 (by kernel_rfl) (hi:=Ac) aA G9
def jc (n:Nat) (a0:List GX) (a1:Int):Option (Int×Unit):=(rounds (fun L1 (v1:(List GX)×Int×Int×Unit)=>(if decide (v1.2.2.1<(v1.1.length:Int))=true then (if aH v1.2.2.1 v1.1.length then ((dP n v1.2.1).bind fun r2=>(if (!decide (((v1.1.getD v1.2.2.1.toNat Ed).1)=r2.1))=true then some ((-1:Int),()) else (if aH v1.2.2.1 v1.1.length then (if (!decide ((((v1.1.getD v1.2.2.1.toNat Ed).2).1)=(IntKind.i64.wrap (v1.2.1+(1:Int)))))=true then some ((-1:Int),()) else (if aH v1.2.2.1 v1.1.length then ((o9 n ((((v1.1.getD v1.2.2.1.toNat Ed).2).2).1) (IntKind.i64.wrap ((IntKind.i64.wrap (v1.2.1+(1:Int)))+(1:Int)))).bind fun r3=>(if decide (r3.1<(0:Int))=true then some ((-1:Int),()) else (if aH v1.2.2.1 v1.1.length then (if (!decide ((((((v1.1.getD v1.2.2.1.toNat Ed).2).2).2).1)=r3.1))=true then some ((-1:Int),()) else L1 (v1.1,IntKind.i64.wrap (r3.1+(1:Int)),IntKind.i64.wrap (v1.2.2.1+(1:Int)),())) else none))) else none)) else none))) else none) else some (v1.2.1,()))) n (a0,a1,(0:Int),()))
def kT:List dh:=[.val (.sl 74 zV) [], .val (.int .i64) []]
def xK:List jF:=[.val (.int .i64) [] []]
def rP:Entry:=⟨72,kT,xK,fun n (c:Cont (kin kT))=>jc n c.1 c.2.1⟩
def yc:Hint:=⟨0,[],[(0,[0,1,5],[])],[],[(69,some 18,gP),(105,some 37,uw)],[],[],[],[]⟩
theorem FP:∀n (c:Cont (kin kT)),fU T yc Tryz.f72 kT xK n c=rP.F n c:=by intro n c; kernel_rfl
theorem FU [Fr] (n:Nat):ak Tryz.prog n rP:=aj mixed aI Tryz.func72 (by kernel_rfl) (hi:=yc) (aa (kD n) (aa (HY n) aA)) FP
def mK (n:Nat) (a0:D9) (a1:Int):Option (Int×Unit):=((mJ n a0.1 a1).bind fun r1=>(if decide (r1.1<(0:Int))=true then some ((-1:Int),()) else ((jc n a0.2.1 r1.1).bind fun r2=>(if decide (r2.1<(0:Int))=true then some ((-1:Int),()) else some (r2.1,())))))
def qa:List dh:=[.val KQ [], .val (.int .i64) []]
def Az:List jF:=[.val (.int .i64) [] []]
def vQ:Entry:=⟨34,qa,Az,fun n (c:Cont (kin qa))=>mK n c.1 c.2.1⟩
def BD:Hint:=⟨0,[],[],[],[(71,some 8,vP),(72,some 14,rP)],[],[],[],[]⟩
theorem Ja:∀n (c:Cont (kin qa)),fU T BD Tryz.f34 qa Az n c=vQ.F n c:=by intro n c; kernel_rfl
theorem Jp [Fr] (n:Nat):ak Tryz.prog n vQ:=aj mixed aI Tryz.func34 (by kernel_rfl) (hi:=BD) (aa (Jo n) (aa (FU n) aA)) Ja
def gD (n:Nat) (a0:Qq) (a1:Int):Option (Int×Unit):=((jL n a0.2.1 a1).bind fun r1=>(if decide (r1.1<(0:Int))=true then some ((-1:Int),()) else ((mK n a0.2.2.1 r1.1).bind fun r2=>(if decide (r2.1<(0:Int))=true then some ((-1:Int),()) else some (r2.1,())))))
def iN:List dh:=[.val Qp [], .val (.int .i64) []]
def ug:List jF:=[.val (.int .i64) [] []]
def je:Entry:=⟨13,iN,ug,fun n (c:Cont (kin iN))=>gD n c.1 c.2.1⟩
def uU:Hint:=⟨0,[],[],[],[(33,some 8,tF),(34,some 14,vQ)],[],[],[],[]⟩
theorem Cz:∀n (c:Cont (kin iN)),fU T uU Tryz.f13 iN ug n c=je.F n c:=by intro n c; kernel_rfl
theorem uX [Fr] (n:Nat):ak Tryz.prog n je:=aj mixed aI Tryz.func13 (by kernel_rfl) (hi:=uU) (aa (Gm n) (aa (Jp n) aA)) Cz
def lq (n:Nat) (a0:D9) (a1:Int):Option (Bool×Unit):=((uK n a0 (1048576:Int)).bind fun r1=>(if decide (r1.1<(0:Int))=true then some (true,()) else ((jM n a0).bind fun r2=>((pF n r2.1 a1).bind fun r3=>((jM n a0).bind fun r4=>((kH n r4.1 a1).bind fun r5=>((fJ n r5.1 r3.1).bind fun r6=>(if (!r6.1)=true then some (false,()) else ((jM n a0).bind fun r7=>((mG n r4.1 r7.1).bind fun r8=>(if (!r8.1)=true then some (false,()) else ((mO n r4.1 (1:Int)).bind fun r9=>(if decide (r9.1<(0:Int))=true then some (false,()) else ((fJ n r5.1 r3.1).bind fun Rl=>(if (!Rl.1)=true then some (false,()) else ((jf n r5.1 (1:Int)).bind fun Lj=>((gD n Lj.2.1 (1:Int)).bind fun NK=>(if decide (NK.1<(0:Int))=true then some (false,()) else (if (!decide (NK.1=Lj.1))=true then some (false,()) else ((jM n a0).bind fun RJ=>((kH n RJ.1 a1).bind fun r14=>((fJ n r14.1 r3.1).bind fun Xa=>(if (!Xa.1)=true then some (false,()) else ((gD n Lj.2.1 (1:Int)).bind fun r16=>(if decide (r16.1<(0:Int))=true then some (false,()) else (if (!decide (r16.1=Lj.1))=true then some (false,()) else some (true,())))))))))))))))))))))))))))
def bW:List dh:=[.val UG [], .val (.int .i64) []]
def rM:List jF:=[.val .bool [] []]
def kZ:Entry:=⟨4,bW,rM,fun n (c:Cont (kin bW))=>lq n c.1 c.2.1⟩
def sj:Hint:=⟨0,[36,47],[],[],[(5,some 15,yV),(7,some 19,mh),(14,some 21,afd),(7,some 23,mh),(15,some 26,Wh),(9,some 29,iG),(7,some 33,mh),(10,some 34,uu),(11,some 38,qP),(9,some 44,iG),(12,some 49,nL),(13,some 52,je),(7,some 59,mh),(15,some 61,Wh),(9,some 64,iG),(13,some 68,je)],[],[],[],[]⟩
theorem A8:∀n (c:Cont (kin bW)),fU T sj Tryz.f4 bW rM n c=kZ.F n c:=by intro n c; kernel_rfl
theorem Bd [Fr] (n:Nat):ak Tryz.prog n kZ:=aj mixed aI Tryz.func4 (by kernel_rfl) (hi:=sj) (aa (LU n) (aa (uY n) (aa (ano n) (aa (uY n) (aa (ad4 n) (aa (qC n) (aa (uY n) (aa (Ew n) (aa (BN n) (aa (qC n) (aa (CK n) (aa (uX n) (aa (uY n) (aa (ad4 n) (aa (qC n) (aa (uX n) aA)))))))))))))))) A8
end Go.Proofs.YtdknpknohipffaaGreat.RG

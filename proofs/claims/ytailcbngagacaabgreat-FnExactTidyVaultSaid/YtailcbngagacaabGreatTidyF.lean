/- What the functions of this law compute, as plain functions, and that the reading comes to them. No condition. -/
import Derived.Test.YtailcbngagacaabGreatProg
import Derived.Test.YtailcbngagacaabGreatOwF
import Derived.Test.YtailcbngagacaabGreatCutLib
import Derived.Test.YtailcbngagacaabGreatPartLib
import Derived.Test.YtailcbngagacaabGreatPurgeLib
import Derived.Test.YtailcbngagacaabGreatTakeLib
import Derived.KernelRfl
set_option linter.unusedSectionVars false
set_option linter.unusedVariables false
set_option linter.unusedSimpArgs false
namespace Go.Proofs.YtailcbngagacaabGreat.yj
open Go Go.Proofs.YtailcbngagacaabGreat Go.Proofs.YtailcbngagacaabGreat.Ow
abbrev YQ:K:=(.st (.pair .str (.pair (.int .u64) .unit)))
abbrev Zt0:Type:=(List Int)×Int×Unit
abbrev Ud:K:=(.st (.pair (.sl 5 (.int .u8)) (.pair .bool .unit)))
abbrev Zt1:Type:=(List Int)×Bool×Unit
abbrev YR:K:=(.st (.pair (.sl 5 (.int .u8)) (.pair (.int .i64) .unit)))
abbrev Uh:K:=(.st (.pair (.sl 5 (.int .u8)) (.pair (.int .i64) (.pair .bool .unit))))
abbrev Zt3:Type:=(List Int)×Int×Bool×Unit
abbrev Zk4:K:=(.st (.pair .str (.pair (.int .i64) (.pair (.int .i64) (.pair (.id 103) .unit)))))
abbrev Zt4:Type:=(List Int)×Int×Int×Nat×Unit
abbrev YS:K:=(.st (.pair (.int .i64) (.pair (.int .i64) (.pair .bool (.pair (.int .u8) .unit)))))
abbrev K7:K:=(.st (.pair (.int .i64) (.pair (.int .i64) (.pair (.int .i64) (.pair (.id 5) .unit)))))
abbrev M9:Type:=Int×Int×Int×Nat×Unit
abbrev zw:K:=(.st (.pair (.int .i64) (.pair (.int .i64) (.pair (.int .i64) (.pair (.sl 5 (.int .u8)) .unit)))))
abbrev rz:Type:=Int×Int×Int×(List Int)×Unit
abbrev Zk8:K:=(.st (.pair (.int .i64) (.pair (.sl 100 Zk4) .unit)))
abbrev Zt8:Type:=Int×(List (Zt4))×Unit
abbrev YT:K:=(.st (.pair .str (.pair (.int .i64) (.pair (.int .i64) (.pair (.sl 199 K7) .unit)))))
abbrev Zt9:Type:=(List Int)×Int×Int×(List (M9))×Unit
abbrev Hw:K:=(.st (.pair .str (.pair (.int .i64) (.pair (.int .i64) (.pair (.sl 103 K7) .unit)))))
abbrev gH:K:=(.st (.pair (.int .i64) (.pair .str (.pair .str (.pair (.sl 2 (.int .i64)) (.pair (.int .i64) (.pair (.int .i64) (.pair (.int .i64) (.pair (.sl 5 (.int .u8)) .unit)))))))))
abbrev fu:Type:=Int×(List Int)×(List Int)×(List Int)×rz
abbrev I6:K:=(.st (.pair .str (.pair (.int .i64) (.pair (.int .i64) (.pair (.sl 199 zw) .unit)))))
abbrev dP:Type:=(List Int)×Int×Int×(List (rz))×Unit
abbrev nG:K:=(.st (.pair .str (.pair (.int .i64) (.pair (.int .i64) (.pair (.sl 103 zw) .unit)))))
abbrev af5:K:=(.st (.pair (.int .i64) (.pair (.sl 2 (.int .i64)) (.pair Zk8 .unit))))
abbrev QE:K:=(.st (.pair (.int .i64) (.pair (.sl 134 YT) .unit)))
abbrev OH:K:=(.st (.pair (.int .i64) (.pair (.sl 100 Hw) .unit)))
abbrev acy:K:=(.st (.pair .bool (.pair (.sl 5 (.int .u8)) (.pair (.sl 5 (.int .u8)) (.pair Zk8 .unit)))))
abbrev QF:K:=(.st (.pair (.int .i64) (.pair (.sl 134 I6) .unit)))
abbrev fI:Type:=Int×(List (dP))×Unit
abbrev qm:K:=(.st (.pair (.int .i64) (.pair (.sl 100 nG) .unit)))
abbrev I7:K:=(.st (.pair (.int .i64) (.pair (.int .i64) (.pair gH .unit))))
abbrev akb:Type:=Int×Int×(fu)×Unit
abbrev K6:K:=(.st (.pair (.int .i64) (.pair (.int .i64) (.pair (.sl 48 gH) .unit))))
abbrev Ue:K:=(.st (.pair (.int .i64) (.pair (.sl 2 (.int .i64)) (.pair OH .unit))))
abbrev af6:K:=(.st (.pair (.int .i64) (.pair (.sl 2 (.int .i64)) (.pair acy .unit))))
abbrev M7:K:=(.st (.pair (.int .i64) (.pair (.sl 2 (.int .i64)) (.pair qm .unit))))
abbrev FT:Type:=Int×(List Int)×(fI)×Unit
abbrev Uf:K:=(.st (.pair .bool (.pair (.sl 5 (.int .u8)) (.pair (.sl 5 (.int .u8)) (.pair QE .unit)))))
abbrev QG:K:=(.st (.pair .bool (.pair (.sl 5 (.int .u8)) (.pair (.sl 5 (.int .u8)) (.pair OH .unit)))))
abbrev QH:K:=(.st (.pair .bool (.pair (.sl 5 (.int .u8)) (.pair (.sl 5 (.int .u8)) (.pair QF .unit)))))
abbrev yR:Type:=Bool×(List Int)×(List Int)×(fI)×Unit
abbrev CZ:K:=(.st (.pair .bool (.pair (.sl 5 (.int .u8)) (.pair (.sl 5 (.int .u8)) (.pair qm .unit)))))
abbrev Ug:K:=(.st (.pair (.int .i64) (.pair (.sl 2 (.int .i64)) (.pair QG .unit))))
abbrev M8:K:=(.st (.pair (.int .i64) (.pair (.sl 2 (.int .i64)) (.pair CZ .unit))))
abbrev I8:Type:=Int×(List Int)×(yR)×Unit
abbrev vD:fu:=((0:Int),([]:List Int),([]:List Int),([]:List Int),(0:Int),(0:Int),(0:Int),([]:List Int),())
abbrev aga:I8:=((0:Int),([]:List Int),(false,([]:List Int),([]:List Int),((0:Int),([]:List dP),()),()),())
abbrev af9:yR:=(false,([]:List Int),([]:List Int),((0:Int),([]:List dP),()),())
abbrev acA:FT:=((0:Int),([]:List Int),((0:Int),([]:List dP),()),())
abbrev dD:dP:=(([]:List Int),(0:Int),(0:Int),([]:List rz),())
abbrev ku:rz:=((0:Int),(0:Int),(0:Int),([]:List Int),())
abbrev Na:M9:=((0:Int),(0:Int),(0:Int),(0:Nat),())
abbrev OI:fI:=((0:Int),([]:List dP),())
def tyL:VH:={ ty:=[(2,(.int .i64)),(3,(.int .i64)),(4, .bool),(5,(.int .u8)),(6,(.int .u8)),(7,YS),(8,YS),(9, .str),(10, .str),(11, .str),(12,(.int .u64)),(13,YQ),(14,YQ),(21,(.int .i32)),(22,(.sl 5 (.int .u8))),(23,(.sl 134 I6)),(24,QF),(25,QF),(26,QH),(27,QH),(29,(.sl 2 (.int .i64))),(30,(.sl 100 nG)),(31,qm),(32,qm),(33,CZ),(34,CZ),(35,M8),(36,M8),(47,gH),(48,gH),(52,M7),(53,M7),(55,(.sl 48 gH)),(56,K6),(57,K6),(65,gH),(98,(.sl 103 zw)),(99,nG),(100,nG),(102,zw),(103,zw),(109,(.sl 22 (.sl 5 (.int .u8)))),(132,(.sl 199 zw)),(133,I6),(134,I6),(141,I7),(142,I7),(145,YR),(146,YR),(150,(.sl 9 .str)),(167,Ud),(168,Ud),(199,zw),(203,Uh),(204,Uh),(226,(.int .u32)),(227,(.int .u8)),(228,(.int .u8)),(231,(.int .i32)),(232,(.int .i32))],bytes:=[(2,8),(3,8),(4,1),(5,1),(6,1),(7,24),(8,24),(9,16),(10,16),(11,16),(12,8),(13,24),(14,24),(21,4),(22,24),(23,24),(24,32),(25,32),(26,88),(27,88),(29,24),(30,24),(31,32),(32,32),(33,88),(34,88),(35,120),(36,120),(47,112),(48,112),(52,64),(53,64),(55,24),(56,40),(57,40),(65,112),(98,24),(99,56),(100,56),(102,48),(103,48),(109,24),(132,24),(133,56),(134,56),(141,128),(142,128),(145,32),(146,32),(150,24),(167,32),(168,32),(199,48),(203,40),(204,40),(226,4),(227,1),(228,1),(231,4),(232,4)],ptr:=[15,16,17,74,87,118,136,161,166,187,206,230] }
def T:jg:=tyL.tab
theorem aK:Cu Tryz.prog tyL=true:=by kernel_rfl
theorem mixed:Tryz.prog.follows .mixedOrders=true:=by kernel_rfl
def lC (n:Nat) (a0:List Int) (a1:Int):Option (Int×Unit):=(if decide ((IntKind.i64.wrap (a1 - (a0.length:Int)))<(0:Int))=true then some ((-1:Int),()) else some (IntKind.i64.wrap (a1 - (a0.length:Int)),()))
def qW:List dH:=[.val (.sl 5 (.int .u8)) [], .val (.int .i64) []]
def Bj:List nN:=[.val (.int .i64) [] []]
def oL:Entry:=⟨40,qW,Bj,fun n (c:Cont (kin qW))=>lC n c.1 c.2.1⟩
def BD:Hint:=⟨0,[],[],[],[],[],[],[],[]⟩
theorem IE:∀n (c:Cont (kin qW)),kg T BD Tryz.f40 qW Bj n c=oL.F n c:=by intro n c; kernel_rfl
theorem xh [Fr] (n:Nat):ak Tryz.prog n oL:=aj mixed aK Tryz.func40 (by kernel_rfl) (hi:=BD) aD IE
def lD (n:Nat) (a0:rz) (a1:Int):Option (Int×Unit):=((lC n a0.2.2.2.1 a1).bind fun r1=>(if decide (r1.1<(0:Int))=true then some ((-1:Int),()) else some (r1.1,())))
def oI:List dH:=[.val zw [], .val (.int .i64) []]
def yF:List nN:=[.val (.int .i64) [] []]
def uw:Entry:=⟨188,oI,yF,fun n (c:Cont (kin oI))=>lD n c.1 c.2.1⟩
def zn:Hint:=⟨0,[],[],[],[(40,some 8,oL)],[],[],[],[]⟩
theorem FB:∀n (c:Cont (kin oI)),kg T zn Tryz.f188 oI yF n c=uw.F n c:=by intro n c; kernel_rfl
theorem FL [Fr] (n:Nat):ak Tryz.prog n uw:=aj mixed aK Tryz.func188 (by kernel_rfl) (hi:=zn) (aa (xh n) aD) FB
def nW (n:Nat) (a0:List rz) (a1:Int):Option (Int×Unit):=(if decide ((IntKind.i64.wrap (a1 - (a0.length:Int)))<(0:Int))=true then some ((-1:Int),()) else (rounds (fun L1 (v1:(List rz)×Int×Int×Unit)=>(if decide (v1.2.2.1<(v1.1.length:Int))=true then (if aI v1.2.2.1 v1.1.length then ((lD n (v1.1.getD v1.2.2.1.toNat ku) v1.2.1).bind fun r2=>(if decide (r2.1<(0:Int))=true then some ((-1:Int),()) else L1 (v1.1,r2.1,IntKind.i64.wrap (v1.2.2.1+(1:Int)),()))) else none) else some (v1.2.1,()))) n (a0,IntKind.i64.wrap (a1 - (a0.length:Int)),(0:Int),())))
def mY:List dH:=[.val (.sl 199 zw) [], .val (.int .i64) []]
def xM:List nN:=[.val (.int .i64) [] []]
def sj:Entry:=⟨156,mY,xM,fun n (c:Cont (kin mY))=>nW n c.1 c.2.1⟩
def x9:Hint:=⟨0,[],[(0,[0,1,5],[])],[],[(188,some 23,uw)],[],[],[],[]⟩
theorem Ec:∀n (c:Cont (kin mY)),kg T x9 Tryz.f156 mY xM n c=sj.F n c:=by intro n c; kernel_rfl
theorem En [Fr] (n:Nat):ak Tryz.prog n sj:=aj mixed aK Tryz.func156 (by kernel_rfl) (hi:=x9) (aa (FL n) aD) Ec
def sI (n:Nat) (a0:dP) (a1:Int):Option (Int×Unit):=(if decide ((IntKind.i64.wrap (a1 - (a0.1.length:Int)))<(0:Int))=true then some ((-1:Int),()) else ((nW n a0.2.2.2.1 (IntKind.i64.wrap (a1 - (a0.1.length:Int)))).bind fun r1=>(if decide (r1.1<(0:Int))=true then some ((-1:Int),()) else some (r1.1,()))))
def vk:List dH:=[.val I6 [], .val (.int .i64) []]
def Dp:List nN:=[.val (.int .i64) [] []]
def Aa:Entry:=⟨113,vk,Dp,fun n (c:Cont (kin vk))=>sI n c.1 c.2.1⟩
def Ef:Hint:=⟨0,[],[],[],[(156,some 15,sj)],[],[],[],[]⟩
theorem MV:∀n (c:Cont (kin vk)),kg T Ef Tryz.f113 vk Dp n c=Aa.F n c:=by intro n c; kernel_rfl
theorem MZ [Fr] (n:Nat):ak Tryz.prog n Aa:=aj mixed aK Tryz.func113 (by kernel_rfl) (hi:=Ef) (aa (En n) aD) MV
def uU (n:Nat) (a0:List dP) (a1:Int):Option (Int×Unit):=(if decide ((IntKind.i64.wrap (a1 - (a0.length:Int)))<(0:Int))=true then some ((-1:Int),()) else (rounds (fun L1 (v1:(List dP)×Int×Int×Unit)=>(if decide (v1.2.2.1<(v1.1.length:Int))=true then (if aI v1.2.2.1 v1.1.length then ((sI n (v1.1.getD v1.2.2.1.toNat dD) v1.2.1).bind fun r2=>(if decide (r2.1<(0:Int))=true then some ((-1:Int),()) else L1 (v1.1,r2.1,IntKind.i64.wrap (v1.2.2.1+(1:Int)),()))) else none) else some (v1.2.1,()))) n (a0,IntKind.i64.wrap (a1 - (a0.length:Int)),(0:Int),())))
def tQ:List dH:=[.val (.sl 134 I6) [], .val (.int .i64) []]
def Cm:List nN:=[.val (.int .i64) [] []]
def yM:Entry:=⟨84,tQ,Cm,fun n (c:Cont (kin tQ))=>uU n c.1 c.2.1⟩
def Df:Hint:=⟨0,[],[(0,[0,1,5],[])],[],[(113,some 23,Aa)],[],[],[],[]⟩
theorem KV:∀n (c:Cont (kin tQ)),kg T Df Tryz.f84 tQ Cm n c=yM.F n c:=by intro n c; kernel_rfl
theorem K3 [Fr] (n:Nat):ak Tryz.prog n yM:=aj mixed aK Tryz.func84 (by kernel_rfl) (hi:=Df) (aa (MZ n) aD) KV
def w9 (n:Nat) (a0:fI) (a1:Int):Option (Int×Unit):=((uU n a0.2.1 a1).bind fun r1=>(if decide (r1.1<(0:Int))=true then some ((-1:Int),()) else some (r1.1,())))
def qX:List dH:=[.val QF [], .val (.int .i64) []]
def Bl:List nN:=[.val (.int .i64) [] []]
def wW:Entry:=⟨41,qX,Bl,fun n (c:Cont (kin qX))=>w9 n c.1 c.2.1⟩
def BF:Hint:=⟨0,[],[],[],[(84,some 8,yM)],[],[],[],[]⟩
theorem IG:∀n (c:Cont (kin qX)),kg T BF Tryz.f41 qX Bl n c=wW.F n c:=by intro n c; kernel_rfl
theorem IQ [Fr] (n:Nat):ak Tryz.prog n wW:=aj mixed aK Tryz.func41 (by kernel_rfl) (hi:=BF) (aa (K3 n) aD) IG
def sJ (n:Nat) (a0:yR) (a1:Int):Option (Int×Unit):=((lC n a0.2.1 a1).bind fun r1=>(if decide (r1.1<(0:Int))=true then some ((-1:Int),()) else ((lC n a0.2.2.1 r1.1).bind fun r2=>(if decide (r2.1<(0:Int))=true then some ((-1:Int),()) else ((w9 n a0.2.2.2.1 r2.1).bind fun r3=>(if decide (r3.1<(0:Int))=true then some ((-1:Int),()) else some (r3.1,())))))))
def qY:List dH:=[.val QH [], .val (.int .i64) []]
def Bn:List nN:=[.val (.int .i64) [] []]
def wX:Entry:=⟨9,qY,Bn,fun n (c:Cont (kin qY))=>sJ n c.1 c.2.1⟩
def BG:Hint:=⟨0,[],[],[],[(40,some 8,oL),(40,some 14,oL),(41,some 20,wW)],[],[],[],[]⟩
theorem II:∀n (c:Cont (kin qY)),kg T BG Tryz.f9 qY Bn n c=wX.F n c:=by intro n c; kernel_rfl
theorem IU [Fr] (n:Nat):ak Tryz.prog n wX:=aj mixed aK Tryz.func9 (by kernel_rfl) (hi:=BG) (aa (xh n) (aa (xh n) (aa (IQ n) aD))) II
def lF (n:Nat) (a0:List Int):Option ((List Int)×Unit):=(if (a0.length:Int)=(a0.length:Int)∧0≤(a0.length:Int)∧(a0.length:Int) * 1≤140737488355328 then (rounds (fun L1 (v1:(List Int)×Int×(List Int)×Unit)=>(if decide (v1.2.1<(v1.1.length:Int))=true then (if aI v1.2.1 v1.1.length then (if aI v1.2.1 v1.2.2.1.length then L1 (v1.1,IntKind.i64.wrap (v1.2.1+(1:Int)),v1.2.2.1.set v1.2.1.toNat (v1.1.getD v1.2.1.toNat (0:Int)),()) else none) else none) else some (v1.2.2.1,()))) n (a0,(0:Int),List.replicate (a0.length:Int).toNat (0:Int),())) else none)
def qZ:List dH:=[.val (.sl 5 (.int .u8)) []]
def Bo:List nN:=[.own (.sl 5 (.int .u8)) [5] [] []]
def oM:Entry:=⟨46,qZ,Bo,fun n (c:Cont (kin qZ))=>lF n c.1⟩
def BH:Hint:=⟨0,[],[(0,[0,3,4],[226])],[],[],[],[],[],[]⟩
theorem IJ:∀n (c:Cont (kin qZ)),kg T BH Tryz.f46 qZ Bo n c=oM.F n c:=by intro n c; kernel_rfl
theorem xk [Fr] (n:Nat):ak Tryz.prog n oM:=aj mixed aK Tryz.func46 (by kernel_rfl) (hi:=BH) aD IJ
def lG (n:Nat) (a0:rz):Option (rz×Unit):=((lF n a0.2.2.2.1).bind fun r1=>some ((a0.1,a0.2.1,a0.2.2.1,r1.1,()),()))
def oJ:List dH:=[.val zw []]
def yG:List nN:=[.own zw [5] [] []]
def uy:Entry:=⟨191,oJ,yG,fun n (c:Cont (kin oJ))=>lG n c.1⟩
def zo:Hint:=⟨0,[17],[],[],[(46,some 15,oM)],[],[],[],[]⟩
theorem FC:∀n (c:Cont (kin oJ)),kg T zo Tryz.f191 oJ yG n c=uy.F n c:=by intro n c; kernel_rfl
theorem FM [Fr] (n:Nat):ak Tryz.prog n uy:=aj mixed aK Tryz.func191 (by kernel_rfl) (hi:=zo) (aa (xk n) aD) FC
def nX (n:Nat) (a0:List rz):Option ((List rz)×Unit):=(if (a0.length:Int)=(a0.length:Int)∧0≤(a0.length:Int)∧(a0.length:Int) * 48≤140737488355328 then (rounds (fun L1 (v1:(List rz)×Int×(List rz)×Unit)=>(if decide (v1.2.1<(v1.1.length:Int))=true then (if aI v1.2.1 v1.1.length then ((lG n (v1.1.getD v1.2.1.toNat ku)).bind fun r2=>(if aI v1.2.1 v1.2.2.1.length then L1 (v1.1,IntKind.i64.wrap (v1.2.1+(1:Int)),v1.2.2.1.set v1.2.1.toNat r2.1,()) else none)) else none) else some (v1.2.2.1,()))) n (a0,(0:Int),List.replicate (a0.length:Int).toNat ku,())) else none)
def mZ:List dH:=[.val (.sl 199 zw) []]
def xN:List nN:=[.own (.sl 103 zw) [5,103] [] []]
def su:Entry:=⟨159,mZ,xN,fun n (c:Cont (kin mZ))=>nX n c.1⟩
def yc:Hint:=⟨0,[],[(0,[0,3,4],[226])],[],[(191,some 20,uy)],[],[],[],[]⟩
theorem Ed:∀n (c:Cont (kin mZ)),kg T yc Tryz.f159 mZ xN n c=su.F n c:=by intro n c; kernel_rfl
theorem Eo [Fr] (n:Nat):ak Tryz.prog n su:=aj mixed aK Tryz.func159 (by kernel_rfl) (hi:=yc) (aa (FM n) aD) Ed
def sK (n:Nat) (a0:dP):Option (dP×Unit):=((nX n a0.2.2.2.1).bind fun r1=>some ((a0.1,a0.2.1,a0.2.2.1,r1.1,()),()))
def vo:List dH:=[.val I6 []]
def Dq:List nN:=[.own nG [5,103] [] []]
def Ab:Entry:=⟨118,vo,Dq,fun n (c:Cont (kin vo))=>sK n c.1⟩
def Eg:Hint:=⟨0,[17],[],[],[(159,some 15,su)],[],[],[],[]⟩
theorem MW:∀n (c:Cont (kin vo)),kg T Eg Tryz.f118 vo Dq n c=Ab.F n c:=by intro n c; kernel_rfl
theorem M0 [Fr] (n:Nat):ak Tryz.prog n Ab:=aj mixed aK Tryz.func118 (by kernel_rfl) (hi:=Eg) (aa (Eo n) aD) MW
def uV (n:Nat) (a0:List dP):Option ((List dP)×Unit):=(if (a0.length:Int)=(a0.length:Int)∧0≤(a0.length:Int)∧(a0.length:Int) * 56≤140737488355328 then (rounds (fun L1 (v1:(List dP)×fI)=>(if decide (v1.2.1<(v1.1.length:Int))=true then (if aI v1.2.1 v1.1.length then ((sK n (v1.1.getD v1.2.1.toNat dD)).bind fun r2=>(if aI v1.2.1 v1.2.2.1.length then L1 (v1.1,IntKind.i64.wrap (v1.2.1+(1:Int)),v1.2.2.1.set v1.2.1.toNat r2.1,()) else none)) else none) else some (v1.2.2.1,()))) n (a0,(0:Int),List.replicate (a0.length:Int).toNat dD,())) else none)
def tT:List dH:=[.val (.sl 134 I6) []]
def Cn:List nN:=[.own (.sl 100 nG) [5,100,103] [] []]
def yN:Entry:=⟨86,tT,Cn,fun n (c:Cont (kin tT))=>uV n c.1⟩
def Dh:Hint:=⟨0,[],[(0,[0,3,4],[226])],[],[(118,some 20,Ab)],[],[],[],[]⟩
theorem KW:∀n (c:Cont (kin tT)),kg T Dh Tryz.f86 tT Cn n c=yN.F n c:=by intro n c; kernel_rfl
theorem K4 [Fr] (n:Nat):ak Tryz.prog n yN:=aj mixed aK Tryz.func86 (by kernel_rfl) (hi:=Dh) (aa (M0 n) aD) KW
def sM (n:Nat) (a0:fI):Option (fI×Unit):=((uV n a0.2.1).bind fun r1=>some ((a0.1,r1.1,()),()))
def q8:List dH:=[.val QF []]
def Bp:List nN:=[.own qm [5,100,103] [] []]
def wY:Entry:=⟨47,q8,Bp,fun n (c:Cont (kin q8))=>sM n c.1⟩
def BI:Hint:=⟨0,[11],[],[],[(86,some 9,yN)],[],[],[],[]⟩
theorem IK:∀n (c:Cont (kin q8)),kg T BI Tryz.f47 q8 Bp n c=wY.F n c:=by intro n c; kernel_rfl
theorem IV [Fr] (n:Nat):ak Tryz.prog n wY:=aj mixed aK Tryz.func47 (by kernel_rfl) (hi:=BI) (aa (K4 n) aD) IK
def jq (n:Nat) (a0:yR):Option (yR×Unit):=((lF n a0.2.1).bind fun r1=>((lF n a0.2.2.1).bind fun r2=>((sM n a0.2.2.2.1).bind fun r3=>some ((a0.1,r1.1,r2.1,r3.1,()),()))))
def q9:List dH:=[.val QH []]
def Bq:List nN:=[.own CZ [5,100,103] [] []]
def kQ:Entry:=⟨11,q9,Bq,fun n (c:Cont (kin q9))=>jq n c.1⟩
def BJ:Hint:=⟨0,[19],[],[],[(46,some 9,oM),(46,some 13,oM),(47,some 17,wY)],[],[],[],[]⟩
theorem IL:∀n (c:Cont (kin q9)),kg T BJ Tryz.f11 q9 Bq n c=kQ.F n c:=by intro n c; kernel_rfl
theorem sZ [Fr] (n:Nat):ak Tryz.prog n kQ:=aj mixed aK Tryz.func11 (by kernel_rfl) (hi:=BJ) (aa (xk n) (aa (xk n) (aa (IV n) aD))) IL
def bP (n:Nat) (a0:Int) (a1:Int) (a2:Int):Option (Bool×Unit):=(if decide (a0≥a1)=true then some (decide (a0≤a2),()) else some (false,()))
def SB:Entry:=⟨44,[.val (.int .i64) [], .val (.int .i64) [], .val (.int .i64) []],[.val .bool [] []],fun n c=>bP n c.1 c.2.1 c.2.2.1⟩
def H_0:Hint:=⟨0,[],[],[],[],[],[],[],[]⟩
theorem D_0:gQ T H_0 Tryz.f44 SB:=by intro n c; kernel_rfl
theorem VG [Fr] (n:Nat):ak Tryz.prog n SB:=aj mixed aK Tryz.func44 (by kernel_rfl) (hi:=H_0) aD D_0
def j5 (n:Nat) (a0:List Int):Option (Bool×Unit):=(rounds (fun L1 (v1:Zt0)=>(if decide (v1.2.1<(v1.1.length:Int))=true then (if aI v1.2.1 v1.1.length then (if decide ((v1.1.getD v1.2.1.toNat 0)<(97:Int))=true then some (false,()) else (if aI v1.2.1 v1.1.length then (if decide ((v1.1.getD v1.2.1.toNat 0)>(122:Int))=true then some (false,()) else L1 (v1.1,IntKind.i64.wrap (v1.2.1+(1:Int)),())) else none)) else none) else ((bP n (v1.1.length:Int) (1:Int) (8:Int)).bind fun r2=>some (r2.1,())))) n (a0,(0:Int),()))
def E_1:Entry:=⟨180,[.val .str []],[.val .bool [] []],fun n c=>j5 n c.1⟩
def H_1:Hint:=⟨0,[],[(0,[0,3],[])],[],[(44,some 22,SB)],[],[],[],[]⟩
theorem D_1:gQ T H_1 Tryz.f180 E_1:=by intro n c; kernel_rfl
theorem K_1 [Fr] (n:Nat):ak Tryz.prog n E_1:=aj mixed aK Tryz.func180 (by kernel_rfl) (hi:=H_1) (aa (VG n) aD) D_1
def gK (n:Nat) (a0:rz):Option (Int×Unit):=((bP n a0.1 (1:Int) (999:Int)).bind fun r1=>(if (!r1.1)=true then some ((3:Int),()) else ((bP n a0.2.1 (0:Int) (15:Int)).bind fun r2=>(if (!r2.1)=true then some ((3:Int),()) else ((bP n a0.2.2.1 (0:Int) (9999:Int)).bind fun r3=>(if (!r3.1)=true then some ((3:Int),()) else (if decide ((a0.2.2.2.1.length:Int)>(400:Int))=true then some ((2:Int),()) else some ((0:Int),()))))))))
def E_2:Entry:=⟨189,[.ro zw],[.val (.int .i64) [] []],fun n c=>gK n c.1⟩
def H_2:Hint:=⟨0,[],[],[],[(44,some 7,SB),(44,some 14,SB),(44,some 22,SB)],[],[],[],[]⟩
theorem D_2:gQ T H_2 Tryz.f189 E_2:=by intro n c; kernel_rfl
theorem K_2 [Fr] (n:Nat):ak Tryz.prog n E_2:=aj mixed aK Tryz.func189 (by kernel_rfl) (hi:=H_2) (aa (VG n) (aa (VG n) (aa (VG n) aD))) D_2
def mF (n:Nat) (a0:dP):Option (Int×Unit):=((j5 n a0.1).bind fun r1=>(if (!r1.1)=true then some ((5:Int),()) else ((bP n a0.2.1 (1:Int) (999:Int)).bind fun r2=>(if (!r2.1)=true then some ((3:Int),()) else ((bP n a0.2.2.1 (1:Int) (1000:Int)).bind fun r3=>(if (!r3.1)=true then some ((3:Int),()) else (if decide ((a0.2.2.2.1.length:Int)>(6:Int))=true then some ((2:Int),()) else (rounds (fun L4 (v4:dP×Int×Unit)=>(if decide (v4.2.1<(v4.1.2.2.2.1.length:Int))=true then (if aI v4.2.1 v4.1.2.2.2.1.length then ((gK n (v4.1.2.2.2.1.getD v4.2.1.toNat ku)).bind fun r5=>(if (!decide (r5.1=(0:Int)))=true then some (r5.1,()) else (if decide (v4.2.1>(0:Int))=true then (if aI v4.2.1 v4.1.2.2.2.1.length then (if aI (IntKind.i64.wrap (v4.2.1 - (1:Int))) v4.1.2.2.2.1.length then (if decide (((v4.1.2.2.2.1.getD v4.2.1.toNat ku).1)≤((v4.1.2.2.2.1.getD (IntKind.i64.wrap (v4.2.1 - (1:Int))).toNat ku).1))=true then some ((1:Int),()) else (if aI v4.2.1 v4.1.2.2.2.1.length then (if decide (((v4.1.2.2.2.1.getD v4.2.1.toNat ku).1)≥v4.1.2.2.1)=true then some ((1:Int),()) else L4 (v4.1,IntKind.i64.wrap (v4.2.1+(1:Int)),())) else none)) else none) else none) else (if aI v4.2.1 v4.1.2.2.2.1.length then (if decide (((v4.1.2.2.2.1.getD v4.2.1.toNat ku).1)≥v4.1.2.2.1)=true then some ((1:Int),()) else L4 (v4.1,IntKind.i64.wrap (v4.2.1+(1:Int)),())) else none)))) else none) else some ((0:Int),()))) n (a0,(0:Int),())))))))))
def E_3:Entry:=⟨157,[.ro nG],[.val (.int .i64) [] []],fun n c=>mF n c.1⟩
def H_3:Hint:=⟨0,[],[(0,[0,3],[])],[],[(180,some 9,E_1),(44,some 15,SB),(44,some 22,SB),(189,some 46,E_2)],[],[],[],[]⟩
theorem D_3:gQ T H_3 Tryz.f157 E_3:=by intro n c; kernel_rfl
theorem K_3 [Fr] (n:Nat):ak Tryz.prog n E_3:=aj mixed aK Tryz.func157 (by kernel_rfl) (hi:=H_3) (aa (K_1 n) (aa (VG n) (aa (VG n) (aa (K_2 n) aD)))) D_3
def jv (n:Nat) (a0:fI):Option (Int×Unit):=((bP n a0.1 (1:Int) (1000:Int)).bind fun r1=>(if (!r1.1)=true then some ((3:Int),()) else (if decide ((a0.2.1.length:Int)>(3:Int))=true then some ((2:Int),()) else (rounds (fun L2 (v2:fI×Int×Unit)=>(if decide (v2.2.1<(v2.1.2.1.length:Int))=true then (if aI v2.2.1 v2.1.2.1.length then ((mF n (v2.1.2.1.getD v2.2.1.toNat dD)).bind fun r3=>(if (!decide (r3.1=(0:Int)))=true then some (r3.1,()) else (if aI v2.2.1 v2.1.2.1.length then (if decide ((((v2.1.2.1.getD v2.2.1.toNat dD).2).1)≥v2.1.1)=true then some ((9:Int),()) else (rounds (fun L4 (v4:fI×Int×Int×Unit)=>(if decide (v4.2.2.1<v4.2.1)=true then (if aI v4.2.2.1 v4.1.2.1.length then (if aI v4.2.1 v4.1.2.1.length then (if decide (((v4.1.2.1.getD v4.2.2.1.toNat dD).1)=((v4.1.2.1.getD v4.2.1.toNat dD).1))=true then some ((6:Int),()) else (if aI v4.2.2.1 v4.1.2.1.length then (if aI v4.2.1 v4.1.2.1.length then (if decide ((((v4.1.2.1.getD v4.2.2.1.toNat dD).2).1)=(((v4.1.2.1.getD v4.2.1.toNat dD).2).1))=true then some ((6:Int),()) else L4 (v4.1,v4.2.1,IntKind.i64.wrap (v4.2.2.1+(1:Int)),())) else none) else none)) else none) else none) else L2 (v4.1,IntKind.i64.wrap (v4.2.1+(1:Int)),()))) n (v2.1,v2.2.1,(0:Int),()))) else none))) else none) else some ((0:Int),()))) n (a0,(0:Int),())))))
def E_4:Entry:=⟨114,[.ro qm],[.val (.int .i64) [] []],fun n c=>jv n c.1⟩
def H_4:Hint:=⟨0,[],[(0,[0,3],[]),(2,[0,3,5],[])],[],[(44,some 10,SB),(157,some 33,E_3)],[],[],[],[]⟩
theorem D_4:gQ T H_4 Tryz.f114 E_4:=by intro n c; kernel_rfl
theorem K_4 [Fr] (n:Nat):ak Tryz.prog n E_4:=aj mixed aK Tryz.func114 (by kernel_rfl) (hi:=H_4) (aa (VG n) (aa (K_3 n) aD)) D_4
def dh (n:Nat) (a0:Zt3):Option (Int×Zt3×Unit):=(if decide (a0.2.1≥(a0.1.length:Int))=true then some ((0:Int),(a0.1,a0.2.1,true,a0.2.2.2),()) else (if aI (IntKind.i64.wrap ((IntKind.i64.wrap (a0.2.1+(1:Int))) - (1:Int))) a0.1.length then some (IntKind.i64.wrap (a0.1.getD (IntKind.i64.wrap ((IntKind.i64.wrap (a0.2.1+(1:Int))) - (1:Int))).toNat (0:Int)),(a0.1,IntKind.i64.wrap (a0.2.1+(1:Int)),a0.2.2),()) else none))
def VV:Entry:=⟨193,[.rw Uh [] [4294967295] []],[.val (.int .i64) [] []],fun n c=>dh n c.1⟩
def H_5:Hint:=⟨0,[],[],[],[],[],[],[],[]⟩
theorem D_5:gQ T H_5 Tryz.f193 VV:=by intro n c; kernel_rfl
theorem Zh [Fr] (n:Nat):ak Tryz.prog n VV:=aj mixed aK Tryz.func193 (by kernel_rfl) (hi:=H_5) aD D_5
def gZ (n:Nat) (a0:Zt3) (a1:Int):Option ((List Int)×Zt3×Unit):=(rounds (fun L1 (v1:Int×Zt3×(List Int)×Unit)=>(if decide (v1.1>(0:Int))=true then (if (!v1.2.1.2.2.1)=true then ((dh n v1.2.1).bind fun r2=>(if (v1.2.2.1.length+[IntKind.u8.wrap r2.1].length) * 1≤140737488355328 then L1 (IntKind.i64.wrap (v1.1 - (1:Int)),r2.2.1,v1.2.2.1++[IntKind.u8.wrap r2.1],()) else none)) else some (v1.2.2.1,v1.2.1,())) else some (v1.2.2.1,v1.2.1,()))) n (a1,a0,([]:List Int),()))
def E_6:Entry:=⟨194,[.rw Uh [] [4294967295] [], .val (.int .i64) []],[.own (.sl 5 (.int .u8)) [5] [] []],fun n c=>gZ n c.1 c.2.1⟩
def H_6:Hint:=⟨0,[],[(0,[0,1,5],[0,194])],[],[(193,some 20,VV)],[],[],[],[]⟩
theorem D_6:gQ T H_6 Tryz.f194 E_6:=by intro n c; kernel_rfl
theorem K_6 [Fr] (n:Nat):ak Tryz.prog n E_6:=aj mixed aK Tryz.func194 (by kernel_rfl) (hi:=H_6) (aa (Zh n) aD) D_6
def fT (n:Nat) (a0:Zt3):Option (Int×Zt3×Unit):=((dh n a0).bind fun r1=>((dh n r1.2.1).bind fun r2=>some (IntKind.i64.wrap ((IntKind.i64.wrap (r1.1 * (256:Int)))+r2.1),r2.2.1,())))
def E_7:Entry:=⟨195,[.rw Uh [] [4294967295] []],[.val (.int .i64) [] []],fun n c=>fT n c.1⟩
def H_7:Hint:=⟨0,[],[],[],[(193,some 5,VV),(193,some 9,VV)],[],[],[],[]⟩
theorem D_7:gQ T H_7 Tryz.f195 E_7:=by intro n c; kernel_rfl
theorem K_7 [Fr] (n:Nat):ak Tryz.prog n E_7:=aj mixed aK Tryz.func195 (by kernel_rfl) (hi:=H_7) (aa (Zh n) (aa (Zh n) aD)) D_7
def u7 (n:Nat) (a0:List Int):Option (fu×Unit):=((dh n (a0,(2:Int),false,())).bind fun r1=>((dh n r1.2.1).bind fun r2=>((gZ n r2.2.1 r2.1).bind fun r3=>((dh n r3.2.1).bind fun r4=>((gZ n r4.2.1 r4.1).bind fun r5=>((dh n r5.2.1).bind fun r6=>(rounds (fun L7 (v7:Int×fu×Zt3×fu×Unit)=>(if decide (v7.1>(0:Int))=true then (if (!v7.2.2.1.2.2.1)=true then ((fT n v7.2.2.1).bind fun r8=>(if (v7.2.2.2.1.2.2.2.1.length+[r8.1].length) * 8≤140737488355328 then L7 (IntKind.i64.wrap (v7.1 - (1:Int)),v7.2.1,r8.2.1,(v7.2.2.2.1.1,v7.2.2.2.1.2.1,v7.2.2.2.1.2.2.1,v7.2.2.2.1.2.2.2.1++[r8.1],v7.2.2.2.1.2.2.2.2),()) else none)) else ((dh n v7.2.2.1).bind fun r9=>((dh n r9.2.1).bind fun NV=>((fT n NV.2.1).bind fun Iw=>((fT n Iw.2.1).bind fun Ko=>((gZ n Ko.2.1 Ko.1).bind fun Ol=>some ((v7.2.2.2.1.1,v7.2.2.2.1.2.1,v7.2.2.2.1.2.2.1,v7.2.2.2.1.2.2.2.1,r9.1,NV.1,Iw.1,Ol.1,v7.2.2.2.1.2.2.2.2.2.2.2.2),()))))))) else ((dh n v7.2.2.1).bind fun Yr=>((dh n Yr.2.1).bind fun TF=>((fT n TF.2.1).bind fun r16=>((fT n r16.2.1).bind fun r17=>((gZ n r17.2.1 r17.1).bind fun r18=>some ((v7.2.2.2.1.1,v7.2.2.2.1.2.1,v7.2.2.2.1.2.2.1,v7.2.2.2.1.2.2.2.1,Yr.1,TF.1,r16.1,r18.1,v7.2.2.2.1.2.2.2.2.2.2.2.2),())))))))) n (r6.1,vD,r6.2.1,(r1.1,r3.1,r5.1,([]:List Int),(0:Int),(0:Int),(0:Int),([]:List Int),()),()))))))))
def E_8:Entry:=⟨162,[.val (.sl 5 (.int .u8)) []],[.own gH [2,5] [] []],fun n c=>u7 n c.1⟩
def H_8:Hint:=⟨0,[30,45],[(0,[2,3,4,5],[66,98,130])],[],[(193,some 9,VV),(193,some 11,VV),(194,some 12,E_6),(193,some 15,VV),(194,some 16,E_6),(193,some 19,VV),(195,some 31,E_7),(193,some 35,VV),(193,some 37,VV),(195,some 39,E_7),(195,some 41,E_7),(194,some 43,E_6)],[],[],[],[]⟩
theorem D_8:gQ T H_8 Tryz.f162 E_8:=by intro n c; kernel_rfl
theorem K_8 [Fr] (n:Nat):ak Tryz.prog n E_8:=aj mixed aK Tryz.func162 (by kernel_rfl) (hi:=H_8) (aa (Zh n) (aa (Zh n) (aa (K_6 n) (aa (Zh n) (aa (K_6 n) (aa (Zh n) (aa (K_7 n) (aa (Zh n) (aa (Zh n) (aa (K_7 n) (aa (K_7 n) (aa (K_6 n) aD)))))))))))) D_8
def iC (n:Nat) (a0:Int):Option (Bool×Unit):=(if decide (a0=(5:Int))=true then some (true,()) else some (decide (a0=(6:Int)),()))
def E_9:Entry:=⟨131,[.val (.int .i64) []],[.val .bool [] []],fun n c=>iC n c.1⟩
def H_9:Hint:=⟨0,[],[],[],[],[],[],[],[]⟩
theorem D_9:gQ T H_9 Tryz.f131 E_9:=by intro n c; kernel_rfl
theorem K_9 [Fr] (n:Nat):ak Tryz.prog n E_9:=aj mixed aK Tryz.func131 (by kernel_rfl) (hi:=H_9) aD D_9
def uZ (n:Nat) (a0:fu):Option (Bool×Unit):=((bP n a0.1 (1:Int) (7:Int)).bind fun r1=>(if (!r1.1)=true then some (false,()) else ((iC n a0.1).bind fun r2=>(if (!r2.1)=true then (if (!decide (a0.2.2.1=([]:List Int)))=true then some (false,()) else ((iC n a0.1).bind fun r3=>(if (!r3.1)=true then (if (!decide (a0.1=(4:Int)))=true then (if decide ((a0.2.2.2.1.length:Int)>(0:Int))=true then some (false,()) else (if (!decide (a0.1=(4:Int)))=true then (if (!decide (a0.2.2.2.2.1=(0:Int)))=true then some (false,()) else (if (!decide (a0.1=(3:Int)))=true then (if (!decide (a0.2.2.2.2.2.2.1=(0:Int)))=true then some (false,()) else (if decide ((a0.2.2.2.2.2.2.2.1.length:Int)>(0:Int))=true then some (false,()) else (if decide (a0.1=(3:Int))=true then some (true,()) else (if decide (a0.1=(4:Int))=true then some (true,()) else some (decide (a0.2.2.2.2.2.1=(0:Int)),()))))) else (if decide (a0.1=(3:Int))=true then some (true,()) else (if decide (a0.1=(4:Int))=true then some (true,()) else some (decide (a0.2.2.2.2.2.1=(0:Int)),()))))) else (if (!decide (a0.1=(3:Int)))=true then (if (!decide (a0.2.2.2.2.2.2.1=(0:Int)))=true then some (false,()) else (if decide ((a0.2.2.2.2.2.2.2.1.length:Int)>(0:Int))=true then some (false,()) else (if decide (a0.1=(3:Int))=true then some (true,()) else (if decide (a0.1=(4:Int))=true then some (true,()) else some (decide (a0.2.2.2.2.2.1=(0:Int)),()))))) else (if decide (a0.1=(3:Int))=true then some (true,()) else (if decide (a0.1=(4:Int))=true then some (true,()) else some (decide (a0.2.2.2.2.2.1=(0:Int)),())))))) else (if (!decide (a0.1=(4:Int)))=true then (if (!decide (a0.2.2.2.2.1=(0:Int)))=true then some (false,()) else (if (!decide (a0.1=(3:Int)))=true then (if (!decide (a0.2.2.2.2.2.2.1=(0:Int)))=true then some (false,()) else (if decide ((a0.2.2.2.2.2.2.2.1.length:Int)>(0:Int))=true then some (false,()) else (if decide (a0.1=(3:Int))=true then some (true,()) else (if decide (a0.1=(4:Int))=true then some (true,()) else some (decide (a0.2.2.2.2.2.1=(0:Int)),()))))) else (if decide (a0.1=(3:Int))=true then some (true,()) else (if decide (a0.1=(4:Int))=true then some (true,()) else some (decide (a0.2.2.2.2.2.1=(0:Int)),()))))) else (if (!decide (a0.1=(3:Int)))=true then (if (!decide (a0.2.2.2.2.2.2.1=(0:Int)))=true then some (false,()) else (if decide ((a0.2.2.2.2.2.2.2.1.length:Int)>(0:Int))=true then some (false,()) else (if decide (a0.1=(3:Int))=true then some (true,()) else (if decide (a0.1=(4:Int))=true then some (true,()) else some (decide (a0.2.2.2.2.2.1=(0:Int)),()))))) else (if decide (a0.1=(3:Int))=true then some (true,()) else (if decide (a0.1=(4:Int))=true then some (true,()) else some (decide (a0.2.2.2.2.2.1=(0:Int)),())))))) else (if (!decide (a0.1=(4:Int)))=true then (if (!decide (a0.2.2.2.2.1=(0:Int)))=true then some (false,()) else (if (!decide (a0.1=(3:Int)))=true then (if (!decide (a0.2.2.2.2.2.2.1=(0:Int)))=true then some (false,()) else (if decide ((a0.2.2.2.2.2.2.2.1.length:Int)>(0:Int))=true then some (false,()) else (if decide (a0.1=(3:Int))=true then some (true,()) else (if decide (a0.1=(4:Int))=true then some (true,()) else some (decide (a0.2.2.2.2.2.1=(0:Int)),()))))) else (if decide (a0.1=(3:Int))=true then some (true,()) else (if decide (a0.1=(4:Int))=true then some (true,()) else some (decide (a0.2.2.2.2.2.1=(0:Int)),()))))) else (if (!decide (a0.1=(3:Int)))=true then (if (!decide (a0.2.2.2.2.2.2.1=(0:Int)))=true then some (false,()) else (if decide ((a0.2.2.2.2.2.2.2.1.length:Int)>(0:Int))=true then some (false,()) else (if decide (a0.1=(3:Int))=true then some (true,()) else (if decide (a0.1=(4:Int))=true then some (true,()) else some (decide (a0.2.2.2.2.2.1=(0:Int)),()))))) else (if decide (a0.1=(3:Int))=true then some (true,()) else (if decide (a0.1=(4:Int))=true then some (true,()) else some (decide (a0.2.2.2.2.2.1=(0:Int)),())))))))) else ((iC n a0.1).bind fun r4=>(if (!r4.1)=true then (if (!decide (a0.1=(4:Int)))=true then (if decide ((a0.2.2.2.1.length:Int)>(0:Int))=true then some (false,()) else (if (!decide (a0.1=(4:Int)))=true then (if (!decide (a0.2.2.2.2.1=(0:Int)))=true then some (false,()) else (if (!decide (a0.1=(3:Int)))=true then (if (!decide (a0.2.2.2.2.2.2.1=(0:Int)))=true then some (false,()) else (if decide ((a0.2.2.2.2.2.2.2.1.length:Int)>(0:Int))=true then some (false,()) else (if decide (a0.1=(3:Int))=true then some (true,()) else (if decide (a0.1=(4:Int))=true then some (true,()) else some (decide (a0.2.2.2.2.2.1=(0:Int)),()))))) else (if decide (a0.1=(3:Int))=true then some (true,()) else (if decide (a0.1=(4:Int))=true then some (true,()) else some (decide (a0.2.2.2.2.2.1=(0:Int)),()))))) else (if (!decide (a0.1=(3:Int)))=true then (if (!decide (a0.2.2.2.2.2.2.1=(0:Int)))=true then some (false,()) else (if decide ((a0.2.2.2.2.2.2.2.1.length:Int)>(0:Int))=true then some (false,()) else (if decide (a0.1=(3:Int))=true then some (true,()) else (if decide (a0.1=(4:Int))=true then some (true,()) else some (decide (a0.2.2.2.2.2.1=(0:Int)),()))))) else (if decide (a0.1=(3:Int))=true then some (true,()) else (if decide (a0.1=(4:Int))=true then some (true,()) else some (decide (a0.2.2.2.2.2.1=(0:Int)),())))))) else (if (!decide (a0.1=(4:Int)))=true then (if (!decide (a0.2.2.2.2.1=(0:Int)))=true then some (false,()) else (if (!decide (a0.1=(3:Int)))=true then (if (!decide (a0.2.2.2.2.2.2.1=(0:Int)))=true then some (false,()) else (if decide ((a0.2.2.2.2.2.2.2.1.length:Int)>(0:Int))=true then some (false,()) else (if decide (a0.1=(3:Int))=true then some (true,()) else (if decide (a0.1=(4:Int))=true then some (true,()) else some (decide (a0.2.2.2.2.2.1=(0:Int)),()))))) else (if decide (a0.1=(3:Int))=true then some (true,()) else (if decide (a0.1=(4:Int))=true then some (true,()) else some (decide (a0.2.2.2.2.2.1=(0:Int)),()))))) else (if (!decide (a0.1=(3:Int)))=true then (if (!decide (a0.2.2.2.2.2.2.1=(0:Int)))=true then some (false,()) else (if decide ((a0.2.2.2.2.2.2.2.1.length:Int)>(0:Int))=true then some (false,()) else (if decide (a0.1=(3:Int))=true then some (true,()) else (if decide (a0.1=(4:Int))=true then some (true,()) else some (decide (a0.2.2.2.2.2.1=(0:Int)),()))))) else (if decide (a0.1=(3:Int))=true then some (true,()) else (if decide (a0.1=(4:Int))=true then some (true,()) else some (decide (a0.2.2.2.2.2.1=(0:Int)),())))))) else (if (!decide (a0.1=(4:Int)))=true then (if (!decide (a0.2.2.2.2.1=(0:Int)))=true then some (false,()) else (if (!decide (a0.1=(3:Int)))=true then (if (!decide (a0.2.2.2.2.2.2.1=(0:Int)))=true then some (false,()) else (if decide ((a0.2.2.2.2.2.2.2.1.length:Int)>(0:Int))=true then some (false,()) else (if decide (a0.1=(3:Int))=true then some (true,()) else (if decide (a0.1=(4:Int))=true then some (true,()) else some (decide (a0.2.2.2.2.2.1=(0:Int)),()))))) else (if decide (a0.1=(3:Int))=true then some (true,()) else (if decide (a0.1=(4:Int))=true then some (true,()) else some (decide (a0.2.2.2.2.2.1=(0:Int)),()))))) else (if (!decide (a0.1=(3:Int)))=true then (if (!decide (a0.2.2.2.2.2.2.1=(0:Int)))=true then some (false,()) else (if decide ((a0.2.2.2.2.2.2.2.1.length:Int)>(0:Int))=true then some (false,()) else (if decide (a0.1=(3:Int))=true then some (true,()) else (if decide (a0.1=(4:Int))=true then some (true,()) else some (decide (a0.2.2.2.2.2.1=(0:Int)),()))))) else (if decide (a0.1=(3:Int))=true then some (true,()) else (if decide (a0.1=(4:Int))=true then some (true,()) else some (decide (a0.2.2.2.2.2.1=(0:Int)),())))))))))))
def abl:Entry:=⟨179,[.ro gH],[.val .bool [] []],fun n c=>uZ n c.1⟩
def aec:Hint:=⟨0,[],[],[],[(44,some 7,SB),(131,some 14,E_9),(131,some 28,E_9)],[],[],[],[]⟩
theorem ahO:gQ T aec Tryz.f179 abl:=by intro n c; kernel_rfl
theorem ajj [Fr] (n:Nat):ak Tryz.prog n abl:=aj mixed aK Tryz.func179 (by kernel_rfl) (hi:=aec) (aa (VG n) (aa (K_9 n) (aa (K_9 n) aD))) ahO
def qC (n:Nat) (a0:List Int):Option (Bool×Unit):=(rounds (fun L1 (v1:Zt0)=>(if decide (v1.2.1<(v1.1.length:Int))=true then (if aI v1.2.1 v1.1.length then ((bP n (v1.1.getD v1.2.1.toNat (0:Int)) (1:Int) (999:Int)).bind fun r2=>(if (!r2.1)=true then some (false,()) else (if decide (v1.2.1>(0:Int))=true then (if aI v1.2.1 v1.1.length then (if aI (IntKind.i64.wrap (v1.2.1 - (1:Int))) v1.1.length then (if decide ((v1.1.getD v1.2.1.toNat (0:Int))≤(v1.1.getD (IntKind.i64.wrap (v1.2.1 - (1:Int))).toNat (0:Int)))=true then some (false,()) else L1 (v1.1,IntKind.i64.wrap (v1.2.1+(1:Int)),())) else none) else none) else L1 (v1.1,IntKind.i64.wrap (v1.2.1+(1:Int)),())))) else none) else some (true,()))) n (a0,(0:Int),()))
def abm:Entry:=⟨181,[.val (.sl 2 (.int .i64)) []],[.val .bool [] []],fun n c=>qC n c.1⟩
def aed:Hint:=⟨0,[],[(0,[0,3],[])],[],[(44,some 14,SB)],[],[],[],[]⟩
theorem ahP:gQ T aed Tryz.f181 abm:=by intro n c; kernel_rfl
theorem ajk [Fr] (n:Nat):ak Tryz.prog n abm:=aj mixed aK Tryz.func181 (by kernel_rfl) (hi:=aed) (aa (VG n) aD) ahP
def oU (n:Nat) (a0:fu):Option (Int×Unit):=((uZ n a0).bind fun r1=>(if (!r1.1)=true then some ((1:Int),()) else ((j5 n a0.2.1).bind fun r2=>(if (!r2.1)=true then some ((5:Int),()) else ((iC n a0.1).bind fun r3=>(if r3.1=true then ((j5 n a0.2.2.1).bind fun r4=>(if (!r4.1)=true then some ((5:Int),()) else (if decide ((a0.2.2.2.1.length:Int)>(6:Int))=true then some ((2:Int),()) else ((qC n a0.2.2.2.1).bind fun r5=>(if (!r5.1)=true then some ((3:Int),()) else (if decide (a0.1=(4:Int))=true then ((bP n a0.2.2.2.2.1 (1:Int) (3:Int)).bind fun r6=>(if (!r6.1)=true then some ((3:Int),()) else ((bP n a0.2.2.2.2.2.1 (0:Int) (15:Int)).bind fun r7=>(if (!r7.1)=true then some ((3:Int),()) else ((bP n a0.2.2.2.2.2.2.1 (0:Int) (9999:Int)).bind fun r8=>(if (!r8.1)=true then some ((3:Int),()) else (if decide ((a0.2.2.2.2.2.2.2.1.length:Int)>(400:Int))=true then some ((2:Int),()) else some ((0:Int),())))))))) else ((bP n a0.2.2.2.2.2.1 (0:Int) (15:Int)).bind fun r9=>(if (!r9.1)=true then some ((3:Int),()) else ((bP n a0.2.2.2.2.2.2.1 (0:Int) (9999:Int)).bind fun NV=>(if (!NV.1)=true then some ((3:Int),()) else (if decide ((a0.2.2.2.2.2.2.2.1.length:Int)>(400:Int))=true then some ((2:Int),()) else some ((0:Int),())))))))))))) else (if decide ((a0.2.2.2.1.length:Int)>(6:Int))=true then some ((2:Int),()) else ((qC n a0.2.2.2.1).bind fun Iw=>(if (!Iw.1)=true then some ((3:Int),()) else (if decide (a0.1=(4:Int))=true then ((bP n a0.2.2.2.2.1 (1:Int) (3:Int)).bind fun Ko=>(if (!Ko.1)=true then some ((3:Int),()) else ((bP n a0.2.2.2.2.2.1 (0:Int) (15:Int)).bind fun Ol=>(if (!Ol.1)=true then some ((3:Int),()) else ((bP n a0.2.2.2.2.2.2.1 (0:Int) (9999:Int)).bind fun Yr=>(if (!Yr.1)=true then some ((3:Int),()) else (if decide ((a0.2.2.2.2.2.2.2.1.length:Int)>(400:Int))=true then some ((2:Int),()) else some ((0:Int),())))))))) else ((bP n a0.2.2.2.2.2.1 (0:Int) (15:Int)).bind fun TF=>(if (!TF.1)=true then some ((3:Int),()) else ((bP n a0.2.2.2.2.2.2.1 (0:Int) (9999:Int)).bind fun r16=>(if (!r16.1)=true then some ((3:Int),()) else (if decide ((a0.2.2.2.2.2.2.2.1.length:Int)>(400:Int))=true then some ((2:Int),()) else some ((0:Int),()))))))))))))))))
def YZ:Entry:=⟨154,[.ro gH],[.val (.int .i64) [] []],fun n c=>oU n c.1⟩
def aee:Hint:=⟨0,[],[],[],[(179,some 4,abl),(180,some 10,E_1),(131,some 17,E_9),(180,some 23,E_1),(181,some 37,abm),(44,some 50,SB),(44,some 59,SB),(44,some 67,SB)],[],[],[],[]⟩
theorem ahQ:gQ T aee Tryz.f154 YZ:=by intro n c; kernel_rfl
theorem afJ [Fr] (n:Nat):ak Tryz.prog n YZ:=aj mixed aK Tryz.func154 (by kernel_rfl) (hi:=aee) (aa (ajj n) (aa (K_1 n) (aa (K_9 n) (aa (K_1 n) (aa (ajk n) (aa (VG n) (aa (VG n) (aa (VG n) aD)))))))) ahQ
def mJ (n:Nat) (a0:Int):Option ((List Int)×Unit):=(if (256:Int)≠0 then (if (256:Int)≠0 then some ([IntKind.u8.wrap (IntKind.i64.wrap (a0.tdiv (256:Int))),IntKind.u8.wrap (a0.tmod (256:Int))],()) else none) else none)
def Qs:Entry:=⟨94,[.val (.int .i64) []],[.own (.sl 5 (.int .u8)) [5] [] []],fun n c=>mJ n c.1⟩
def aef:Hint:=⟨0,[],[],[],[],[],[],[],[]⟩
theorem ahR:gQ T aef Tryz.f94 Qs:=by intro n c; kernel_rfl
theorem Wh [Fr] (n:Nat):ak Tryz.prog n Qs:=aj mixed aK Tryz.func94 (by kernel_rfl) (hi:=aef) aD ahR
def wF (n:Nat) (a0:List Int):Option (Int×Unit):=(rounds (fun L1 (v1:(List Int)×Int×Int×Unit)=>(if decide (v1.2.2.1<(v1.1.length:Int))=true then (if aI v1.2.2.1 v1.1.length then (if (65521:Int)≠0 then L1 (v1.1,(IntKind.i64.wrap ((IntKind.i64.wrap (v1.2.1 * (31:Int)))+(IntKind.i64.wrap (v1.1.getD v1.2.2.1.toNat (0:Int))))).tmod (65521:Int),IntKind.i64.wrap (v1.2.2.1+(1:Int)),()) else none) else none) else some (v1.2.1,()))) n (a0,(1:Int),(0:Int),()))
def abn:Entry:=⟨95,[.val (.sl 5 (.int .u8)) []],[.val (.int .i64) [] []],fun n c=>wF n c.1⟩
def aeg:Hint:=⟨0,[],[(0,[0,3,4],[])],[],[],[],[],[],[]⟩
theorem ahS:gQ T aeg Tryz.f95 abn:=by intro n c; kernel_rfl
theorem ajl [Fr] (n:Nat):ak Tryz.prog n abn:=aj mixed aK Tryz.func95 (by kernel_rfl) (hi:=aeg) aD ahS
def nM (n:Nat) (a0:fu):Option ((List Int)×Unit):=(if ([(0:Int),(0:Int),IntKind.u8.wrap a0.1,IntKind.u8.wrap (a0.2.1.length:Int)].length+a0.2.1.length) * 1≤140737488355328 then (if (([(0:Int),(0:Int),IntKind.u8.wrap a0.1,IntKind.u8.wrap (a0.2.1.length:Int)]++a0.2.1).length+[IntKind.u8.wrap (a0.2.2.1.length:Int)].length) * 1≤140737488355328 then (if ((([(0:Int),(0:Int),IntKind.u8.wrap a0.1,IntKind.u8.wrap (a0.2.1.length:Int)]++a0.2.1)++[IntKind.u8.wrap (a0.2.2.1.length:Int)]).length+a0.2.2.1.length) * 1≤140737488355328 then (if (((([(0:Int),(0:Int),IntKind.u8.wrap a0.1,IntKind.u8.wrap (a0.2.1.length:Int)]++a0.2.1)++[IntKind.u8.wrap (a0.2.2.1.length:Int)])++a0.2.2.1).length+[IntKind.u8.wrap (a0.2.2.2.1.length:Int)].length) * 1≤140737488355328 then (rounds (fun L1 (v1:fu×Int×(List Int)×Unit)=>(if decide (v1.2.1<(v1.1.2.2.2.1.length:Int))=true then (if aI v1.2.1 v1.1.2.2.2.1.length then ((mJ n (v1.1.2.2.2.1.getD v1.2.1.toNat (0:Int))).bind fun r2=>(if (v1.2.2.1.length+r2.1.length) * 1≤140737488355328 then L1 (v1.1,IntKind.i64.wrap (v1.2.1+(1:Int)),v1.2.2.1++r2.1,()) else none)) else none) else (if (v1.2.2.1.length+[IntKind.u8.wrap v1.1.2.2.2.2.1,IntKind.u8.wrap v1.1.2.2.2.2.2.1].length) * 1≤140737488355328 then ((mJ n v1.1.2.2.2.2.2.2.1).bind fun r3=>(if ((v1.2.2.1++[IntKind.u8.wrap v1.1.2.2.2.2.1,IntKind.u8.wrap v1.1.2.2.2.2.2.1]).length+r3.1.length) * 1≤140737488355328 then ((mJ n (v1.1.2.2.2.2.2.2.2.1.length:Int)).bind fun r4=>(if (((v1.2.2.1++[IntKind.u8.wrap v1.1.2.2.2.2.1,IntKind.u8.wrap v1.1.2.2.2.2.2.1])++r3.1).length+r4.1.length) * 1≤140737488355328 then (if ((((v1.2.2.1++[IntKind.u8.wrap v1.1.2.2.2.2.1,IntKind.u8.wrap v1.1.2.2.2.2.2.1])++r3.1)++r4.1).length+v1.1.2.2.2.2.2.2.2.1.length) * 1≤140737488355328 then ((mJ n (IntKind.i64.wrap ((((((v1.2.2.1++[IntKind.u8.wrap v1.1.2.2.2.2.1,IntKind.u8.wrap v1.1.2.2.2.2.2.1])++r3.1)++r4.1)++v1.1.2.2.2.2.2.2.2.1).length:Int)+(2:Int)))).bind fun r5=>(if r5.1.length≤((((v1.2.2.1++[IntKind.u8.wrap v1.1.2.2.2.2.1,IntKind.u8.wrap v1.1.2.2.2.2.2.1])++r3.1)++r4.1)++v1.1.2.2.2.2.2.2.2.1).length then ((wF n (r5.1++((((v1.2.2.1++[IntKind.u8.wrap v1.1.2.2.2.2.1,IntKind.u8.wrap v1.1.2.2.2.2.2.1])++r3.1)++r4.1)++v1.1.2.2.2.2.2.2.2.1).drop r5.1.length)).bind fun r6=>((mJ n r6.1).bind fun r7=>(if ((r5.1++((((v1.2.2.1++[IntKind.u8.wrap v1.1.2.2.2.2.1,IntKind.u8.wrap v1.1.2.2.2.2.2.1])++r3.1)++r4.1)++v1.1.2.2.2.2.2.2.2.1).drop r5.1.length).length+r7.1.length) * 1≤140737488355328 then some ((r5.1++((((v1.2.2.1++[IntKind.u8.wrap v1.1.2.2.2.2.1,IntKind.u8.wrap v1.1.2.2.2.2.2.1])++r3.1)++r4.1)++v1.1.2.2.2.2.2.2.2.1).drop r5.1.length)++r7.1,()) else none))) else none)) else none) else none)) else none)) else none))) n (a0,(0:Int),((([(0:Int),(0:Int),IntKind.u8.wrap a0.1,IntKind.u8.wrap (a0.2.1.length:Int)]++a0.2.1)++[IntKind.u8.wrap (a0.2.2.1.length:Int)])++a0.2.2.1)++[IntKind.u8.wrap (a0.2.2.2.1.length:Int)],())) else none) else none) else none) else none)
def Y0:Entry:=⟨63,[.ro gH],[.own (.sl 5 (.int .u8)) [5] [] []],fun n c=>nM n c.1⟩
def aeh:Hint:=⟨0,[],[(0,[0,3,4],[514])],[],[(94,some 64,Qs),(94,some 83,Qs),(94,some 91,Qs),(94,some 102,Qs),(95,some 106,abn),(94,some 107,Qs)],[],[],[103],[]⟩
theorem ahT:gQ T aeh Tryz.f63 Y0:=by intro n c; kernel_rfl
theorem afK [Fr] (n:Nat):ak Tryz.prog n Y0:=aj mixed aK Tryz.func63 (by kernel_rfl) (hi:=aeh) (aa (Wh n) (aa (Wh n) (aa (Wh n) (aa (Wh n) (aa (ajl n) (aa (Wh n) aD)))))) ahT
def uW (n:Nat) (a0:List Int):Option (akb×Unit):=(if decide ((a0.length:Int)<(2:Int))=true then some (((5:Int),(0:Int),vD,()),()) else (if aI (0:Int) a0.length then (if aI (1:Int) a0.length then (if decide ((IntKind.i64.wrap ((IntKind.i64.wrap ((IntKind.i64.wrap (a0.getD (0:Int).toNat (0:Int))) * (256:Int)))+(IntKind.i64.wrap (a0.getD (1:Int).toNat (0:Int)))))<(2:Int))=true then some (((5:Int),(0:Int),vD,()),()) else (if decide ((IntKind.i64.wrap ((IntKind.i64.wrap ((IntKind.i64.wrap (a0.getD (0:Int).toNat (0:Int))) * (256:Int)))+(IntKind.i64.wrap (a0.getD (1:Int).toNat (0:Int)))))>(a0.length:Int))=true then some (((5:Int),(0:Int),vD,()),()) else (if 0≤(IntKind.i64.wrap ((IntKind.i64.wrap ((IntKind.i64.wrap (a0.getD (0:Int).toNat (0:Int))) * (256:Int)))+(IntKind.i64.wrap (a0.getD (1:Int).toNat (0:Int)))))∧(IntKind.i64.wrap ((IntKind.i64.wrap ((IntKind.i64.wrap (a0.getD (0:Int).toNat (0:Int))) * (256:Int)))+(IntKind.i64.wrap (a0.getD (1:Int).toNat (0:Int)))))≤(a0.length:Int) then ((u7 n (a0.take (IntKind.i64.wrap ((IntKind.i64.wrap ((IntKind.i64.wrap (a0.getD (0:Int).toNat (0:Int))) * (256:Int)))+(IntKind.i64.wrap (a0.getD (1:Int).toNat (0:Int))))).toNat)).bind fun r1=>((oU n r1.1).bind fun r2=>(if (!decide (r2.1=(0:Int)))=true then some (((5:Int),(0:Int),vD,()),()) else ((nM n r1.1).bind fun r3=>(if 0≤(IntKind.i64.wrap ((IntKind.i64.wrap ((IntKind.i64.wrap (a0.getD (0:Int).toNat (0:Int))) * (256:Int)))+(IntKind.i64.wrap (a0.getD (1:Int).toNat (0:Int)))))∧(IntKind.i64.wrap ((IntKind.i64.wrap ((IntKind.i64.wrap (a0.getD (0:Int).toNat (0:Int))) * (256:Int)))+(IntKind.i64.wrap (a0.getD (1:Int).toNat (0:Int)))))≤(a0.length:Int) then (if (!decide (r3.1=(a0.take (IntKind.i64.wrap ((IntKind.i64.wrap ((IntKind.i64.wrap (a0.getD (0:Int).toNat (0:Int))) * (256:Int)))+(IntKind.i64.wrap (a0.getD (1:Int).toNat (0:Int))))).toNat)))=true then some (((5:Int),(0:Int),vD,()),()) else some (((0:Int),IntKind.i64.wrap ((IntKind.i64.wrap ((IntKind.i64.wrap (a0.getD (0:Int).toNat (0:Int))) * (256:Int)))+(IntKind.i64.wrap (a0.getD (1:Int).toNat (0:Int)))),r1.1,()),())) else none))))) else none))) else none) else none))
def abo:Entry:=⟨123,[.val (.sl 5 (.int .u8)) []],[.own I7 [2,5] [] []],fun n c=>uW n c.1⟩
def aei:Hint:=⟨0,[45],[],[],[(162,some 31,E_8),(154,some 32,YZ),(63,some 35,Y0)],[],[],[],[]⟩
theorem ahU:gQ T aei Tryz.f123 abo:=by intro n c; kernel_rfl
theorem ajm [Fr] (n:Nat):ak Tryz.prog n abo:=aj mixed aK Tryz.func123 (by kernel_rfl) (hi:=aei) (aa (K_8 n) (aa (afJ n) (aa (afK n) aD))) ahU
def lH (n:Nat) (a0:List Int):Option ((List fu)×Int×Unit):=(rounds (fun L1 (v1:(List Int)×Int×(List fu)×Unit)=>(if decide (v1.2.1<(v1.1.length:Int))=true then (if 0≤v1.2.1∧v1.2.1≤(v1.1.length:Int) then ((uW n (v1.1.drop v1.2.1.toNat)).bind fun r2=>(if (!decide (r2.1.1=(0:Int)))=true then some (v1.2.2.1,v1.2.1,()) else (if (v1.2.2.1.length+[r2.1.2.2.1].length) * 112≤140737488355328 then L1 (v1.1,IntKind.i64.wrap (v1.2.1+r2.1.2.1),v1.2.2.1++[r2.1.2.2.1],()) else none))) else none) else some (v1.2.2.1,v1.2.1,()))) n (a0,(0:Int),([]:List fu),()))
def Y1:Entry:=⟨92,[.val (.sl 5 (.int .u8)) []],[.own (.sl 48 gH) [2,5,48] [] [], .val (.int .i64) [] []],fun n c=>lH n c.1⟩
def aej:Hint:=⟨0,[21],[(0,[0,4,5],[226])],[],[(123,some 15,abo)],[],[],[],[]⟩
theorem ahV:gQ T aej Tryz.f92 Y1:=by intro n c; kernel_rfl
theorem afL [Fr] (n:Nat):ak Tryz.prog n Y1:=aj mixed aK Tryz.func92 (by kernel_rfl) (hi:=aej) (aa (ajm n) aD) ahV
def qA (n:Nat) (a0:yR):Option ((List fu)×Bool×Unit):=((lH n a0.2.1).bind fun r1=>((lH n a0.2.2.1).bind fun r2=>(if (r1.1.length+r2.1.length) * 112≤140737488355328 then (if decide (r1.2.1=(a0.2.1.length:Int))=true then some (r1.1++r2.1,decide (r2.2.1=(a0.2.2.1.length:Int)),()) else some (r1.1++r2.1,false,())) else none)))
def Y2:Entry:=⟨60,[.ro CZ],[.own (.sl 48 gH) [2,5,48] [] [], .val .bool [] []],fun n c=>qA n c.1⟩
def aek:Hint:=⟨0,[],[],[],[(92,some 13,Y1),(92,some 21,Y1)],[],[],[],[]⟩
theorem ahW:gQ T aek Tryz.f60 Y2:=by intro n c; kernel_rfl
theorem afM [Fr] (n:Nat):ak Tryz.prog n Y2:=aj mixed aK Tryz.func60 (by kernel_rfl) (hi:=aek) (aa (afL n) (aa (afL n) aD)) ahW
def vT (n:Nat)  : Option (fI×Unit):=some (((1:Int),([]:List dP),()),())
def abp:Entry:=⟨116,[],[.own qm [5,100,103] [] []],fun n c=>vT n⟩
def ael:Hint:=⟨0,[],[],[],[],[],[],[],[]⟩
theorem ahX:gQ T ael Tryz.f116 abp:=by intro n c; kernel_rfl
theorem ajn [Fr] (n:Nat):ak Tryz.prog n abp:=aj mixed aK Tryz.func116 (by kernel_rfl) (hi:=ael) aD ahX
def dV (n:Nat) (a0:Int):Option (FT×Unit):=some ((a0,([]:List Int),OI,()),())
def Hq:Entry:=⟨153,[.val (.int .i64) []],[.own M7 [2,5,100,103] [] []],fun n c=>dV n c.1⟩
def aem:Hint:=⟨0,[],[],[],[],[],[],[],[]⟩
theorem ahY:gQ T aem Tryz.f153 Hq:=by intro n c; kernel_rfl
theorem KY [Fr] (n:Nat):ak Tryz.prog n Hq:=aj mixed aK Tryz.func153 (by kernel_rfl) (hi:=aem) aD ahY
def qB (n:Nat) (a0:List Int):Option ((List Int)×Unit):=(if (([]:List Int).length+a0.length) * 1≤140737488355328 then some (([]:List Int)++a0,()) else none)
def Y3:Entry:=⟨45,[.val (.sl 5 (.int .u8)) []],[.own (.sl 5 (.int .u8)) [5] [] []],fun n c=>qB n c.1⟩
def aen:Hint:=⟨0,[],[],[],[],[],[],[],[]⟩
theorem ahZ:gQ T aen Tryz.f45 Y3:=by intro n c; kernel_rfl
theorem afN [Fr] (n:Nat):ak Tryz.prog n Y3:=aj mixed aK Tryz.func45 (by kernel_rfl) (hi:=aen) aD ahZ
def nY (n:Nat) (a0:List rz):Option ((List rz)×Unit):=(rounds (fun L1 (v1:(List rz)×Int×(List rz)×Unit)=>(if decide (v1.2.1<(v1.1.length:Int))=true then (if aI v1.2.1 v1.1.length then ((qB n (((((v1.1.getD v1.2.1.toNat ku).2).2).2).1)).bind fun r2=>(if (v1.2.2.1.length+[((v1.1.getD v1.2.1.toNat ku).1,((v1.1.getD v1.2.1.toNat ku).2).1,(((v1.1.getD v1.2.1.toNat ku).2).2).1,r2.1,((((v1.1.getD v1.2.1.toNat ku).2).2).2).2)].length) * 48≤140737488355328 then L1 (v1.1,IntKind.i64.wrap (v1.2.1+(1:Int)),v1.2.2.1++[((v1.1.getD v1.2.1.toNat ku).1,((v1.1.getD v1.2.1.toNat ku).2).1,(((v1.1.getD v1.2.1.toNat ku).2).2).1,r2.1,((((v1.1.getD v1.2.1.toNat ku).2).2).2).2)],()) else none)) else none) else some (v1.2.2.1,()))) n (a0,(0:Int),([]:List rz),()))
def abq:Entry:=⟨124,[.val (.sl 103 zw) []],[.own (.sl 103 zw) [5,103] [] []],fun n c=>nY n c.1⟩
def aeo:Hint:=⟨0,[22],[(0,[0,3,4],[194])],[],[(45,some 19,Y3)],[],[],[],[]⟩
theorem ah0:gQ T aeo Tryz.f124 abq:=by intro n c; kernel_rfl
theorem ajo [Fr] (n:Nat):ak Tryz.prog n abq:=aj mixed aK Tryz.func124 (by kernel_rfl) (hi:=aeo) (aa (afN n) aD) ah0
def jf (n:Nat) (a0:dP):Option (dP×Unit):=((nY n a0.2.2.2.1).bind fun r1=>some ((a0.1,a0.2.1,a0.2.2.1,r1.1,a0.2.2.2.2),()))
def Y4:Entry:=⟨93,[.val nG []],[.own nG [5,103] [] []],fun n c=>jf n c.1⟩
def aep:Hint:=⟨0,[7],[],[],[(124,some 5,abq)],[],[],[],[]⟩
theorem ah1:gQ T aep Tryz.f93 Y4:=by intro n c; kernel_rfl
theorem afO [Fr] (n:Nat):ak Tryz.prog n Y4:=aj mixed aK Tryz.func93 (by kernel_rfl) (hi:=aep) (aa (ajo n) aD) ah1
def j4 (n:Nat) (a0:fI):Option (fI×Unit):=(rounds (fun L1 (v1:Int×fI×fI×fI×Unit)=>(if decide (v1.1<(v1.2.1.2.1.length:Int))=true then (if aI v1.1 v1.2.1.2.1.length then ((jf n (v1.2.1.2.1.getD v1.1.toNat dD)).bind fun r2=>(if (v1.2.2.2.1.2.1.length+[r2.1].length) * 56≤140737488355328 then L1 (IntKind.i64.wrap (v1.1+(1:Int)),v1.2.1,v1.2.2.1,(v1.2.2.2.1.1,v1.2.2.2.1.2.1++[r2.1],v1.2.2.2.1.2.2),()) else none)) else none) else some (v1.2.2.2.1,()))) n ((0:Int),a0,OI,(a0.1,([]:List dP),()),()))
def TT:Entry:=⟨61,[.val qm []],[.own qm [5,100,103] [] []],fun n c=>j4 n c.1⟩
def aer:Hint:=⟨0,[16,26],[(0,[1,2,3,4],[34,66,98])],[],[(93,some 22,Y4)],[],[],[],[]⟩
theorem ah2:gQ T aer Tryz.f61 TT:=by intro n c; kernel_rfl
theorem Zf [Fr] (n:Nat):ak Tryz.prog n TT:=aj mixed aK Tryz.func61 (by kernel_rfl) (hi:=aer) (aa (afO n) aD) ah2
def rF (n:Nat) (a0:fI) (a1:List Int):Option (Int×Unit):=(rounds (fun L1 (v1:fI×Zt0)=>(if decide (v1.2.2.1<(v1.1.2.1.length:Int))=true then (if aI v1.2.2.1 v1.1.2.1.length then (if decide (((v1.1.2.1.getD v1.2.2.1.toNat dD).1)=v1.2.1)=true then some (v1.2.2.1,()) else L1 (v1.1,v1.2.1,IntKind.i64.wrap (v1.2.2.1+(1:Int)),())) else none) else some ((-1:Int),()))) n (a0,a1,(0:Int),()))
def VT:Entry:=⟨183,[.ro qm, .val .str []],[.val (.int .i64) [] []],fun n c=>rF n c.1 c.2.1⟩
def aes:Hint:=⟨0,[],[(0,[0,1,5],[])],[],[],[],[],[],[]⟩
theorem ah3:gQ T aes Tryz.f183 VT:=by intro n c; kernel_rfl
theorem ach [Fr] (n:Nat):ak Tryz.prog n VT:=aj mixed aK Tryz.func183 (by kernel_rfl) (hi:=aes) aD ah3
def u6 (n:Nat) (a0:fI) (a1:fu):Option (FT×Unit):=((rF n a0 a1.2.1).bind fun r1=>(if decide (r1.1≥(0:Int))=true then ((dV n (6:Int)).bind fun r2=>some (r2.1,())) else (if decide ((a0.2.1.length:Int)≥(3:Int))=true then ((dV n (10:Int)).bind fun r3=>some (r3.1,())) else (if decide (a0.1≥(1000:Int))=true then ((dV n (10:Int)).bind fun r4=>some (r4.1,())) else ((j4 n a0).bind fun r5=>(if (r5.1.2.1.length+[(a1.2.1,a0.1,(1:Int),([]:List rz),())].length) * 56≤140737488355328 then some (((0:Int),([]:List Int),(IntKind.i64.wrap (a0.1+(1:Int)),r5.1.2.1++[(a1.2.1,a0.1,(1:Int),([]:List rz),())],r5.1.2.2),()),()) else none))))))
def abr:Entry:=⟨182,[.val qm [], .ro gH],[.own M7 [2,5,100,103] [] []],fun n c=>u6 n c.1 c.2.1⟩
def aet:Hint:=⟨0,[26,41],[],[],[(183,some 10,VT),(153,some 12,Hq),(153,some 22,Hq),(61,some 24,TT)],[],[],[],[]⟩
theorem ah4:gQ T aet Tryz.f182 abr:=by intro n c; kernel_rfl
theorem ajp [Fr] (n:Nat):ak Tryz.prog n abr:=aj mixed aK Tryz.func182 (by kernel_rfl) (hi:=aet) (aa (ach n) (aa (KY n) (aa (KY n) (aa (Zf n) aD)))) ah4
def mH (n:Nat) (a0:dP) (a1:rz):Option (Int×dP×Unit):=((qB n a1.2.2.2.1).bind fun r1=>(if (a0.2.2.2.1.length+[(a0.2.2.1,a1.2.1,a1.2.2.1,r1.1,a1.2.2.2.2)].length) * 48≤140737488355328 then some (a0.2.2.1,(a0.1,a0.2.1,IntKind.i64.wrap (a0.2.2.1+(1:Int)),a0.2.2.2.1++[(a0.2.2.1,a1.2.1,a1.2.2.1,r1.1,a1.2.2.2.2)],a0.2.2.2.2),()) else none))
def Y5:Entry:=⟨184,[.rw nG [5,103] [5,103,4294967295] [5,103], .val zw []],[.val (.int .i64) [] []],fun n c=>mH n c.1 c.2.1⟩
def aeu:Hint:=⟨0,[18,19],[],[],[(45,some 12,Y3)],[],[],[],[]⟩
theorem ah5:gQ T aeu Tryz.f184 Y5:=by intro n c; kernel_rfl
theorem afP [Fr] (n:Nat):ak Tryz.prog n Y5:=aj mixed aK Tryz.func184 (by kernel_rfl) (hi:=aeu) (aa (afN n) aD) ah5
def mG (n:Nat) (a0:List Int) (a1:Int):Option (Bool×Unit):=(rounds (fun L1 (v1:(List Int)×Int×Int×Unit)=>(if decide (v1.2.2.1<(v1.1.length:Int))=true then (if aI v1.2.2.1 v1.1.length then (if decide ((v1.1.getD v1.2.2.1.toNat (0:Int))=v1.2.1)=true then some (true,()) else L1 (v1.1,v1.2.1,IntKind.i64.wrap (v1.2.2.1+(1:Int)),())) else none) else some (false,()))) n (a0,a1,(0:Int),()))
def Qt:Entry:=⟨205,[.val (.sl 2 (.int .i64)) [], .val (.int .i64) []],[.val .bool [] []],fun n c=>mG n c.1 c.2.1⟩
def V8:Hint:=⟨0,[],[(0,[0,1,5],[])],[],[],[],[],[],[]⟩
theorem abg:gQ T V8 Tryz.f205 Qt:=by intro n c; kernel_rfl
theorem aci [Fr] (n:Nat):ak Tryz.prog n Qt:=aj mixed aK Tryz.func205 (by kernel_rfl) (hi:=V8) aD abg
def sQ (n:Nat) (a0:Int) (a1:Int) (a2:Int):Option (Int×Unit):=(if decide (a1=(2:Int))=true then some (IntKind.i64.wrap ((BitVec.ofInt (IntKind.bits .i64) a0 ||| BitVec.ofInt (IntKind.bits .i64) a2).toNat),()) else (if decide (a1=(3:Int))=true then some (IntKind.i64.wrap ((BitVec.ofInt (IntKind.bits .i64) a0 &&& ~~~ BitVec.ofInt (IntKind.bits .i64) a2).toNat),()) else some (a2,())))
def abt:Entry:=⟨206,[.val (.int .i64) [], .val (.int .i64) [], .val (.int .i64) []],[.val (.int .i64) [] []],fun n c=>sQ n c.1 c.2.1 c.2.2.1⟩
def aev:Hint:=⟨0,[],[],[],[],[],[],[],[]⟩
theorem ah6:gQ T aev Tryz.f206 abt:=by intro n c; kernel_rfl
theorem ajq [Fr] (n:Nat):ak Tryz.prog n abt:=aj mixed aK Tryz.func206 (by kernel_rfl) (hi:=aev) aD ah6
def uY (n:Nat) (a0:dP) (a1:fu):Option ((List Int)×dP×Unit):=(rounds (fun L1 (v1:fu×Int×dP×(List Int)×Unit)=>(if decide (v1.2.1<(v1.2.2.1.2.2.2.1.length:Int))=true then (if aI v1.2.1 v1.2.2.1.2.2.2.1.length then ((mG n v1.1.2.2.2.1 ((v1.2.2.1.2.2.2.1.getD v1.2.1.toNat ku).1)).bind fun r2=>(if r2.1=true then ((sQ n (((v1.2.2.1.2.2.2.1.getD v1.2.1.toNat ku).2).1) v1.1.2.2.2.2.1 v1.1.2.2.2.2.2.1).bind fun r3=>(if (v1.2.2.2.1.length+[((iM v1.2.2.1.2.2.2.1 v1.2.1.toNat ku fun z1=>(z1.1,r3.1,z1.2.2)).getD v1.2.1.toNat ku).1].length) * 8≤140737488355328 then L1 (v1.1,IntKind.i64.wrap (v1.2.1+(1:Int)),(v1.2.2.1.1,v1.2.2.1.2.1,v1.2.2.1.2.2.1,(iM v1.2.2.1.2.2.2.1 v1.2.1.toNat ku fun z1=>(z1.1,r3.1,z1.2.2)),v1.2.2.1.2.2.2.2),v1.2.2.2.1++[((iM v1.2.2.1.2.2.2.1 v1.2.1.toNat ku fun z1=>(z1.1,r3.1,z1.2.2)).getD v1.2.1.toNat ku).1],()) else none)) else L1 (v1.1,IntKind.i64.wrap (v1.2.1+(1:Int)),v1.2.2.1,v1.2.2.2.1,()))) else none) else some (v1.2.2.2.1,v1.2.2.1,()))) n (a1,(0:Int),a0,([]:List Int),()))
def abu:Entry:=⟨185,[.rw nG [5,103] [103] [], .ro gH],[.own (.sl 2 (.int .i64)) [2] [] []],fun n c=>uY n c.1 c.2.1⟩
def aew:Hint:=⟨0,[21],[(0,[0,1,5,6],[0,258])],[],[(205,some 32,Qt),(206,some 46,abt)],[],[],[],[]⟩
theorem ah7:gQ T aew Tryz.f185 abu:=by intro n c; kernel_rfl
theorem ajr [Fr] (n:Nat):ak Tryz.prog n abu:=aj mixed aK Tryz.func185 (by kernel_rfl) (hi:=aew) (aa (aci n) (aa (ajq n) aD)) ah7
namespace IdT
def YM:VH:={ ty:=[(2,(.int .i64)),(3,(.int .i64)),(4, .bool),(5,(.int .u8)),(6,(.int .u8)),(7,YS),(8,YS),(9, .str),(10, .str),(11, .str),(12,(.int .u64)),(13,YQ),(14,YQ),(21,(.int .i32)),(22,(.sl 5 (.int .u8))),(23,(.sl 134 YT)),(24,QE),(25,QE),(26,Uf),(27,Uf),(29,(.sl 2 (.int .i64))),(30,(.sl 100 Hw)),(31,OH),(32,OH),(33,QG),(34,QG),(35,Ug),(36,Ug),(47,gH),(48,gH),(52,Ue),(53,Ue),(55,(.sl 48 gH)),(56,K6),(57,K6),(65,gH),(98,(.sl 103 K7)),(99,Hw),(100,Hw),(102,K7),(103,K7),(109,(.sl 22 (.sl 5 (.int .u8)))),(132,(.sl 199 K7)),(133,YT),(134,YT),(141,I7),(142,I7),(145,YR),(146,YR),(150,(.sl 9 .str)),(167,Ud),(168,Ud),(199,K7),(203,Uh),(204,Uh),(226,(.int .u32)),(227,(.int .u8)),(228,(.int .u8)),(231,(.int .i32)),(232,(.int .i32))],bytes:=[(2,8),(3,8),(4,1),(5,1),(6,1),(7,24),(8,24),(9,16),(10,16),(11,16),(12,8),(13,24),(14,24),(21,4),(22,24),(23,24),(24,32),(25,32),(26,88),(27,88),(29,24),(30,24),(31,32),(32,32),(33,88),(34,88),(35,120),(36,120),(47,112),(48,112),(52,64),(53,64),(55,24),(56,40),(57,40),(65,112),(98,24),(99,56),(100,56),(102,48),(103,48),(109,24),(132,24),(133,56),(134,56),(141,128),(142,128),(145,32),(146,32),(150,24),(167,32),(168,32),(199,48),(203,40),(204,40),(226,4),(227,1),(228,1),(231,4),(232,4)],ptr:=[15,16,17,74,87,118,136,161,166,187,206,230],ids:=true }
def T:jg:=YM.tab
theorem aK:Cu Tryz.prog YM=true:=by kernel_rfl
theorem mixed:Tryz.prog.follows .mixedOrders=true:=by kernel_rfl
def mG (n:Nat) (a0:List Int) (a1:Int):Option (Bool×Unit):=(rounds (fun L1 (v1:(List Int)×Int×Int×Unit)=>(if decide (v1.2.2.1<(v1.1.length:Int))=true then (if aI v1.2.2.1 v1.1.length then (if decide ((v1.1.getD v1.2.2.1.toNat (0:Int))=v1.2.1)=true then some (true,()) else L1 (v1.1,v1.2.1,IntKind.i64.wrap (v1.2.2.1+(1:Int)),())) else none) else some (false,()))) n (a0,a1,(0:Int),()))
def Qt:Entry:=⟨205,[.val (.sl 2 (.int .i64)) [], .val (.int .i64) []],[.val .bool [] []],fun n c=>mG n c.1 c.2.1⟩
def V8:Hint:=⟨0,[],[(0,[0,1,5],[])],[],[],[],[],[],[]⟩
theorem abg:gQ T V8 Tryz.f205 Qt:=by intro n c; kernel_rfl
theorem aci [Fr] (n:Nat):ak Tryz.prog n Qt:=aj mixed aK Tryz.func205 (by kernel_rfl) (hi:=V8) aD abg
def fQ (n:Nat) (a0:Zt9) (a1:List Int) (a2:Int):Option ((List M9)×Zt9×Unit):=(rounds (fun L1 (v1:(List Int)×Int×Int×Zt9×(List M9)×(List M9)×Unit)=>(if decide (v1.2.2.1<(v1.2.2.2.1.2.2.2.1.length:Int))=true then (if aI v1.2.2.1 v1.2.2.2.1.2.2.2.1.length then ((mG n v1.1 ((v1.2.2.2.1.2.2.2.1.getD v1.2.2.1.toNat Na).1)).bind fun r2=>(if r2.1=true then (if (v1.2.2.2.2.1.length+[v1.2.2.2.1.2.2.2.1.getD v1.2.2.1.toNat Na].length) * 48≤140737488355328 then L1 (v1.1,v1.2.1,IntKind.i64.wrap (v1.2.2.1+(1:Int)),v1.2.2.2.1,v1.2.2.2.2.1++[v1.2.2.2.1.2.2.2.1.getD v1.2.2.1.toNat Na],v1.2.2.2.2.2.1,()) else none) else (if (!decide ((IntKind.i64.wrap ((BitVec.ofInt (IntKind.bits .i64) (((v1.2.2.2.1.2.2.2.1.getD v1.2.2.1.toNat Na).2).1) &&& BitVec.ofInt (IntKind.bits .i64) v1.2.1).toNat))=(0:Int)))=true then (if (v1.2.2.2.2.1.length+[v1.2.2.2.1.2.2.2.1.getD v1.2.2.1.toNat Na].length) * 48≤140737488355328 then L1 (v1.1,v1.2.1,IntKind.i64.wrap (v1.2.2.1+(1:Int)),v1.2.2.2.1,v1.2.2.2.2.1++[v1.2.2.2.1.2.2.2.1.getD v1.2.2.1.toNat Na],v1.2.2.2.2.2.1,()) else none) else (if (v1.2.2.2.2.2.1.length+[v1.2.2.2.1.2.2.2.1.getD v1.2.2.1.toNat Na].length) * 48≤140737488355328 then L1 (v1.1,v1.2.1,IntKind.i64.wrap (v1.2.2.1+(1:Int)),v1.2.2.2.1,v1.2.2.2.2.1,v1.2.2.2.2.2.1++[v1.2.2.2.1.2.2.2.1.getD v1.2.2.1.toNat Na],()) else none)))) else none) else some (v1.2.2.2.2.1,(v1.2.2.2.1.1,v1.2.2.2.1.2.1,v1.2.2.2.1.2.2.1,v1.2.2.2.2.2.1,v1.2.2.2.1.2.2.2.2),()))) n (a1,a2,(0:Int),a0,([]:List M9),([]:List M9),()))
def TU:Entry:=⟨186,[.rw Hw [5,103] [4294967295] [103], .val (.sl 2 (.int .i64)) [], .val (.int .i64) []],[.own (.sl 103 K7) [103] [] []],fun n c=>fQ n c.1 c.2.1 c.2.2.1⟩
def aex:Hint:=⟨0,[],[(0,[0,1,2,7,8,9],[0,354,386])],[],[(205,some 32,Qt)],[],[],[],[]⟩
theorem ah8:gQ T aex Tryz.f186 TU:=by intro n c; kernel_rfl
theorem Zg [Fr] (n:Nat):ak Tryz.prog n TU:=aj mixed aK Tryz.func186 (by kernel_rfl) (hi:=aex) (aa (aci n) aD) ah8
end IdT
def fQ (n:Nat) (a0:List Int×Int×Int×List jV.Af×Unit) (a1:List Int) (a2:Int):Option (List jV.Af×(List Int×Int×Int×List jV.Af×Unit)×Unit):=jF.Bz jF.pick n a0 a1 a2
def aa2:List dH:=[.rw nG [5,103] [4294967295,5] [103,4294967294], .val (.sl 2 (.int .i64)) [], .val (.int .i64) []]
def ahp:List nN:=[.own (.sl 103 zw) [5,103] [] []]
def TU:Entry:=⟨186,aa2,ahp,fun n (c:Cont (kin aa2))=>fQ n c.1 c.2.1 c.2.2.1⟩
theorem ajf {n:Nat} {nm:List Int} {w h:Int} {xs:List M9} {us:List Int} {fl:Int} (hc:xs.length * 48≤140737488355328) (hn:xs.length<n) (hb:us.length≤1048576) (hu:us.length<n) :
  IdT.fQ n (nm,w,h,xs,()) us fl=some (xs.filter (fun x=>jF.pick us fl x.1 x.2.1),(nm,w,h,xs.filter (fun x=>!jF.pick us fl x.1 x.2.1),()),()):=
 jF.Vy (has:=IdT.mG n) (fun _ _=>rfl) (fun x=>jF.Pj (fun _ _=>rfl) hb hu) hc hn
theorem Zg [Fr] (n:Nat):ak Tryz.prog n TU:=jF.Sl (p:=jF.pick) (e:=5) (m:=103) (i:=2) (ow:=[103]) (FI:=fun n c=>IdT.fQ n c.1 c.2.1 c.2.2.1) rfl (fun fr=>IdT.Zg n) (fun _ _ _ _ _ _ hc hn hb hu=>ajf hc hn hb hu)
def sP (n:Nat) (a0:fI) (a1:Int) (a2:fu):Option ((List Int)×Int×fI×Unit):=((rF n a0 a2.2.2.1).bind fun r1=>(if decide (r1.1<(0:Int))=true then some (([]:List Int),(4:Int),a0,()) else (if decide (a2.1=(6:Int))=true then (if decide (r1.1=a1)=true then some (([]:List Int),(9:Int),a0,()) else (if aI a1 a0.2.1.length then ((jf n (a0.2.1.getD a1.toNat dD)).bind fun r2=>((fQ n r2.1 a2.2.2.2.1 (0:Int)).bind fun r3=>(if aI r1.1 a0.2.1.length then (if decide ((IntKind.i64.wrap (((((((a0.2.1.getD r1.1.toNat dD).2).2).2).1).length:Int)+(r3.1.length:Int)))>(6:Int))=true then some (([]:List Int),(10:Int),a0,()) else (if decide ((IntKind.i64.wrap (((((a0.2.1.getD r1.1.toNat dD).2).2).1)+(r3.1.length:Int)))>(1000:Int))=true then some (([]:List Int),(10:Int),a0,()) else (rounds (fun L4 (v4:Int×fu×Int×Int×fI×dP×(List rz)×(List Int)×Unit)=>(if decide (v4.2.2.2.1<(v4.2.2.2.2.2.2.1.length:Int))=true then (if aI v4.2.2.2.1 v4.2.2.2.2.2.2.1.length then ((mH n (v4.2.2.2.2.1.2.1.getD v4.2.2.1.toNat dD) (v4.2.2.2.2.2.2.1.getD v4.2.2.2.1.toNat ku)).bind fun r5=>(if (v4.2.2.2.2.2.2.2.1.length+[r5.1].length) * 8≤140737488355328 then L4 (v4.1,v4.2.1,v4.2.2.1,IntKind.i64.wrap (v4.2.2.2.1+(1:Int)),(v4.2.2.2.2.1.1,v4.2.2.2.2.1.2.1.set v4.2.2.1.toNat r5.2.1,v4.2.2.2.2.1.2.2),v4.2.2.2.2.2.1,v4.2.2.2.2.2.2.1,v4.2.2.2.2.2.2.2.1++[r5.1],()) else none)) else none) else (if decide (v4.2.1.1=(6:Int))=true then (if aI v4.1 v4.2.2.2.2.1.2.1.length then some (v4.2.2.2.2.2.2.2.1,(0:Int),(v4.2.2.2.2.1.1,v4.2.2.2.2.1.2.1.set v4.1.toNat v4.2.2.2.2.2.1,v4.2.2.2.2.1.2.2),()) else none) else some (v4.2.2.2.2.2.2.2.1,(0:Int),v4.2.2.2.2.1,())))) n (a1,a2,r1.1,(0:Int),a0,r3.2.1,r3.1,([]:List Int),())))) else none))) else none)) else (if aI a1 a0.2.1.length then ((jf n (a0.2.1.getD a1.toNat dD)).bind fun r6=>((fQ n r6.1 a2.2.2.2.1 (0:Int)).bind fun r7=>(if aI r1.1 a0.2.1.length then (if decide ((IntKind.i64.wrap (((((((a0.2.1.getD r1.1.toNat dD).2).2).2).1).length:Int)+(r7.1.length:Int)))>(6:Int))=true then some (([]:List Int),(10:Int),a0,()) else (if decide ((IntKind.i64.wrap (((((a0.2.1.getD r1.1.toNat dD).2).2).1)+(r7.1.length:Int)))>(1000:Int))=true then some (([]:List Int),(10:Int),a0,()) else (rounds (fun L8 (v8:Int×fu×Int×Int×fI×dP×(List rz)×(List Int)×Unit)=>(if decide (v8.2.2.2.1<(v8.2.2.2.2.2.2.1.length:Int))=true then (if aI v8.2.2.2.1 v8.2.2.2.2.2.2.1.length then ((mH n (v8.2.2.2.2.1.2.1.getD v8.2.2.1.toNat dD) (v8.2.2.2.2.2.2.1.getD v8.2.2.2.1.toNat ku)).bind fun r9=>(if (v8.2.2.2.2.2.2.2.1.length+[r9.1].length) * 8≤140737488355328 then L8 (v8.1,v8.2.1,v8.2.2.1,IntKind.i64.wrap (v8.2.2.2.1+(1:Int)),(v8.2.2.2.2.1.1,v8.2.2.2.2.1.2.1.set v8.2.2.1.toNat r9.2.1,v8.2.2.2.2.1.2.2),v8.2.2.2.2.2.1,v8.2.2.2.2.2.2.1,v8.2.2.2.2.2.2.2.1++[r9.1],()) else none)) else none) else (if decide (v8.2.1.1=(6:Int))=true then (if aI v8.1 v8.2.2.2.2.1.2.1.length then some (v8.2.2.2.2.2.2.2.1,(0:Int),(v8.2.2.2.2.1.1,v8.2.2.2.2.1.2.1.set v8.1.toNat v8.2.2.2.2.2.1,v8.2.2.2.2.1.2.2),()) else none) else some (v8.2.2.2.2.2.2.2.1,(0:Int),v8.2.2.2.2.1,())))) n (a1,a2,r1.1,(0:Int),a0,r7.2.1,r7.1,([]:List Int),())))) else none))) else none))))
def abv:Entry:=⟨187,[.rw qm [5,100,103] [5,100,103,4294967295] [5,103], .val (.int .i64) [], .ro gH],[.own (.sl 2 (.int .i64)) [2] [] [], .val (.int .i64) [] []],fun n c=>sP n c.1 c.2.1 c.2.2.1⟩
def aey:Hint:=⟨0,[48,94,96],[(0,[0,1,2,9,10,11,12,13],[0,290,1410,2242])],[],[(183,some 19,VT),(93,some 39,Y4),(186,some 44,TU),(184,some 83,Y5)],[],[],[],[]⟩
theorem ah9:gQ T aey Tryz.f187 abv:=by intro n c; kernel_rfl
theorem ajs [Fr] (n:Nat):ak Tryz.prog n abv:=aj mixed aK Tryz.func187 (by kernel_rfl) (hi:=aey) (aa (ach n) (aa (afO n) (aa (Zg n) (aa (afP n) aD)))) ah9
def sO (n:Nat) (a0:fI) (a1:fu):Option (FT×Unit):=(if decide (a1.1=(1:Int))=true then ((u6 n a0 a1).bind fun r1=>some (r1.1,())) else ((rF n a0 a1.2.1).bind fun r2=>(if decide (r2.1<(0:Int))=true then ((dV n (4:Int)).bind fun r3=>some (r3.1,())) else ((j4 n a0).bind fun r4=>(if aI r2.1 r4.1.2.1.length then (if decide (a1.1=(2:Int))=true then (if 0≤r2.1∧r2.1≤(r4.1.2.1.length:Int) then (if (([]:List dP).length+(r4.1.2.1.take r2.1.toNat).length) * 56≤140737488355328 then (if 0≤(IntKind.i64.wrap (r2.1+(1:Int)))∧(IntKind.i64.wrap (r2.1+(1:Int)))≤(r4.1.2.1.length:Int) then (if ((([]:List dP)++(r4.1.2.1.take r2.1.toNat)).length+(r4.1.2.1.drop (IntKind.i64.wrap (r2.1+(1:Int))).toNat).length) * 56≤140737488355328 then some (((0:Int),([]:List Int),(r4.1.1,(([]:List dP)++(r4.1.2.1.take r2.1.toNat))++(r4.1.2.1.drop (IntKind.i64.wrap (r2.1+(1:Int))).toNat),r4.1.2.2),()),()) else none) else none) else none) else none) else (if decide (a1.1=(3:Int))=true then (if decide (((((((r4.1.2.1.getD r2.1.toNat dD).2).2).2).1).length:Int)≥(6:Int))=true then ((dV n (10:Int)).bind fun r5=>some (r5.1,())) else (if decide (((((r4.1.2.1.getD r2.1.toNat dD).2).2).1)≥(1000:Int))=true then ((dV n (10:Int)).bind fun r6=>some (r6.1,())) else ((mH n (r4.1.2.1.getD r2.1.toNat dD) ((0:Int),a1.2.2.2.2.2.1,a1.2.2.2.2.2.2.1,a1.2.2.2.2.2.2.2.1,())).bind fun r7=>some (((0:Int),[r7.1],(r4.1.1,r4.1.2.1.set r2.1.toNat r7.2.1,r4.1.2.2),()),())))) else (if decide (a1.1=(4:Int))=true then ((uY n (r4.1.2.1.getD r2.1.toNat dD) a1).bind fun r8=>some (((0:Int),r8.1,(r4.1.1,r4.1.2.1.set r2.1.toNat r8.2.1,r4.1.2.2),()),())) else (if decide (a1.1=(7:Int))=true then ((fQ n (r4.1.2.1.getD r2.1.toNat dD) ([]:List Int) (8:Int)).bind fun r9=>(rounds (fun L10 (v10:Int×FT×FT×(List rz)×Unit)=>(if decide (v10.1<(v10.2.2.2.1.length:Int))=true then (if aI v10.1 v10.2.2.2.1.length then (if (v10.2.2.1.2.1.length+[(v10.2.2.2.1.getD v10.1.toNat ku).1].length) * 8≤140737488355328 then L10 (IntKind.i64.wrap (v10.1+(1:Int)),v10.2.1,(v10.2.2.1.1,v10.2.2.1.2.1++[(v10.2.2.2.1.getD v10.1.toNat ku).1],v10.2.2.1.2.2),v10.2.2.2.1,()) else none) else none) else some (v10.2.2.1,()))) n ((0:Int),acA,((0:Int),([]:List Int),(r4.1.1,r4.1.2.1.set r2.1.toNat r9.2.1,r4.1.2.2),()),r9.1,()))) else ((sP n r4.1 r2.1 a1).bind fun Iw=>(if (!decide (Iw.2.1=(0:Int)))=true then ((dV n Iw.2.1).bind fun Ko=>some (Ko.1,())) else some (((0:Int),Iw.1,Iw.2.2.1,()),()))))))) else none)))))
def abw:Entry:=⟨155,[.val qm [], .ro gH],[.val M7 [] []],fun n c=>sO n c.1 c.2.1⟩
def aez:Hint:=⟨0,[34,123,132],[(1,[4,6,9,10],[130,194,3682])],[],[(182,some 20,abr),(183,some 25,VT),(153,some 28,Hq),(61,some 30,TT),(153,some 88,Hq),(184,some 103,Y5),(185,some 110,abu),(186,some 115,TU),(187,some 45,abv),(153,some 51,Hq)],[],[],[],[]⟩
theorem aia:gQ T aez Tryz.f155 abw:=by intro n c; kernel_rfl
theorem ajt [Fr] (n:Nat):ak Tryz.prog n abw:=aj mixed aK Tryz.func155 (by kernel_rfl) (hi:=aez) (aa (ajp n) (aa (ach n) (aa (KY n) (aa (Zf n) (aa (KY n) (aa (afP n) (aa (ajr n) (aa (Zg n) (aa (ajs n) (aa (KY n) aD)))))))))) aia
def sN (n:Nat) (a0:fI) (a1:fu):Option (FT×Unit):=((jv n a0).bind fun r1=>(if (!decide (r1.1=(0:Int)))=true then ((dV n r1.1).bind fun r2=>some (r2.1,())) else ((oU n a1).bind fun r3=>(if (!decide (r3.1=(0:Int)))=true then ((dV n r3.1).bind fun r4=>some (r4.1,())) else ((sO n a0 a1).bind fun r5=>some (r5.1,()))))))
def abx:Entry:=⟨112,[.val qm [], .val gH []],[.val M7 [] []],fun n c=>sN n c.1 c.2.1⟩
def aeA:Hint:=⟨0,[],[],[],[(114,some 7,E_4),(153,some 11,Hq),(154,some 12,YZ),(153,some 16,Hq),(155,some 18,abw)],[],[],[],[]⟩
theorem aib:gQ T aeA Tryz.f112 abx:=by intro n c; kernel_rfl
theorem aju [Fr] (n:Nat):ak Tryz.prog n abx:=aj mixed aK Tryz.func112 (by kernel_rfl) (hi:=aeA) (aa (K_4 n) (aa (KY n) (aa (afJ n) (aa (KY n) (aa (ajt n) aD))))) aib
def nD (n:Nat) (a0:fI) (a1:List fu):Option (FT×Unit):=(if decide ((a1.length:Int)>(60:Int))=true then ((dV n (2:Int)).bind fun r1=>some (r1.1,())) else ((jv n a0).bind fun r2=>(if (!decide (r2.1=(0:Int)))=true then ((dV n r2.1).bind fun r3=>some (r3.1,())) else ((j4 n a0).bind fun r4=>(rounds (fun L5 (v5:(List fu)×Int×FT×FT×Unit)=>(if decide (v5.2.1<(v5.1.length:Int))=true then (if aI v5.2.1 v5.1.length then ((sN n v5.2.2.2.1.2.2.1 (v5.1.getD v5.2.1.toNat vD)).bind fun r6=>(if (!decide (r6.1.1=(0:Int)))=true then ((dV n r6.1.1).bind fun r7=>some (r7.1,())) else L5 (v5.1,IntKind.i64.wrap (v5.2.1+(1:Int)),v5.2.2.1,(v5.2.2.2.1.1,v5.2.2.2.1.2.1,r6.1.2.2.1,v5.2.2.2.1.2.2.2),()))) else none) else some (v5.2.2.2.1,()))) n (a1,(0:Int),acA,((0:Int),([]:List Int),r4.1,()),()))))))
def aby:Entry:=⟨115,[.val qm [], .val (.sl 48 gH) []],[.val M7 [] []],fun n c=>nD n c.1 c.2.1⟩
def aeB:Hint:=⟨0,[43],[(0,[1,4,6,7],[130,194])],[(1000194,[5,100,103])],[(153,some 12,Hq),(114,some 13,E_4),(153,some 17,Hq),(61,some 19,TT),(112,some 33,abx),(153,some 39,Hq)],[],[],[],[]⟩
theorem aic:gQ T aeB Tryz.f115 aby:=by intro n c; kernel_rfl
theorem ajv [Fr] (n:Nat):ak Tryz.prog n aby:=aj mixed aK Tryz.func115 (by kernel_rfl) (hi:=aeB) (aa (KY n) (aa (K_4 n) (aa (KY n) (aa (Zf n) (aa (aju n) (aa (KY n) aD)))))) aic
def jU (n:Nat) (a0:rz) (a1:rz):Option (Bool×Unit):=(if decide (a0.1=a1.1)=true then (if decide (a0.2.1=a1.2.1)=true then (if decide (a0.2.2.1=a1.2.2.1)=true then some (decide (a0.2.2.2.1=a1.2.2.2.1),()) else some (false,())) else some (false,())) else some (false,()))
def abz:Entry:=⟨190,[.ro zw, .ro zw],[.val .bool [] []],fun n c=>jU n c.1 c.2.1⟩
def aeC:Hint:=⟨0,[],[],[],[],[],[],[],[]⟩
theorem aid:gQ T aeC Tryz.f190 abz:=by intro n c; kernel_rfl
theorem ajw [Fr] (n:Nat):ak Tryz.prog n abz:=aj mixed aK Tryz.func190 (by kernel_rfl) (hi:=aeC) aD aid
def pR (n:Nat) (a0:dP) (a1:dP):Option (Bool×Unit):=(if (!decide (a0.1=a1.1))=true then some (false,()) else (if (!decide (a0.2.1=a1.2.1))=true then some (false,()) else (if (!decide (a0.2.2.1=a1.2.2.1))=true then some (false,()) else (if (!decide ((a0.2.2.2.1.length:Int)=(a1.2.2.2.1.length:Int)))=true then some (false,()) else (rounds (fun L1 (v1:dP×dP×Int×Unit)=>(if decide (v1.2.2.1<(v1.1.2.2.2.1.length:Int))=true then (if aI v1.2.2.1 v1.1.2.2.2.1.length then (if aI v1.2.2.1 v1.2.1.2.2.2.1.length then ((jU n (v1.1.2.2.2.1.getD v1.2.2.1.toNat ku) (v1.2.1.2.2.2.1.getD v1.2.2.1.toNat ku)).bind fun r2=>(if (!r2.1)=true then some (false,()) else L1 (v1.1,v1.2.1,IntKind.i64.wrap (v1.2.2.1+(1:Int)),()))) else none) else none) else some (true,()))) n (a0,a1,(0:Int),()))))))
def abA:Entry:=⟨158,[.ro nG, .ro nG],[.val .bool [] []],fun n c=>pR n c.1 c.2.1⟩
def aeD:Hint:=⟨0,[],[(0,[0,1,5],[])],[],[(190,some 71,abz)],[],[],[],[]⟩
theorem aie:gQ T aeD Tryz.f158 abA:=by intro n c; kernel_rfl
theorem ajx [Fr] (n:Nat):ak Tryz.prog n abA:=aj mixed aK Tryz.func158 (by kernel_rfl) (hi:=aeD) (aa (ajw n) aD) aie
def uX (n:Nat) (a0:fI) (a1:fI):Option (Bool×Unit):=(if (!decide (a0.1=a1.1))=true then some (false,()) else (if (!decide ((a0.2.1.length:Int)=(a1.2.1.length:Int)))=true then some (false,()) else (rounds (fun L1 (v1:fI×fI×Int×Unit)=>(if decide (v1.2.2.1<(v1.1.2.1.length:Int))=true then (if aI v1.2.2.1 v1.1.2.1.length then (if aI v1.2.2.1 v1.2.1.2.1.length then ((pR n (v1.1.2.1.getD v1.2.2.1.toNat dD) (v1.2.1.2.1.getD v1.2.2.1.toNat dD)).bind fun r2=>(if (!r2.1)=true then some (false,()) else L1 (v1.1,v1.2.1,IntKind.i64.wrap (v1.2.2.1+(1:Int)),()))) else none) else none) else some (true,()))) n (a0,a1,(0:Int),()))))
def abB:Entry:=⟨117,[.ro qm, .ro qm],[.val .bool [] []],fun n c=>uX n c.1 c.2.1⟩
def aeE:Hint:=⟨0,[],[(0,[0,1,5],[])],[],[(158,some 49,abA)],[],[],[],[]⟩
theorem aif:gQ T aeE Tryz.f117 abB:=by intro n c; kernel_rfl
theorem ajy [Fr] (n:Nat):ak Tryz.prog n abB:=aj mixed aK Tryz.func117 (by kernel_rfl) (hi:=aeE) (aa (ajx n) aD) aif
def qN (n:Nat) (a0:yR):Option (Int×Unit):=(if decide ((IntKind.i64.wrap ((a0.2.1.length:Int)+(a0.2.2.1.length:Int)))>(8000:Int))=true then some ((2:Int),()) else (if (!a0.1)=true then (if decide ((a0.2.2.1.length:Int)>(0:Int))=true then some ((1:Int),()) else (if (!decide (a0.2.2.2.1.1=(0:Int)))=true then some ((1:Int),()) else (if decide ((a0.2.2.2.1.2.1.length:Int)>(0:Int))=true then some ((1:Int),()) else some ((0:Int),())))) else ((jv n a0.2.2.2.1).bind fun r1=>(if (!decide (r1.1=(0:Int)))=true then some (r1.1,()) else ((qA n a0).bind fun r2=>(if (!r2.2.1)=true then some ((5:Int),()) else ((vT n).bind fun r3=>((nD n r3.1 r2.1).bind fun r4=>(if (!decide (r4.1.1=(0:Int)))=true then some ((9:Int),()) else ((uX n r4.1.2.2.1 a0.2.2.2.1).bind fun r5=>(if (!r5.1)=true then some ((9:Int),()) else some ((0:Int),()))))))))))))
def abC:Entry:=⟨85,[.ro CZ],[.val (.int .i64) [] []],fun n c=>qN n c.1⟩
def aeF:Hint:=⟨0,[],[],[],[(114,some 50,E_4),(60,some 56,Y2),(116,some 61,abp),(115,some 63,aby),(117,some 72,abB)],[],[],[],[]⟩
theorem aih:gQ T aeF Tryz.f85 abC:=by intro n c; kernel_rfl
theorem ajA [Fr] (n:Nat):ak Tryz.prog n abC:=aj mixed aK Tryz.func85 (by kernel_rfl) (hi:=aeF) (aa (K_4 n) (aa (afM n) (aa (ajn n) (aa (ajv n) (aa (ajy n) aD))))) aih
def wE (n:Nat) (a0:yR):Option (Int×Unit):=((qN n a0).bind fun r1=>(if (!decide (r1.1=(0:Int)))=true then some (r1.1,()) else (if (!a0.1)=true then some ((9:Int),()) else some ((0:Int),()))))
def abD:Entry:=⟨42,[.ro CZ],[.val (.int .i64) [] []],fun n c=>wE n c.1⟩
def aeG:Hint:=⟨0,[],[],[],[(85,some 5,abC)],[],[],[],[]⟩
theorem aii:gQ T aeG Tryz.f42 abD:=by intro n c; kernel_rfl
theorem ajB [Fr] (n:Nat):ak Tryz.prog n abD:=aj mixed aK Tryz.func42 (by kernel_rfl) (hi:=aeG) (aa (ajA n) aD) aii
def yP (n:Nat) (a0:Int):Option (I8×Unit):=some ((a0,([]:List Int),af9,()),())
def abE:Entry:=⟨43,[.val (.int .i64) []],[.own M8 [2,5,100,103] [] []],fun n c=>yP n c.1⟩
def aeH:Hint:=⟨0,[],[],[],[],[],[],[],[]⟩
theorem aij:gQ T aeH Tryz.f43 abE:=by intro n c; kernel_rfl
theorem ajC [Fr] (n:Nat):ak Tryz.prog n abE:=aj mixed aK Tryz.func43 (by kernel_rfl) (hi:=aeH) aD aij
def qO (n:Nat) (a0:fu) (a1:fu):Option (Bool×Unit):=(if (!decide (a0.1=(4:Int)))=true then some (false,()) else (if (!decide (a1.1=(4:Int)))=true then some (false,()) else (if (!decide (a0.2.2.2.2.1=(1:Int)))=true then some (false,()) else (if (!decide (a1.2.2.2.2.1=(1:Int)))=true then some (false,()) else (if (!decide (a0.2.1=a1.2.1))=true then some (false,()) else (if (!decide ((a0.2.2.2.1.length:Int)=(a1.2.2.2.1.length:Int)))=true then some (false,()) else (rounds (fun L1 (v1:fu×fu×Int×Unit)=>(if decide (v1.2.2.1<(v1.1.2.2.2.1.length:Int))=true then (if aI v1.2.2.1 v1.1.2.2.2.1.length then (if aI v1.2.2.1 v1.2.1.2.2.2.1.length then (if (!decide ((v1.1.2.2.2.1.getD v1.2.2.1.toNat (0:Int))=(v1.2.1.2.2.2.1.getD v1.2.2.1.toNat (0:Int))))=true then some (false,()) else L1 (v1.1,v1.2.1,IntKind.i64.wrap (v1.2.2.1+(1:Int)),())) else none) else none) else some (true,()))) n (a0,a1,(0:Int),()))))))))
def abF:Entry:=⟨62,[.ro gH, .ro gH],[.val .bool [] []],fun n c=>qO n c.1 c.2.1⟩
def aeI:Hint:=⟨0,[],[(0,[0,1,5],[])],[],[],[],[],[],[]⟩
theorem aik:gQ T aeI Tryz.f62 abF:=by intro n c; kernel_rfl
theorem ajD [Fr] (n:Nat):ak Tryz.prog n abF:=aj mixed aK Tryz.func62 (by kernel_rfl) (hi:=aeI) aD aik
def pQ (n:Nat) (a0:yR):Option (I8×Unit):=((wE n a0).bind fun r1=>(if (!decide (r1.1=(0:Int)))=true then ((yP n r1.1).bind fun r2=>some (r2.1,())) else ((qA n a0).bind fun r3=>((j4 n a0.2.2.2.1).bind fun r4=>(rounds (fun L5 (v5:Int×I8×yR×(List fu)×Unit)=>(if decide (v5.1<(v5.2.2.2.1.length:Int))=true then (if decide ((IntKind.i64.wrap (v5.1+(1:Int)))<(v5.2.2.2.1.length:Int))=true then (if aI v5.1 v5.2.2.2.1.length then (if aI (IntKind.i64.wrap (v5.1+(1:Int))) v5.2.2.2.1.length then ((qO n (v5.2.2.2.1.getD v5.1.toNat vD) (v5.2.2.2.1.getD (IntKind.i64.wrap (v5.1+(1:Int))).toNat vD)).bind fun r6=>(if r6.1=true then L5 (IntKind.i64.wrap (v5.1+(1:Int)),v5.2.1,v5.2.2.1,v5.2.2.2.1,()) else (if aI v5.1 v5.2.2.2.1.length then ((nM n (v5.2.2.2.1.getD v5.1.toNat vD)).bind fun r7=>(if (v5.2.2.1.2.1.length+r7.1.length) * 1≤140737488355328 then L5 (IntKind.i64.wrap (v5.1+(1:Int)),v5.2.1,(v5.2.2.1.1,v5.2.2.1.2.1++r7.1,v5.2.2.1.2.2),v5.2.2.2.1,()) else none)) else none))) else none) else none) else (if aI v5.1 v5.2.2.2.1.length then ((nM n (v5.2.2.2.1.getD v5.1.toNat vD)).bind fun r8=>(if (v5.2.2.1.2.1.length+r8.1.length) * 1≤140737488355328 then L5 (IntKind.i64.wrap (v5.1+(1:Int)),v5.2.1,(v5.2.2.1.1,v5.2.2.1.2.1++r8.1,v5.2.2.1.2.2),v5.2.2.2.1,()) else none)) else none)) else some (((0:Int),([]:List Int),v5.2.2.1,()),()))) n ((0:Int),aga,(true,([]:List Int),([]:List Int),r4.1,()),r3.1,()))))))
def abG:Entry:=⟨18,[.val CZ []],[.own M8 [2,5,100,103] [] []],fun n c=>pQ n c.1⟩
def aeJ:Hint:=⟨0,[43,50],[(0,[2,4,6,7],[66,194,450])],[],[(42,some 8,abD),(43,some 12,abE),(60,some 14,Y2),(61,some 19,TT),(62,some 40,abF),(63,some 47,Y0)],[],[],[],[]⟩
theorem ail:gQ T aeJ Tryz.f18 abG:=by intro n c; kernel_rfl
theorem ajE [Fr] (n:Nat):ak Tryz.prog n abG:=aj mixed aK Tryz.func18 (by kernel_rfl) (hi:=aeJ) (aa (ajB n) (aa (ajC n) (aa (afM n) (aa (Zf n) (aa (ajD n) (aa (afK n) aD)))))) ail
def fq (n:Nat) (a0:Int) (a1:Int) (a2:Int):Option (Bool×Unit):=(if decide (a0≥a1)=true then some (decide (a0≤a2),()) else some (false,()))
def KX:Entry:=⟨49,[.val (.int .i64) [], .val (.int .i64) [], .val (.int .i64) []],[.val .bool [] []],fun n c=>fq n c.1 c.2.1 c.2.2.1⟩
def aeK:Hint:=⟨0,[],[],[],[],[],[],[],[]⟩
theorem aim:gQ T aeK Tryz.f49 KX:=by intro n c; kernel_rfl
theorem Oy [Fr] (n:Nat):ak Tryz.prog n KX:=aj mixed aK Tryz.func49 (by kernel_rfl) (hi:=aeK) aD aim
def mE (n:Nat) (a0:List Int) (a1:Int):Option (Bool×Unit):=(rounds (fun L1 (v1:(List Int)×Int×Int×Int×Unit)=>(if decide (v1.2.2.2.1<v1.2.2.1)=true then (if aI v1.2.2.2.1 v1.1.length then (if decide ((v1.1.getD v1.2.2.2.1.toNat 0)<(97:Int))=true then some (false,()) else (if aI v1.2.2.2.1 v1.1.length then (if decide ((v1.1.getD v1.2.2.2.1.toNat 0)>(122:Int))=true then some (false,()) else L1 (v1.1,v1.2.1,v1.2.2.1,IntKind.i64.wrap (v1.2.2.2.1+(1:Int)),())) else none)) else none) else (if decide ((v1.1.length:Int)≥(1:Int))=true then some (decide ((v1.1.length:Int)≤v1.2.1),()) else some (false,())))) n (a0,a1,(a0.length:Int),(0:Int),()))
def abH:Entry:=⟨171,[.val .str [], .val (.int .i64) []],[.val .bool [] []],fun n c=>mE n c.1 c.2.1⟩
def aeL:Hint:=⟨0,[],[(0,[0,1,7,8],[])],[],[],[],[],[],[]⟩
theorem ain:gQ T aeL Tryz.f171 abH:=by intro n c; kernel_rfl
theorem ajF [Fr] (n:Nat):ak Tryz.prog n abH:=aj mixed aK Tryz.func171 (by kernel_rfl) (hi:=aeL) aD ain
def nL (n:Nat) (a0:List Int):Option (Bool×Unit):=((mE n a0 (8:Int)).bind fun r1=>some (r1.1,()))
def VU:Entry:=⟨134,[.val .str []],[.val .bool [] []],fun n c=>nL n c.1⟩
def aeM:Hint:=⟨0,[],[],[],[(171,some 4,abH)],[],[],[],[]⟩
theorem aio:gQ T aeM Tryz.f134 VU:=by intro n c; kernel_rfl
theorem acj [Fr] (n:Nat):ak Tryz.prog n VU:=aj mixed aK Tryz.func134 (by kernel_rfl) (hi:=aeM) (aa (ajF n) aD) aio
def pK (n:Nat) (a0:Int):Option (Bool×Unit):=((fq n a0 (1:Int) (999:Int)).bind fun r1=>some (r1.1,()))
def Y6:Entry:=⟨172,[.val (.int .i64) []],[.val .bool [] []],fun n c=>pK n c.1⟩
def aeN:Hint:=⟨0,[],[],[],[(49,some 4,KX)],[],[],[],[]⟩
theorem aip:gQ T aeN Tryz.f172 Y6:=by intro n c; kernel_rfl
theorem afQ [Fr] (n:Nat):ak Tryz.prog n Y6:=aj mixed aK Tryz.func172 (by kernel_rfl) (hi:=aeN) (aa (Oy n) aD) aip
def fC (n:Nat) (a0:Int):Option (Bool×Unit):=((fq n a0 (0:Int) (15:Int)).bind fun r1=>some (r1.1,()))
def Y7:Entry:=⟨140,[.val (.int .i64) []],[.val .bool [] []],fun n c=>fC n c.1⟩
def aeO:Hint:=⟨0,[],[],[],[(49,some 4,KX)],[],[],[],[]⟩
theorem aiq:gQ T aeO Tryz.f140 Y7:=by intro n c; kernel_rfl
theorem afR [Fr] (n:Nat):ak Tryz.prog n Y7:=aj mixed aK Tryz.func140 (by kernel_rfl) (hi:=aeO) (aa (Oy n) aD) aiq
def gT (n:Nat) (a0:Int):Option (Bool×Unit):=((fq n a0 (0:Int) (9999:Int)).bind fun r1=>some (r1.1,()))
def Y8:Entry:=⟨141,[.val (.int .i64) []],[.val .bool [] []],fun n c=>gT n c.1⟩
def aeP:Hint:=⟨0,[],[],[],[(49,some 4,KX)],[],[],[],[]⟩
theorem air:gQ T aeP Tryz.f141 Y8:=by intro n c; kernel_rfl
theorem afS [Fr] (n:Nat):ak Tryz.prog n Y8:=aj mixed aK Tryz.func141 (by kernel_rfl) (hi:=aeP) (aa (Oy n) aD) air
def iK (n:Nat) (a0:rz):Option (Int×Unit):=((pK n a0.1).bind fun r1=>(if (!r1.1)=true then some ((3:Int),()) else ((fC n a0.2.1).bind fun r2=>(if (!r2.1)=true then some ((3:Int),()) else ((gT n a0.2.2.1).bind fun r3=>(if (!r3.1)=true then some ((3:Int),()) else (if decide ((a0.2.2.2.1.length:Int)>(400:Int))=true then some ((2:Int),()) else some ((0:Int),()))))))))
def abI:Entry:=⟨135,[.val zw []],[.val (.int .i64) [] []],fun n c=>iK n c.1⟩
def aeQ:Hint:=⟨0,[],[],[],[(172,some 6,Y6),(140,some 11,Y7),(141,some 17,Y8)],[],[],[],[]⟩
theorem ais:gQ T aeQ Tryz.f135 abI:=by intro n c; kernel_rfl
theorem ajG [Fr] (n:Nat):ak Tryz.prog n abI:=aj mixed aK Tryz.func135 (by kernel_rfl) (hi:=aeQ) (aa (afQ n) (aa (afR n) (aa (afS n) aD))) ais
def ny (n:Nat) (a0:dP):Option (Int×Unit):=((nL n a0.1).bind fun r1=>(if (!r1.1)=true then some ((5:Int),()) else ((fq n a0.2.1 (1:Int) (999:Int)).bind fun r2=>(if (!r2.1)=true then some ((3:Int),()) else ((fq n a0.2.2.1 (1:Int) (1000:Int)).bind fun r3=>(if (!r3.1)=true then some ((3:Int),()) else (if decide ((a0.2.2.2.1.length:Int)>(6:Int))=true then some ((2:Int),()) else (rounds (fun L4 (v4:Int×(List rz)×Int×Int×dP×Unit)=>(if decide (v4.2.2.2.1<v4.2.2.1)=true then (if aI v4.2.2.2.1 v4.2.1.length then ((iK n (v4.2.1.getD v4.2.2.2.1.toNat ku)).bind fun r5=>(if (!decide (r5.1=(0:Int)))=true then some (r5.1,()) else (if decide (((v4.2.1.getD v4.2.2.2.1.toNat ku).1)≤v4.1)=true then some ((1:Int),()) else (if decide (((v4.2.1.getD v4.2.2.2.1.toNat ku).1)≥v4.2.2.2.2.1.2.2.1)=true then some ((1:Int),()) else L4 ((v4.2.1.getD v4.2.2.2.1.toNat ku).1,v4.2.1,v4.2.2.1,IntKind.i64.wrap (v4.2.2.2.1+(1:Int)),v4.2.2.2.2.1,()))))) else none) else some ((0:Int),()))) n ((0:Int),a0.2.2.2.1,(a0.2.2.2.1.length:Int),(0:Int),a0,())))))))))
def abJ:Entry:=⟨105,[.val nG []],[.val (.int .i64) [] []],fun n c=>ny n c.1⟩
def aeR:Hint:=⟨0,[],[(1,[1,3,29,30,31],[34])],[],[(134,some 10,VU),(49,some 15,KX),(49,some 20,KX),(135,some 36,abI)],[],[],[],[]⟩
theorem ait:gQ T aeR Tryz.f105 abJ:=by intro n c; kernel_rfl
theorem ajH [Fr] (n:Nat):ak Tryz.prog n abJ:=aj mixed aK Tryz.func105 (by kernel_rfl) (hi:=aeR) (aa (acj n) (aa (Oy n) (aa (Oy n) (aa (ajG n) aD)))) ait
def kE (n:Nat) (a0:dP) (a1:dP):Option (Bool×Unit):=(if decide (a0.1=a1.1)=true then some (true,()) else some (decide (a0.2.1=a1.2.1),()))
def abK:Entry:=⟨107,[.val nG [], .ro nG],[.val .bool [] []],fun n c=>kE n c.1 c.2.1⟩
def aeS:Hint:=⟨0,[],[],[],[],[],[],[],[]⟩
theorem aiu:gQ T aeS Tryz.f107 abK:=by intro n c; kernel_rfl
theorem ajI [Fr] (n:Nat):ak Tryz.prog n abK:=aj mixed aK Tryz.func107 (by kernel_rfl) (hi:=aeS) aD aiu
def aX (n:Nat) (a0:List dP) (Hy:dP):Option (Int×Unit):=(rounds (fun L1 (v1:(List dP)×dP×Int×Int×Unit)=>(if decide (v1.2.2.2.1<v1.2.2.1)=true then (if aI v1.2.2.2.1 v1.1.length then ((kE n (v1.1.getD v1.2.2.2.1.toNat dD) v1.2.1).bind fun r2=>(if r2.1=true then some (v1.2.2.2.1,()) else L1 (v1.1,v1.2.1,v1.2.2.1,IntKind.i64.wrap (v1.2.2.2.1+(1:Int)),()))) else none) else some ((-1:Int),()))) n (a0,Hy,(a0.length:Int),(0:Int),()))
def abL:Entry:=⟨136,[.val (.sl 100 nG) [], .fn 107 [nG]],[.val (.int .i64) [] []],fun n c=>aX n c.1 c.2.1⟩
def aeT:Hint:=⟨0,[],[(0,[0,1,7,8],[])],[],[(107,some 16,abK)],[],[],[],[]⟩
theorem aiv:gQ T aeT Tryz.f136 abL:=by intro n c; kernel_rfl
theorem ajJ [Fr] (n:Nat):ak Tryz.prog n abL:=aj mixed aK Tryz.func136 (by kernel_rfl) (hi:=aeT) (aa (ajI n) aD) aiv
def bB (n:Nat) (a0:List dP) (Hy:dP):Option (Bool×Unit):=((aX n a0 Hy).bind fun r1=>some (decide (r1.1≥(0:Int)),()))
def abM:Entry:=⟨106,[.val (.sl 100 nG) [], .fn 107 [nG]],[.val .bool [] []],fun n c=>bB n c.1 c.2.1⟩
def aeU:Hint:=⟨0,[],[],[],[(136,some 7,abL)],[],[],[],[]⟩
theorem aiw:gQ T aeU Tryz.f106 abM:=by intro n c; kernel_rfl
theorem ajK [Fr] (n:Nat):ak Tryz.prog n abM:=aj mixed aK Tryz.func106 (by kernel_rfl) (hi:=aeU) (aa (ajJ n) aD) aiw
def iw (n:Nat) (a0:fI):Option (Int×Unit):=((fq n a0.1 (1:Int) (1000:Int)).bind fun r1=>(if (!r1.1)=true then some ((3:Int),()) else (if decide ((a0.2.1.length:Int)>(3:Int))=true then some ((2:Int),()) else (rounds (fun L2 (v2:(List dP)×Int×Int×fI×Unit)=>(if decide (v2.2.2.1<v2.2.1)=true then (if aI v2.2.2.1 v2.1.length then ((ny n (v2.1.getD v2.2.2.1.toNat dD)).bind fun r3=>(if (!decide (r3.1=(0:Int)))=true then some (r3.1,()) else (if decide ((((v2.1.getD v2.2.2.1.toNat dD).2).1)≥v2.2.2.2.1.1)=true then some ((9:Int),()) else (if 0≤v2.2.2.1∧v2.2.2.1≤(v2.2.2.2.1.2.1.length:Int) then ((bB n (v2.2.2.2.1.2.1.take v2.2.2.1.toNat) (v2.1.getD v2.2.2.1.toNat dD)).bind fun r4=>(if r4.1=true then some ((6:Int),()) else L2 (v2.1,v2.2.1,IntKind.i64.wrap (v2.2.2.1+(1:Int)),v2.2.2.2.1,()))) else none)))) else none) else some ((0:Int),()))) n (a0.2.1,(a0.2.1.length:Int),(0:Int),a0,())))))
def Y9:Entry:=⟨73,[.val qm []],[.val (.int .i64) [] []],fun n c=>iw n c.1⟩
def aeV:Hint:=⟨0,[],[(1,[1,17,18,19],[34])],[],[(49,some 9,KX),(105,some 25,abJ),(106,some 41,abM)],[],[],[],[]⟩
theorem aix:gQ T aeV Tryz.f73 Y9:=by intro n c; kernel_rfl
theorem afT [Fr] (n:Nat):ak Tryz.prog n Y9:=aj mixed aK Tryz.func73 (by kernel_rfl) (hi:=aeV) (aa (Oy n) (aa (ajH n) (aa (ajK n) aD))) aix
def cB (n:Nat) (a0:List Int):Option (Int×Unit):=some ((a0.length:Int),())
def Ot:Entry:=⟨50,[.val (.sl 5 (.int .u8)) []],[.val (.int .i64) [] []],fun n c=>cB n c.1⟩
def aeW:Hint:=⟨0,[],[],[],[],[],[],[],[]⟩
theorem aiy:gQ T aeW Tryz.f50 Ot:=by intro n c; kernel_rfl
theorem TZ [Fr] (n:Nat):ak Tryz.prog n Ot:=aj mixed aK Tryz.func50 (by kernel_rfl) (hi:=aeW) aD aiy
def eX (n:Nat) (a0:Zt1) (a1:Int):Option ((List Int)×Zt1×Unit):=(if a0.2.1=true then (if a1=a1∧0≤a1∧a1 * 1≤140737488355328 then some (List.replicate a1.toNat (0:Int),(a0.1,true,a0.2.2),()) else none) else ((cB n a0.1).bind fun r1=>(if decide (a1>r1.1)=true then (if a1=a1∧0≤a1∧a1 * 1≤140737488355328 then some (List.replicate a1.toNat (0:Int),(a0.1,true,a0.2.2),()) else none) else (if 0≤a1∧a1≤(a0.1.length:Int) then (if 0≤a1∧a1≤(a0.1.length:Int) then some (a0.1.take a1.toNat,(a0.1.drop a1.toNat,a0.2),()) else none) else none))))
def Qu:Entry:=⟨151,[.rw Ud [] [4294967295] [5], .val (.int .i64) []],[.val (.sl 5 (.int .u8)) [0] []],fun n c=>eX n c.1 c.2.1⟩
def aeX:Hint:=⟨0,[],[],[],[(50,some 16,Ot)],[],[],[],[]⟩
theorem aiz:gQ T aeX Tryz.f151 Qu:=by intro n c; kernel_rfl
theorem Wi [Fr] (n:Nat):ak Tryz.prog n Qu:=aj mixed aK Tryz.func151 (by kernel_rfl) (hi:=aeX) (aa (TZ n) aD) aiz
def gJ (n:Nat) (a0:Zt1):Option (Int×Zt1×Unit):=((eX n a0 (2:Int)).bind fun r1=>(if aI (0:Int) r1.1.length then (if aI (1:Int) r1.1.length then some (IntKind.i64.wrap ((IntKind.i64.wrap ((IntKind.i64.wrap (r1.1.getD (0:Int).toNat (0:Int))) * (256:Int)))+(IntKind.i64.wrap (r1.1.getD (1:Int).toNat (0:Int)))),r1.2.1,()) else none) else none))
def TV:Entry:=⟨149,[.rw Ud [] [4294967295] [5]],[.val (.int .i64) [] []],fun n c=>gJ n c.1⟩
def aeY:Hint:=⟨0,[],[],[],[(151,some 5,Qu)],[],[],[],[]⟩
theorem aiA:gQ T aeY Tryz.f149 TV:=by intro n c; kernel_rfl
theorem Zi [Fr] (n:Nat):ak Tryz.prog n TV:=aj mixed aK Tryz.func149 (by kernel_rfl) (hi:=aeY) (aa (Wi n) aD) aiA
def eT (n:Nat) (a0:Zt1):Option (Int×Zt1×Unit):=((eX n a0 (1:Int)).bind fun r1=>(if aI (0:Int) r1.1.length then some (IntKind.i64.wrap (r1.1.getD (0:Int).toNat (0:Int)),r1.2.1,()) else none))
def Ou:Entry:=⟨150,[.rw Ud [] [4294967295] [5]],[.val (.int .i64) [] []],fun n c=>eT n c.1⟩
def aeZ:Hint:=⟨0,[],[],[],[(151,some 4,Qu)],[],[],[],[]⟩
theorem aiB:gQ T aeZ Tryz.f150 Ou:=by intro n c; kernel_rfl
theorem T9 [Fr] (n:Nat):ak Tryz.prog n Ou:=aj mixed aK Tryz.func150 (by kernel_rfl) (hi:=aeZ) (aa (Wi n) aD) aiB
def nA (n:Nat) (a0:fu):Option (Bool×Unit):=(if decide (a0.1=(5:Int))=true then some (true,()) else some (decide (a0.1=(6:Int)),()))
def VW:Entry:=⟨138,[.val gH []],[.val .bool [] []],fun n c=>nA n c.1⟩
def ae0:Hint:=⟨0,[],[],[],[],[],[],[],[]⟩
theorem aiC:gQ T ae0 Tryz.f138 VW:=by intro n c; kernel_rfl
theorem ack [Fr] (n:Nat):ak Tryz.prog n VW:=aj mixed aK Tryz.func138 (by kernel_rfl) (hi:=ae0) aD aiC
def jR (n:Nat) (a0:fu):Option (Bool×Unit):=((nA n a0).bind fun r1=>(if r1.1=true then some (true,()) else some (decide (a0.1=(4:Int)),())))
def abN:Entry:=⟨173,[.val gH []],[.val .bool [] []],fun n c=>jR n c.1⟩
def ae1:Hint:=⟨0,[],[],[],[(138,some 4,VW)],[],[],[],[]⟩
theorem aiD:gQ T ae1 Tryz.f173 abN:=by intro n c; kernel_rfl
theorem ajM [Fr] (n:Nat):ak Tryz.prog n abN:=aj mixed aK Tryz.func173 (by kernel_rfl) (hi:=ae1) (aa (ack n) aD) aiD
def pJ (n:Nat) (a0:fu):Option (Bool×Unit):=((nA n a0).bind fun r1=>(if r1.1=true then ((jR n a0).bind fun r2=>(if r2.1=true then (if decide (a0.1=(4:Int))=true then (if decide (a0.1=(4:Int))=true then (if decide (a0.1=(3:Int))=true then some (true,()) else (if decide (a0.2.2.2.2.2.2.1=(0:Int))=true then some (decide ((a0.2.2.2.2.2.2.2.1.length:Int)=(0:Int)),()) else some (false,()))) else (if decide (a0.1=(3:Int))=true then (if decide (a0.1=(3:Int))=true then some (true,()) else (if decide (a0.2.2.2.2.2.2.1=(0:Int))=true then some (decide ((a0.2.2.2.2.2.2.2.1.length:Int)=(0:Int)),()) else some (false,()))) else (if decide (a0.2.2.2.2.2.1=(0:Int))=true then (if decide (a0.1=(3:Int))=true then some (true,()) else (if decide (a0.2.2.2.2.2.2.1=(0:Int))=true then some (decide ((a0.2.2.2.2.2.2.2.1.length:Int)=(0:Int)),()) else some (false,()))) else some (false,())))) else (if decide (a0.2.2.2.2.1=(0:Int))=true then (if decide (a0.1=(4:Int))=true then (if decide (a0.1=(3:Int))=true then some (true,()) else (if decide (a0.2.2.2.2.2.2.1=(0:Int))=true then some (decide ((a0.2.2.2.2.2.2.2.1.length:Int)=(0:Int)),()) else some (false,()))) else (if decide (a0.1=(3:Int))=true then (if decide (a0.1=(3:Int))=true then some (true,()) else (if decide (a0.2.2.2.2.2.2.1=(0:Int))=true then some (decide ((a0.2.2.2.2.2.2.2.1.length:Int)=(0:Int)),()) else some (false,()))) else (if decide (a0.2.2.2.2.2.1=(0:Int))=true then (if decide (a0.1=(3:Int))=true then some (true,()) else (if decide (a0.2.2.2.2.2.2.1=(0:Int))=true then some (decide ((a0.2.2.2.2.2.2.2.1.length:Int)=(0:Int)),()) else some (false,()))) else some (false,())))) else some (false,()))) else (if decide ((a0.2.2.2.1.length:Int)=(0:Int))=true then (if decide (a0.1=(4:Int))=true then (if decide (a0.1=(4:Int))=true then (if decide (a0.1=(3:Int))=true then some (true,()) else (if decide (a0.2.2.2.2.2.2.1=(0:Int))=true then some (decide ((a0.2.2.2.2.2.2.2.1.length:Int)=(0:Int)),()) else some (false,()))) else (if decide (a0.1=(3:Int))=true then (if decide (a0.1=(3:Int))=true then some (true,()) else (if decide (a0.2.2.2.2.2.2.1=(0:Int))=true then some (decide ((a0.2.2.2.2.2.2.2.1.length:Int)=(0:Int)),()) else some (false,()))) else (if decide (a0.2.2.2.2.2.1=(0:Int))=true then (if decide (a0.1=(3:Int))=true then some (true,()) else (if decide (a0.2.2.2.2.2.2.1=(0:Int))=true then some (decide ((a0.2.2.2.2.2.2.2.1.length:Int)=(0:Int)),()) else some (false,()))) else some (false,())))) else (if decide (a0.2.2.2.2.1=(0:Int))=true then (if decide (a0.1=(4:Int))=true then (if decide (a0.1=(3:Int))=true then some (true,()) else (if decide (a0.2.2.2.2.2.2.1=(0:Int))=true then some (decide ((a0.2.2.2.2.2.2.2.1.length:Int)=(0:Int)),()) else some (false,()))) else (if decide (a0.1=(3:Int))=true then (if decide (a0.1=(3:Int))=true then some (true,()) else (if decide (a0.2.2.2.2.2.2.1=(0:Int))=true then some (decide ((a0.2.2.2.2.2.2.2.1.length:Int)=(0:Int)),()) else some (false,()))) else (if decide (a0.2.2.2.2.2.1=(0:Int))=true then (if decide (a0.1=(3:Int))=true then some (true,()) else (if decide (a0.2.2.2.2.2.2.1=(0:Int))=true then some (decide ((a0.2.2.2.2.2.2.2.1.length:Int)=(0:Int)),()) else some (false,()))) else some (false,())))) else some (false,()))) else some (false,())))) else (if decide (a0.2.2.1=([]:List Int))=true then ((jR n a0).bind fun r3=>(if r3.1=true then (if decide (a0.1=(4:Int))=true then (if decide (a0.1=(4:Int))=true then (if decide (a0.1=(3:Int))=true then some (true,()) else (if decide (a0.2.2.2.2.2.2.1=(0:Int))=true then some (decide ((a0.2.2.2.2.2.2.2.1.length:Int)=(0:Int)),()) else some (false,()))) else (if decide (a0.1=(3:Int))=true then (if decide (a0.1=(3:Int))=true then some (true,()) else (if decide (a0.2.2.2.2.2.2.1=(0:Int))=true then some (decide ((a0.2.2.2.2.2.2.2.1.length:Int)=(0:Int)),()) else some (false,()))) else (if decide (a0.2.2.2.2.2.1=(0:Int))=true then (if decide (a0.1=(3:Int))=true then some (true,()) else (if decide (a0.2.2.2.2.2.2.1=(0:Int))=true then some (decide ((a0.2.2.2.2.2.2.2.1.length:Int)=(0:Int)),()) else some (false,()))) else some (false,())))) else (if decide (a0.2.2.2.2.1=(0:Int))=true then (if decide (a0.1=(4:Int))=true then (if decide (a0.1=(3:Int))=true then some (true,()) else (if decide (a0.2.2.2.2.2.2.1=(0:Int))=true then some (decide ((a0.2.2.2.2.2.2.2.1.length:Int)=(0:Int)),()) else some (false,()))) else (if decide (a0.1=(3:Int))=true then (if decide (a0.1=(3:Int))=true then some (true,()) else (if decide (a0.2.2.2.2.2.2.1=(0:Int))=true then some (decide ((a0.2.2.2.2.2.2.2.1.length:Int)=(0:Int)),()) else some (false,()))) else (if decide (a0.2.2.2.2.2.1=(0:Int))=true then (if decide (a0.1=(3:Int))=true then some (true,()) else (if decide (a0.2.2.2.2.2.2.1=(0:Int))=true then some (decide ((a0.2.2.2.2.2.2.2.1.length:Int)=(0:Int)),()) else some (false,()))) else some (false,())))) else some (false,()))) else (if decide ((a0.2.2.2.1.length:Int)=(0:Int))=true then (if decide (a0.1=(4:Int))=true then (if decide (a0.1=(4:Int))=true then (if decide (a0.1=(3:Int))=true then some (true,()) else (if decide (a0.2.2.2.2.2.2.1=(0:Int))=true then some (decide ((a0.2.2.2.2.2.2.2.1.length:Int)=(0:Int)),()) else some (false,()))) else (if decide (a0.1=(3:Int))=true then (if decide (a0.1=(3:Int))=true then some (true,()) else (if decide (a0.2.2.2.2.2.2.1=(0:Int))=true then some (decide ((a0.2.2.2.2.2.2.2.1.length:Int)=(0:Int)),()) else some (false,()))) else (if decide (a0.2.2.2.2.2.1=(0:Int))=true then (if decide (a0.1=(3:Int))=true then some (true,()) else (if decide (a0.2.2.2.2.2.2.1=(0:Int))=true then some (decide ((a0.2.2.2.2.2.2.2.1.length:Int)=(0:Int)),()) else some (false,()))) else some (false,())))) else (if decide (a0.2.2.2.2.1=(0:Int))=true then (if decide (a0.1=(4:Int))=true then (if decide (a0.1=(3:Int))=true then some (true,()) else (if decide (a0.2.2.2.2.2.2.1=(0:Int))=true then some (decide ((a0.2.2.2.2.2.2.2.1.length:Int)=(0:Int)),()) else some (false,()))) else (if decide (a0.1=(3:Int))=true then (if decide (a0.1=(3:Int))=true then some (true,()) else (if decide (a0.2.2.2.2.2.2.1=(0:Int))=true then some (decide ((a0.2.2.2.2.2.2.2.1.length:Int)=(0:Int)),()) else some (false,()))) else (if decide (a0.2.2.2.2.2.1=(0:Int))=true then (if decide (a0.1=(3:Int))=true then some (true,()) else (if decide (a0.2.2.2.2.2.2.1=(0:Int))=true then some (decide ((a0.2.2.2.2.2.2.2.1.length:Int)=(0:Int)),()) else some (false,()))) else some (false,())))) else some (false,()))) else some (false,())))) else some (false,()))))
def abO:Entry:=⟨137,[.val gH []],[.val .bool [] []],fun n c=>pJ n c.1⟩
def ae2:Hint:=⟨0,[],[],[],[(138,some 12,VW),(173,some 20,abN)],[],[],[],[]⟩
theorem aiE:gQ T ae2 Tryz.f137 abO:=by intro n c; kernel_rfl
theorem ajN [Fr] (n:Nat):ak Tryz.prog n abO:=aj mixed aK Tryz.func137 (by kernel_rfl) (hi:=ae2) (aa (ack n) (aa (ajM n) aD)) aiE
def oO (n:Nat) (a0:List Int):Option (Bool×Unit):=(rounds (fun L1 (v1:(List Int)×(List Int)×Int×Int×Unit)=>(if decide (v1.2.2.2.1<v1.2.2.1)=true then (if aI v1.2.2.2.1 v1.2.1.length then ((pK n (v1.2.1.getD v1.2.2.2.1.toNat (0:Int))).bind fun r2=>(if (!r2.1)=true then some (false,()) else (if decide (v1.2.2.2.1>(0:Int))=true then (if aI (IntKind.i64.wrap (v1.2.2.2.1 - (1:Int))) v1.1.length then (if decide ((v1.1.getD (IntKind.i64.wrap (v1.2.2.2.1 - (1:Int))).toNat (0:Int))≥(v1.2.1.getD v1.2.2.2.1.toNat (0:Int)))=true then some (false,()) else L1 (v1.1,v1.2.1,v1.2.2.1,IntKind.i64.wrap (v1.2.2.2.1+(1:Int)),())) else none) else L1 (v1.1,v1.2.1,v1.2.2.1,IntKind.i64.wrap (v1.2.2.2.1+(1:Int)),())))) else none) else some (true,()))) n (a0,a0,(a0.length:Int),(0:Int),()))
def abP:Entry:=⟨139,[.val (.sl 2 (.int .i64)) []],[.val .bool [] []],fun n c=>oO n c.1⟩
def ae3:Hint:=⟨0,[],[(0,[0,5,6,7],[])],[],[(172,some 13,Y6)],[],[],[],[]⟩
theorem aiF:gQ T ae3 Tryz.f139 abP:=by intro n c; kernel_rfl
theorem ajO [Fr] (n:Nat):ak Tryz.prog n abP:=aj mixed aK Tryz.func139 (by kernel_rfl) (hi:=ae3) (aa (afQ n) aD) aiF
def oN (n:Nat) (a0:fu):Option (Int×Unit):=((fq n a0.1 (1:Int) (7:Int)).bind fun r1=>(if (!r1.1)=true then some ((1:Int),()) else ((pJ n a0).bind fun r2=>(if (!r2.1)=true then some ((1:Int),()) else ((nL n a0.2.1).bind fun r3=>(if (!r3.1)=true then some ((5:Int),()) else ((nA n a0).bind fun r4=>(if r4.1=true then ((nL n a0.2.2.1).bind fun r5=>(if (!r5.1)=true then some ((5:Int),()) else (if decide ((a0.2.2.2.1.length:Int)>(6:Int))=true then some ((2:Int),()) else ((oO n a0.2.2.2.1).bind fun r6=>(if (!r6.1)=true then some ((3:Int),()) else (if decide (a0.1=(4:Int))=true then ((fq n a0.2.2.2.2.1 (1:Int) (3:Int)).bind fun r7=>(if (!r7.1)=true then some ((3:Int),()) else ((fC n a0.2.2.2.2.2.1).bind fun r8=>(if (!r8.1)=true then some ((3:Int),()) else ((gT n a0.2.2.2.2.2.2.1).bind fun r9=>(if (!r9.1)=true then some ((3:Int),()) else (if decide ((a0.2.2.2.2.2.2.2.1.length:Int)>(400:Int))=true then some ((2:Int),()) else some ((0:Int),())))))))) else ((fC n a0.2.2.2.2.2.1).bind fun NV=>(if (!NV.1)=true then some ((3:Int),()) else ((gT n a0.2.2.2.2.2.2.1).bind fun Iw=>(if (!Iw.1)=true then some ((3:Int),()) else (if decide ((a0.2.2.2.2.2.2.2.1.length:Int)>(400:Int))=true then some ((2:Int),()) else some ((0:Int),())))))))))))) else (if decide ((a0.2.2.2.1.length:Int)>(6:Int))=true then some ((2:Int),()) else ((oO n a0.2.2.2.1).bind fun Ko=>(if (!Ko.1)=true then some ((3:Int),()) else (if decide (a0.1=(4:Int))=true then ((fq n a0.2.2.2.2.1 (1:Int) (3:Int)).bind fun Ol=>(if (!Ol.1)=true then some ((3:Int),()) else ((fC n a0.2.2.2.2.2.1).bind fun Yr=>(if (!Yr.1)=true then some ((3:Int),()) else ((gT n a0.2.2.2.2.2.2.1).bind fun TF=>(if (!TF.1)=true then some ((3:Int),()) else (if decide ((a0.2.2.2.2.2.2.2.1.length:Int)>(400:Int))=true then some ((2:Int),()) else some ((0:Int),())))))))) else ((fC n a0.2.2.2.2.2.1).bind fun r16=>(if (!r16.1)=true then some ((3:Int),()) else ((gT n a0.2.2.2.2.2.2.1).bind fun r17=>(if (!r17.1)=true then some ((3:Int),()) else (if decide ((a0.2.2.2.2.2.2.2.1.length:Int)>(400:Int))=true then some ((2:Int),()) else some ((0:Int),()))))))))))))))))))
def Za:Entry:=⟨108,[.val gH []],[.val (.int .i64) [] []],fun n c=>oN n c.1⟩
def ae4:Hint:=⟨0,[],[],[],[(49,some 6,KX),(137,some 10,abO),(134,some 16,VU),(138,some 20,VW),(134,some 24,VU),(139,some 36,abP),(49,some 45,KX),(140,some 52,Y7),(141,some 58,Y8)],[],[],[],[]⟩
theorem aiG:gQ T ae4 Tryz.f108 Za:=by intro n c; kernel_rfl
theorem afU [Fr] (n:Nat):ak Tryz.prog n Za:=aj mixed aK Tryz.func108 (by kernel_rfl) (hi:=ae4) (aa (Oy n) (aa (ajN n) (aa (acj n) (aa (ack n) (aa (acj n) (aa (ajO n) (aa (Oy n) (aa (afR n) (aa (afS n) aD))))))))) aiG
def oQ (n:Nat) (a0:Int):Option ((List Int)×Unit):=(if (256:Int)≠0 then (if (256:Int)≠0 then some ([IntKind.u8.wrap (IntKind.i64.wrap (a0.tdiv (256:Int))),IntKind.u8.wrap (a0.tmod (256:Int))],()) else none) else none)
def Qv:Entry:=⟨125,[.val (.int .i64) []],[.own (.sl 5 (.int .u8)) [5] [] []],fun n c=>oQ n c.1⟩
def ae5:Hint:=⟨0,[],[],[],[],[],[],[],[]⟩
theorem aiH:gQ T ae5 Tryz.f125 Qv:=by intro n c; kernel_rfl
theorem Wj [Fr] (n:Nat):ak Tryz.prog n Qv:=aj mixed aK Tryz.func125 (by kernel_rfl) (hi:=ae5) aD aiH
def wD (n:Nat) (a0:List Int):Option (Int×Unit):=(rounds (fun L1 (v1:Int×(List Int)×Int×Int×Unit)=>(if decide (v1.2.2.2.1<v1.2.2.1)=true then (if aI v1.2.2.2.1 v1.2.1.length then (if (65521:Int)≠0 then L1 ((IntKind.i64.wrap ((IntKind.i64.wrap (v1.1 * (31:Int)))+(IntKind.i64.wrap (v1.2.1.getD v1.2.2.2.1.toNat (0:Int))))).tmod (65521:Int),v1.2.1,v1.2.2.1,IntKind.i64.wrap (v1.2.2.2.1+(1:Int)),()) else none) else none) else some (v1.1,()))) n ((1:Int),a0,(a0.length:Int),(0:Int),()))
def abQ:Entry:=⟨126,[.val (.sl 5 (.int .u8)) []],[.val (.int .i64) [] []],fun n c=>wD n c.1⟩
def ae6:Hint:=⟨0,[],[(0,[3,6,7,8],[])],[],[],[],[],[],[]⟩
theorem aiI:gQ T ae6 Tryz.f126 abQ:=by intro n c; kernel_rfl
theorem ajP [Fr] (n:Nat):ak Tryz.prog n abQ:=aj mixed aK Tryz.func126 (by kernel_rfl) (hi:=ae6) aD aiI
def qy (n:Nat) (a0:fu):Option ((List Int)×Unit):=(if ([IntKind.u8.wrap a0.1,IntKind.u8.wrap (a0.2.1.length:Int)].length+a0.2.1.length) * 1≤140737488355328 then (if (([IntKind.u8.wrap a0.1,IntKind.u8.wrap (a0.2.1.length:Int)]++a0.2.1).length+[IntKind.u8.wrap (a0.2.2.1.length:Int)].length) * 1≤140737488355328 then (if ((([IntKind.u8.wrap a0.1,IntKind.u8.wrap (a0.2.1.length:Int)]++a0.2.1)++[IntKind.u8.wrap (a0.2.2.1.length:Int)]).length+a0.2.2.1.length) * 1≤140737488355328 then (if (((([IntKind.u8.wrap a0.1,IntKind.u8.wrap (a0.2.1.length:Int)]++a0.2.1)++[IntKind.u8.wrap (a0.2.2.1.length:Int)])++a0.2.2.1).length+[IntKind.u8.wrap (a0.2.2.2.1.length:Int)].length) * 1≤140737488355328 then (rounds (fun L1 (v1:(List Int)×Int×Int×fu×(List Int)×Unit)=>(if decide (v1.2.2.1<v1.2.1)=true then (if aI v1.2.2.1 v1.1.length then ((oQ n (v1.1.getD v1.2.2.1.toNat (0:Int))).bind fun r2=>(if (v1.2.2.2.2.1.length+r2.1.length) * 1≤140737488355328 then L1 (v1.1,v1.2.1,IntKind.i64.wrap (v1.2.2.1+(1:Int)),v1.2.2.2.1,v1.2.2.2.2.1++r2.1,()) else none)) else none) else (if (v1.2.2.2.2.1.length+[IntKind.u8.wrap v1.2.2.2.1.2.2.2.2.1,IntKind.u8.wrap v1.2.2.2.1.2.2.2.2.2.1].length) * 1≤140737488355328 then ((oQ n v1.2.2.2.1.2.2.2.2.2.2.1).bind fun r3=>(if ((v1.2.2.2.2.1++[IntKind.u8.wrap v1.2.2.2.1.2.2.2.2.1,IntKind.u8.wrap v1.2.2.2.1.2.2.2.2.2.1]).length+r3.1.length) * 1≤140737488355328 then ((cB n v1.2.2.2.1.2.2.2.2.2.2.2.1).bind fun r4=>((oQ n r4.1).bind fun r5=>(if (((v1.2.2.2.2.1++[IntKind.u8.wrap v1.2.2.2.1.2.2.2.2.1,IntKind.u8.wrap v1.2.2.2.1.2.2.2.2.2.1])++r3.1).length+r5.1.length) * 1≤140737488355328 then (if ((((v1.2.2.2.2.1++[IntKind.u8.wrap v1.2.2.2.1.2.2.2.2.1,IntKind.u8.wrap v1.2.2.2.1.2.2.2.2.2.1])++r3.1)++r5.1).length+v1.2.2.2.1.2.2.2.2.2.2.2.1.length) * 1≤140737488355328 then ((cB n ((((v1.2.2.2.2.1++[IntKind.u8.wrap v1.2.2.2.1.2.2.2.2.1,IntKind.u8.wrap v1.2.2.2.1.2.2.2.2.2.1])++r3.1)++r5.1)++v1.2.2.2.1.2.2.2.2.2.2.2.1)).bind fun r6=>((oQ n (IntKind.i64.wrap (r6.1+(4:Int)))).bind fun r7=>(if (r7.1.length+((((v1.2.2.2.2.1++[IntKind.u8.wrap v1.2.2.2.1.2.2.2.2.1,IntKind.u8.wrap v1.2.2.2.1.2.2.2.2.2.1])++r3.1)++r5.1)++v1.2.2.2.1.2.2.2.2.2.2.2.1).length) * 1≤140737488355328 then ((wD n (r7.1++((((v1.2.2.2.2.1++[IntKind.u8.wrap v1.2.2.2.1.2.2.2.2.1,IntKind.u8.wrap v1.2.2.2.1.2.2.2.2.2.1])++r3.1)++r5.1)++v1.2.2.2.1.2.2.2.2.2.2.2.1))).bind fun r8=>((oQ n r8.1).bind fun r9=>(if ((r7.1++((((v1.2.2.2.2.1++[IntKind.u8.wrap v1.2.2.2.1.2.2.2.2.1,IntKind.u8.wrap v1.2.2.2.1.2.2.2.2.2.1])++r3.1)++r5.1)++v1.2.2.2.1.2.2.2.2.2.2.2.1)).length+r9.1.length) * 1≤140737488355328 then some ((r7.1++((((v1.2.2.2.2.1++[IntKind.u8.wrap v1.2.2.2.1.2.2.2.2.1,IntKind.u8.wrap v1.2.2.2.1.2.2.2.2.2.1])++r3.1)++r5.1)++v1.2.2.2.1.2.2.2.2.2.2.2.1))++r9.1,()) else none))) else none))) else none) else none))) else none)) else none))) n (a0.2.2.2.1,(a0.2.2.2.1.length:Int),(0:Int),a0,((([IntKind.u8.wrap a0.1,IntKind.u8.wrap (a0.2.1.length:Int)]++a0.2.1)++[IntKind.u8.wrap (a0.2.2.1.length:Int)])++a0.2.2.1)++[IntKind.u8.wrap (a0.2.2.2.1.length:Int)],())) else none) else none) else none) else none)
def Zb:Entry:=⟨97,[.val gH []],[.own (.sl 5 (.int .u8)) [5] [] []],fun n c=>qy n c.1⟩
def ae7:Hint:=⟨0,[],[(0,[1,3,37,38,39],[34,450])],[],[(125,some 45,Qv),(125,some 60,Qv),(50,some 64,Ot),(125,some 65,Qv),(50,some 72,Ot),(125,some 74,Qv),(126,some 79,abQ),(125,some 80,Qv)],[],[],[],[]⟩
theorem aiJ:gQ T ae7 Tryz.f97 Zb:=by intro n c; kernel_rfl
theorem afV [Fr] (n:Nat):ak Tryz.prog n Zb:=aj mixed aK Tryz.func97 (by kernel_rfl) (hi:=ae7) (aa (Wj n) (aa (Wj n) (aa (TZ n) (aa (Wj n) (aa (TZ n) (aa (Wj n) (aa (ajP n) (aa (Wj n) aD)))))))) aiJ
def yO (n:Nat) (a0:List Int) (a1:List Int):Option (Bool×Unit):=some (decide (a0=a1),())
def abR:Entry:=⟨152,[.val (.sl 5 (.int .u8)) [], .val (.sl 5 (.int .u8)) []],[.val .bool [] []],fun n c=>yO n c.1 c.2.1⟩
def ae8:Hint:=⟨0,[],[],[],[],[],[],[],[]⟩
theorem aiK:gQ T ae8 Tryz.f152 abR:=by intro n c; kernel_rfl
theorem ajQ [Fr] (n:Nat):ak Tryz.prog n abR:=aj mixed aK Tryz.func152 (by kernel_rfl) (hi:=ae8) aD aiK
def qz (n:Nat) (a0:List Int):Option (fu×Int×Unit):=((gJ n (a0,false,())).bind fun r1=>(if r1.2.1.2.1=true then some (vD,(0:Int),()) else ((cB n a0).bind fun r2=>(if decide (r1.1>r2.1)=true then some (vD,(0:Int),()) else (if 0≤(2:Int)∧(2:Int)≤(if r1.1>(2:Int) then r1.1 else (2:Int))∧(if r1.1>(2:Int) then r1.1 else (2:Int))≤(a0.length:Int) then ((eT n ((a0.take (if r1.1>(2:Int) then r1.1 else (2:Int)).toNat).drop (2:Int).toNat,r1.2.1.2)).bind fun r3=>((eT n r3.2.1).bind fun r4=>((eX n r4.2.1 r4.1).bind fun r5=>((eT n r5.2.1).bind fun r6=>((eX n r6.2.1 r6.1).bind fun r7=>((eT n r7.2.1).bind fun r8=>(rounds (fun L9 (v9:(List Int)×Int×Int×Int×fu×fu×Zt1×Unit)=>(if decide (v9.2.2.2.1<v9.2.2.1)=true then ((gJ n v9.2.2.2.2.2.2.1).bind fun NV=>(if (v9.2.2.2.2.2.1.2.2.2.1.length+[NV.1].length) * 8≤140737488355328 then L9 (v9.1,v9.2.1,v9.2.2.1,IntKind.i64.wrap (v9.2.2.2.1+(1:Int)),v9.2.2.2.2.1,(v9.2.2.2.2.2.1.1,v9.2.2.2.2.2.1.2.1,v9.2.2.2.2.2.1.2.2.1,v9.2.2.2.2.2.1.2.2.2.1++[NV.1],v9.2.2.2.2.2.1.2.2.2.2),NV.2.1,()) else none)) else ((eT n v9.2.2.2.2.2.2.1).bind fun Iw=>((eT n Iw.2.1).bind fun Ko=>((gJ n Ko.2.1).bind fun Ol=>((gJ n Ol.2.1).bind fun Yr=>((eX n Yr.2.1 Yr.1).bind fun TF=>(if (([]:List Int).length+TF.1.length) * 1≤140737488355328 then (if TF.2.1.2.1=true then some (vD,(0:Int),()) else ((oN n (v9.2.2.2.2.2.1.1,v9.2.2.2.2.2.1.2.1,v9.2.2.2.2.2.1.2.2.1,v9.2.2.2.2.2.1.2.2.2.1,Iw.1,Ko.1,Ol.1,([]:List Int)++TF.1,v9.2.2.2.2.2.1.2.2.2.2.2.2.2.2)).bind fun r16=>(if (!decide (r16.1=(0:Int)))=true then some (vD,(0:Int),()) else ((qy n (v9.2.2.2.2.2.1.1,v9.2.2.2.2.2.1.2.1,v9.2.2.2.2.2.1.2.2.1,v9.2.2.2.2.2.1.2.2.2.1,Iw.1,Ko.1,Ol.1,([]:List Int)++TF.1,v9.2.2.2.2.2.1.2.2.2.2.2.2.2.2)).bind fun r17=>(if 0≤v9.2.1∧v9.2.1≤(v9.1.length:Int) then ((yO n r17.1 (v9.1.take v9.2.1.toNat)).bind fun r18=>(if (!r18.1)=true then some (vD,(0:Int),()) else some ((v9.2.2.2.2.2.1.1,v9.2.2.2.2.2.1.2.1,v9.2.2.2.2.2.1.2.2.1,v9.2.2.2.2.2.1.2.2.2.1,Iw.1,Ko.1,Ol.1,([]:List Int)++TF.1,v9.2.2.2.2.2.1.2.2.2.2.2.2.2.2),v9.2.1,()))) else none))))) else none)))))))) n (a0,r1.1,r8.1,(0:Int),vD,(r3.1,r5.1,r7.1,([]:List Int),(0:Int),(0:Int),(0:Int),([]:List Int),()),r8.2.1,())))))))) else none)))))
def abS:Entry:=⟨110,[.val (.sl 5 (.int .u8)) []],[.own gH [2,5] [] [], .val (.int .i64) [] []],fun n c=>qz n c.1⟩
def ae9:Hint:=⟨0,[50,92],[(0,[0,2,4,5,6,46,47],[66,194,290])],[],[(149,some 11,TV),(50,some 19,Ot),(150,some 31,Ou),(150,some 35,Ou),(151,some 36,Qu),(150,some 41,Ou),(151,some 42,Qu),(150,some 46,Ou),(149,some 52,TV),(150,some 58,Ou),(150,some 61,Ou),(149,some 64,TV),(149,some 69,TV),(151,some 70,Qu),(108,some 79,Za),(97,some 84,Zb),(152,some 88,abR)],[],[],[],[]⟩
theorem aiL:gQ T ae9 Tryz.f110 abS:=by intro n c; kernel_rfl
theorem ajS [Fr] (n:Nat):ak Tryz.prog n abS:=aj mixed aK Tryz.func110 (by kernel_rfl) (hi:=ae9) (aa (Zi n) (aa (TZ n) (aa (T9 n) (aa (T9 n) (aa (Wi n) (aa (T9 n) (aa (Wi n) (aa (T9 n) (aa (Zi n) (aa (T9 n) (aa (T9 n) (aa (Zi n) (aa (Zi n) (aa (Wi n) (aa (afU n) (aa (afV n) (aa (ajQ n) aD))))))))))))))))) aiL
def oP (n:Nat) (a0:List Int):Option ((List fu)×Int×Unit):=(rounds (fun L1 (v1:(List Int)×Int×(List fu)×Unit)=>(if 0≤v1.2.1∧v1.2.1≤(v1.1.length:Int) then ((qz n (v1.1.drop v1.2.1.toNat)).bind fun r2=>(if decide (r2.2.1=(0:Int))=true then some (v1.2.2.1,v1.2.1,()) else (if (v1.2.2.1.length+[r2.1].length) * 112≤140737488355328 then L1 (v1.1,IntKind.i64.wrap (v1.2.1+r2.2.1),v1.2.2.1++[r2.1],()) else none))) else none)) n (a0,(0:Int),([]:List fu),()))
def Zc:Entry:=⟨75,[.val (.sl 5 (.int .u8)) []],[.own (.sl 48 gH) [2,5,48] [] [], .val (.int .i64) [] []],fun n c=>oP n c.1⟩
def afa:Hint:=⟨0,[21],[(0,[0,4,5],[258])],[],[(110,some 13,abS)],[],[],[],[]⟩
theorem aiM:gQ T afa Tryz.f75 Zc:=by intro n c; kernel_rfl
theorem afW [Fr] (n:Nat):ak Tryz.prog n Zc:=aj mixed aK Tryz.func75 (by kernel_rfl) (hi:=afa) (aa (ajS n) aD) aiM
def jd (n:Nat) (a0:yR):Option ((List fu)×Bool×Unit):=((oP n a0.2.1).bind fun r1=>((oP n a0.2.2.1).bind fun r2=>(if (r1.1.length+r2.1.length) * 112≤140737488355328 then ((cB n a0.2.1).bind fun r3=>(if decide (r1.2.1=r3.1)=true then ((cB n a0.2.2.1).bind fun r4=>some (r1.1++r2.1,decide (r2.2.1=r4.1),())) else some (r1.1++r2.1,false,()))) else none)))
def Zd:Entry:=⟨64,[.val CZ []],[.own (.sl 48 gH) [2,5,48] [] [], .val .bool [] []],fun n c=>jd n c.1⟩
def afb:Hint:=⟨0,[],[],[],[(75,some 11,Zc),(75,some 17,Zc),(50,some 26,Ot),(50,some 32,Ot)],[],[],[],[]⟩
theorem aiN:gQ T afb Tryz.f64 Zd:=by intro n c; kernel_rfl
theorem afX [Fr] (n:Nat):ak Tryz.prog n Zd:=aj mixed aK Tryz.func64 (by kernel_rfl) (hi:=afb) (aa (afW n) (aa (afW n) (aa (TZ n) (aa (TZ n) aD)))) aiN
def wC (n:Nat)  : Option (fI×Unit):=some (((1:Int),([]:List dP),()),())
def abT:Entry:=⟨76,[],[.own qm [5,100,103] [] []],fun n c=>wC n⟩
def afc:Hint:=⟨0,[],[],[],[],[],[],[],[]⟩
theorem aiO:gQ T afc Tryz.f76 abT:=by intro n c; kernel_rfl
theorem ajT [Fr] (n:Nat):ak Tryz.prog n abT:=aj mixed aK Tryz.func76 (by kernel_rfl) (hi:=afc) aD aiO
def dR (n:Nat) (a0:List Int):Option ((List Int)×Unit):=(if a0.isEmpty=true then (agC [(.sl 5 (.int .u8))] (some (([]:List Int),())) (if (([]:List Int).length+a0.length) * 1≤140737488355328 then some (([]:List Int)++a0,()) else none)) else (if (([]:List Int).length+a0.length) * 1≤140737488355328 then some (([]:List Int)++a0,()) else none))
def VX:Entry:=⟨98,[.val (.sl 5 (.int .u8)) []],[.own (.sl 5 (.int .u8)) [5] [] []],fun n c=>dR n c.1⟩
def afd:Hint:=⟨0,[],[],[],[],[],[],[],[]⟩
theorem aiP:gQ T afd Tryz.f98 VX:=by intro n c; kernel_rfl
theorem acm [Fr] (n:Nat):ak Tryz.prog n VX:=aj mixed aK Tryz.func98 (by kernel_rfl) (hi:=afd) aD aiP
def jc (n:Nat) (a0:fI):Option (fI×Unit):=(rounds (fun L1 (v1:(List dP)×Int×Int×fI×fI×Unit)=>(if decide (v1.2.2.1<v1.2.1)=true then (if aI v1.2.2.1 v1.1.length then (rounds (fun L2 (v2:(List dP)×Int×Int×(List rz)×Int×Int×fI×fI×dP×Unit)=>(if decide (v2.2.2.2.2.2.1<v2.2.2.2.2.1)=true then (if aI v2.2.2.2.2.2.1 v2.2.2.2.1.length then ((dR n (((((v2.2.2.2.1.getD v2.2.2.2.2.2.1.toNat ku).2).2).2).1)).bind fun r3=>(if (v2.2.2.2.2.2.2.2.2.1.2.2.2.1.length+[((v2.2.2.2.1.getD v2.2.2.2.2.2.1.toNat ku).1,((v2.2.2.2.1.getD v2.2.2.2.2.2.1.toNat ku).2).1,(((v2.2.2.2.1.getD v2.2.2.2.2.2.1.toNat ku).2).2).1,r3.1,((((v2.2.2.2.1.getD v2.2.2.2.2.2.1.toNat ku).2).2).2).2)].length) * 48≤140737488355328 then L2 (v2.1,v2.2.1,v2.2.2.1,v2.2.2.2.1,v2.2.2.2.2.1,IntKind.i64.wrap (v2.2.2.2.2.2.1+(1:Int)),v2.2.2.2.2.2.2.1,v2.2.2.2.2.2.2.2.1,(v2.2.2.2.2.2.2.2.2.1.1,v2.2.2.2.2.2.2.2.2.1.2.1,v2.2.2.2.2.2.2.2.2.1.2.2.1,v2.2.2.2.2.2.2.2.2.1.2.2.2.1++[((v2.2.2.2.1.getD v2.2.2.2.2.2.1.toNat ku).1,((v2.2.2.2.1.getD v2.2.2.2.2.2.1.toNat ku).2).1,(((v2.2.2.2.1.getD v2.2.2.2.2.2.1.toNat ku).2).2).1,r3.1,((((v2.2.2.2.1.getD v2.2.2.2.2.2.1.toNat ku).2).2).2).2)],v2.2.2.2.2.2.2.2.2.1.2.2.2.2),()) else none)) else none) else (if (v2.2.2.2.2.2.2.2.1.2.1.length+[v2.2.2.2.2.2.2.2.2.1].length) * 56≤140737488355328 then L1 (v2.1,v2.2.1,IntKind.i64.wrap (v2.2.2.1+(1:Int)),v2.2.2.2.2.2.2.1,(v2.2.2.2.2.2.2.2.1.1,v2.2.2.2.2.2.2.2.1.2.1++[v2.2.2.2.2.2.2.2.2.1],v2.2.2.2.2.2.2.2.1.2.2),()) else none))) n (v1.1,v1.2.1,v1.2.2.1,((((v1.1.getD v1.2.2.1.toNat dD).2).2).2).1,((((((v1.1.getD v1.2.2.1.toNat dD).2).2).2).1).length:Int),(0:Int),v1.2.2.2.1,v1.2.2.2.2.1,((v1.1.getD v1.2.2.1.toNat dD).1,((v1.1.getD v1.2.2.1.toNat dD).2).1,(((v1.1.getD v1.2.2.1.toNat dD).2).2).1,([]:List rz),()),())) else none) else some (v1.2.2.2.2.1,()))) n (a0.2.1,(a0.2.1.length:Int),(0:Int),OI,(a0.1,([]:List dP),()),()))
def VY:Entry:=⟨67,[.val qm []],[.own qm [5,100,103] [] []],fun n c=>jc n c.1⟩
def afe:Hint:=⟨0,[38,39,45,46,51],[(0,[2,3,13,14,15],[66,98]),(2,[2,3,6,13,14,15,27,28,29],[66,98,194])],[],[(98,some 35,VX)],[],[],[],[]⟩
theorem aiQ:gQ T afe Tryz.f67 VY:=by intro n c; kernel_rfl
theorem acn [Fr] (n:Nat):ak Tryz.prog n VY:=aj mixed aK Tryz.func67 (by kernel_rfl) (hi:=afe) (aa (acm n) aD) aiQ
def rq (n:Nat) (a0:dP) (a1:List Int):Option (Bool×Unit):=some (decide (a0.1=a1),())
def abU:Entry:=⟨174,[.val nG [], .ro .str],[.val .bool [] []],fun n c=>rq n c.1 c.2.1⟩
def aff:Hint:=⟨0,[],[],[],[],[],[],[],[]⟩
theorem aiR:gQ T aff Tryz.f174 abU:=by intro n c; kernel_rfl
theorem ajU [Fr] (n:Nat):ak Tryz.prog n abU:=aj mixed aK Tryz.func174 (by kernel_rfl) (hi:=aff) aD aiR
def bV (n:Nat) (a0:List dP) (Hy:List Int):Option (Int×Unit):=(rounds (fun L1 (v1:(List dP)×(List Int)×Int×Int×Unit)=>(if decide (v1.2.2.2.1<v1.2.2.1)=true then (if aI v1.2.2.2.1 v1.1.length then ((rq n (v1.1.getD v1.2.2.2.1.toNat dD) v1.2.1).bind fun r2=>(if r2.1=true then some (v1.2.2.2.1,()) else L1 (v1.1,v1.2.1,v1.2.2.1,IntKind.i64.wrap (v1.2.2.2.1+(1:Int)),()))) else none) else some ((-1:Int),()))) n (a0,Hy,(a0.length:Int),(0:Int),()))
def abV:Entry:=⟨136,[.val (.sl 100 nG) [], .fn 174 [.str]],[.val (.int .i64) [] []],fun n c=>bV n c.1 c.2.1⟩
def afg:Hint:=⟨0,[],[(0,[0,1,7,8],[])],[],[(174,some 16,abU)],[],[],[],[]⟩
theorem aiS:gQ T afg Tryz.f136 abV:=by intro n c; kernel_rfl
theorem ajV [Fr] (n:Nat):ak Tryz.prog n abV:=aj mixed aK Tryz.func136 (by kernel_rfl) (hi:=afg) (aa (ajU n) aD) aiS
def iZ (n:Nat) (a0:fI) (a1:List Int):Option (Int×Unit):=((bV n a0.2.1 a1).bind fun r1=>some (r1.1,()))
def VZ:Entry:=⟨143,[.val qm [], .val .str []],[.val (.int .i64) [] []],fun n c=>iZ n c.1 c.2.1⟩
def afh:Hint:=⟨0,[],[],[],[(136,some 8,abV)],[],[],[],[]⟩
theorem aiT:gQ T afh Tryz.f143 VZ:=by intro n c; kernel_rfl
theorem aco [Fr] (n:Nat):ak Tryz.prog n VZ:=aj mixed aK Tryz.func143 (by kernel_rfl) (hi:=afh) (aa (ajV n) aD) aiT
def nS (n:Nat) (a0:fI) (a1:List Int):Option (Int×fI×Unit):=((iZ n a0 a1).bind fun r1=>(if decide (r1.1≥(0:Int))=true then some ((6:Int),a0,()) else (if decide ((a0.2.1.length:Int)=(3:Int))=true then some ((10:Int),a0,()) else (if decide (a0.1=(1000:Int))=true then some ((10:Int),a0,()) else (if (a0.2.1.length+[(a1,a0.1,(1:Int),([]:List rz),())].length) * 56≤140737488355328 then some ((0:Int),(IntKind.i64.wrap (a0.1+(1:Int)),a0.2.1++[(a1,a0.1,(1:Int),([]:List rz),())],a0.2.2),()) else none)))))
def abW:Entry:=⟨142,[.rw qm [5,100,103] [5,100,103,4294967295] [5,100,103], .val .str []],[.val (.int .i64) [] []],fun n c=>nS n c.1 c.2.1⟩
def afi:Hint:=⟨0,[30],[],[],[(143,some 10,VZ)],[],[],[],[]⟩
theorem aiU:gQ T afi Tryz.f142 abW:=by intro n c; kernel_rfl
theorem ajW [Fr] (n:Nat):ak Tryz.prog n abW:=aj mixed aK Tryz.func142 (by kernel_rfl) (hi:=afi) (aa (aco n) aD) aiU
namespace Qy
def YM:VH:={ ty:=[(2,(.int .i64)),(3,(.int .i64)),(4, .bool),(5,(.int .u8)),(6,(.int .u8)),(7,YS),(8,YS),(9, .str),(10, .str),(11, .str),(12,(.int .u64)),(13,YQ),(14,YQ),(21,(.int .i32)),(22,(.sl 5 (.int .u8))),(23,(.sl 134 I6)),(24,QF),(25,QF),(26,QH),(27,QH),(29,(.sl 2 (.int .i64))),(30,(.sl 100 Zk4)),(31,Zk8),(32,Zk8),(33,acy),(34,acy),(35,af6),(36,af6),(47,gH),(48,gH),(52,af5),(53,af5),(55,(.sl 48 gH)),(56,K6),(57,K6),(65,gH),(98,(.sl 103 zw)),(99,Zk4),(100,Zk4),(102,zw),(103,zw),(109,(.sl 22 (.sl 5 (.int .u8)))),(132,(.sl 199 zw)),(133,I6),(134,I6),(141,I7),(142,I7),(145,YR),(146,YR),(150,(.sl 9 .str)),(167,Ud),(168,Ud),(199,zw),(203,Uh),(204,Uh),(226,(.int .u32)),(227,(.int .u8)),(228,(.int .u8)),(231,(.int .i32)),(232,(.int .i32))],bytes:=[(2,8),(3,8),(4,1),(5,1),(6,1),(7,24),(8,24),(9,16),(10,16),(11,16),(12,8),(13,24),(14,24),(21,4),(22,24),(23,24),(24,32),(25,32),(26,88),(27,88),(29,24),(30,24),(31,32),(32,32),(33,88),(34,88),(35,120),(36,120),(47,112),(48,112),(52,64),(53,64),(55,24),(56,40),(57,40),(65,112),(98,24),(99,56),(100,56),(102,48),(103,48),(109,24),(132,24),(133,56),(134,56),(141,128),(142,128),(145,32),(146,32),(150,24),(167,32),(168,32),(199,48),(203,40),(204,40),(226,4),(227,1),(228,1),(231,4),(232,4)],ptr:=[15,16,17,74,87,118,136,161,166,187,206,230],ids:=true }
def T:jg:=YM.tab
theorem aK:Cu Tryz.prog YM=true:=by kernel_rfl
theorem mixed:Tryz.prog.follows .mixedOrders=true:=by kernel_rfl
def bO (n:Nat) (a0:List Zt4) (a1:Int) (a2:Int):Option Zt8:=(if 0≤a1∧a1≤a2∧a2≤(a0.length:Int)∧(a0.length:Int)≤(a0.length:Int) then (if decide (a1=a2)=true then some (((a0.length:Nat):Int),a0,()) else (if 0≤(0:Int)∧(0:Int)≤a1∧a1≤(a0.length:Int) then (if 0≤a2∧a2≤(a0.length:Int)∧(a0.length:Int)≤(a0.length:Int) then (if a1.toNat≤a2.toNat then (if 0≤(((a1.toNat+((a0.length:Int).toNat - a2.toNat)) - 0:Nat):Int)∧(((a1.toNat+((a0.length:Int).toNat - a2.toNat)) - 0:Nat):Int)≤(a0.length:Int)∧((0:Nat):Int)+(a0.length:Int)≤((a0.take a1.toNat++(a0.take ((a0.length:Int).toNat)).drop a2.toNat++a0.drop (a1.toNat+((a0.length:Int).toNat - a2.toNat))).length:Int) then some ((((a1.toNat+((a0.length:Int).toNat - a2.toNat)):Nat):Int),(a0.take a1.toNat++(a0.take ((a0.length:Int).toNat)).drop a2.toNat++a0.drop (a1.toNat+((a0.length:Int).toNat - a2.toNat))).take (0+(((a1.toNat+((a0.length:Int).toNat - a2.toNat)) - 0:Nat):Int).toNat)++List.replicate ((0+(a0.length:Int).toNat) - (0+(((a1.toNat+((a0.length:Int).toNat - a2.toNat)) - 0:Nat):Int).toNat)) (([]:List Int),(0:Int),(0:Int),(0:Nat),())++(a0.take a1.toNat++(a0.take ((a0.length:Int).toNat)).drop a2.toNat++a0.drop (a1.toNat+((a0.length:Int).toNat - a2.toNat))).drop (0+(a0.length:Int).toNat),()) else none) else none) else none) else none)) else none)
def V3:Entry:=⟨144,[.jI (.sl 100 Zk4) [5,100,103] [100], .val (.int .i64) [], .val (.int .i64) []],[.into 0 []],fun n c=>bO n c.1 c.2.1 c.2.2.1⟩
def afj:Hint:=⟨0,[],[],[],[],[],[],[13,22,25,26,29,31],[]⟩
theorem aiV:gQ T afj Tryz.f144 V3:=by intro n c; kernel_rfl
theorem acp [Fr] (n:Nat):ak Tryz.prog n V3:=aj mixed aK Tryz.func144 (by kernel_rfl) (hi:=afj) aD aiV
end Qy
def aa3:List dH:=[.jI (.sl 100 nG) [5,100,103] [100], .val (.int .i64) [], .val (.int .i64) []]
def ahq:List nN:=[.into 0 []]
def bO (n:Nat) (a0:List dP) (a1:Int) (a2:Int):Option (Int×List dP×Unit):=mh.Js dD a0 a1 a2
def V3:Entry:=⟨144,aa3,ahq,fun n (c:Cont (kin aa3))=>bO n c.1 c.2.1 c.2.2.1⟩
theorem acp [Fr] (n:Nat):ak Tryz.prog n V3:=mh.Np (k0:=.str) (kk:=zw) (e:=103) (t:=100) (ow:=[5,100,103]) (wt:=[100]) (tZ:=[100]) (d0:=([]:List Int)) (FI:=Qy.bO) (by simp [K.tys,aL]) (by simp [K.tys,aL]) (by simp [K.tys,aL]) (fun fr=>Qy.acp n) (by simp [nk,aL]) (fun _ _ _=>⟨rfl,rfl⟩) (fun xs i j h=>mh.Ra _ xs i j h)
def sw (n:Nat) (a0:dP) (a1:rz):Option (Int×dP×Unit):=((dR n a1.2.2.2.1).bind fun r1=>(if [(a0.2.2.1,a1.2.1,a1.2.2.1,r1.1,())].length=1∧(a0.2.2.2.1.length+1) * 48≤140737488355328 then some (IntKind.i64.wrap ((IntKind.i64.wrap (a0.2.2.1+(1:Int))) - (1:Int)),(a0.1,a0.2.1,IntKind.i64.wrap (a0.2.2.1+(1:Int)),a0.2.2.2.1++[[(a0.2.2.1,a1.2.1,a1.2.2.1,r1.1,())].getD 0 ku],a0.2.2.2.2),()) else none))
def abX:Entry:=⟨145,[.rw nG [5,103] [103,4294967295] [5,103], .val zw []],[.val (.int .i64) [] []],fun n c=>sw n c.1 c.2.1⟩
def afk:Hint:=⟨0,[9],[],[],[(98,some 20,VX)],[],[],[],[23]⟩
theorem aiW:gQ T afk Tryz.f145 abX:=by intro n c; kernel_rfl
theorem ajX [Fr] (n:Nat):ak Tryz.prog n abX:=aj mixed aK Tryz.func145 (by kernel_rfl) (hi:=afk) (aa (acm n) aD) aiW
def eD (n:Nat) (a0:List Int) (a1:Int):Option (Int×Unit):=(rounds (fun L1 (v1:(List Int)×Int×Int×Int×Unit)=>(if decide (v1.2.2.2.1<v1.2.2.1)=true then (if aI v1.2.2.2.1 v1.1.length then (if decide (v1.2.1=(v1.1.getD v1.2.2.2.1.toNat (0:Int)))=true then some (v1.2.2.2.1,()) else L1 (v1.1,v1.2.1,v1.2.2.1,IntKind.i64.wrap (v1.2.2.2.1+(1:Int)),())) else none) else some ((-1:Int),()))) n (a0,a1,(a0.length:Int),(0:Int),()))
def Qw:Entry:=⟨203,[.val (.sl 2 (.int .i64)) [], .val (.int .i64) []],[.val (.int .i64) [] []],fun n c=>eD n c.1 c.2.1⟩
def V9:Hint:=⟨0,[],[(0,[0,1,7,8],[])],[],[],[],[],[],[]⟩
theorem abh:gQ T V9 Tryz.f203 Qw:=by intro n c; kernel_rfl
theorem acr [Fr] (n:Nat):ak Tryz.prog n Qw:=aj mixed aK Tryz.func203 (by kernel_rfl) (hi:=V9) aD abh
def aV (n:Nat) (a0:List Int) (a1:Int):Option (Bool×Unit):=((eD n a0 a1).bind fun r1=>some (decide (r1.1≥(0:Int)),()))
def Ov:Entry:=⟨175,[.val (.sl 2 (.int .i64)) [], .val (.int .i64) []],[.val .bool [] []],fun n c=>aV n c.1 c.2.1⟩
def Wd:Hint:=⟨0,[],[],[],[(203,some 7,Qw)],[],[],[],[]⟩
theorem abj:gQ T Wd Tryz.f175 Ov:=by intro n c; kernel_rfl
theorem Zj [Fr] (n:Nat):ak Tryz.prog n Ov:=aj mixed aK Tryz.func175 (by kernel_rfl) (hi:=Wd) (aa (acr n) aD) abj
def mq (n:Nat) (a0:dP) (a1:fu):Option ((List Int)×dP×Unit):=(rounds (fun L1 (v1:Int×Int×dP×fu×(List Int)×Unit)=>(if decide (v1.2.1<v1.1)=true then (if aI v1.2.1 v1.2.2.1.2.2.2.1.length then ((aV n v1.2.2.2.1.2.2.2.1 ((v1.2.2.1.2.2.2.1.getD v1.2.1.toNat ku).1)).bind fun r2=>(if (!r2.1)=true then L1 (v1.1,IntKind.i64.wrap (v1.2.1+(1:Int)),v1.2.2.1,v1.2.2.2.1,v1.2.2.2.2.1,()) else (if (v1.2.2.2.2.1.length+[(v1.2.2.1.2.2.2.1.getD v1.2.1.toNat ku).1].length) * 8≤140737488355328 then (if decide (v1.2.2.2.1.2.2.2.2.1=(1:Int))=true then L1 (v1.1,IntKind.i64.wrap (v1.2.1+(1:Int)),(v1.2.2.1.1,v1.2.2.1.2.1,v1.2.2.1.2.2.1,(iM v1.2.2.1.2.2.2.1 v1.2.1.toNat ku fun z1=>(z1.1,v1.2.2.2.1.2.2.2.2.2.1,z1.2.2)),v1.2.2.1.2.2.2.2),v1.2.2.2.1,v1.2.2.2.2.1++[(v1.2.2.1.2.2.2.1.getD v1.2.1.toNat ku).1],()) else (if decide (v1.2.2.2.1.2.2.2.2.1=(2:Int))=true then L1 (v1.1,IntKind.i64.wrap (v1.2.1+(1:Int)),(v1.2.2.1.1,v1.2.2.1.2.1,v1.2.2.1.2.2.1,(iM v1.2.2.1.2.2.2.1 v1.2.1.toNat ku fun z1=>(z1.1,IntKind.i64.wrap ((BitVec.ofInt (IntKind.bits .i64) (((v1.2.2.1.2.2.2.1.getD v1.2.1.toNat ku).2).1) ||| BitVec.ofInt (IntKind.bits .i64) v1.2.2.2.1.2.2.2.2.2.1).toNat),z1.2.2)),v1.2.2.1.2.2.2.2),v1.2.2.2.1,v1.2.2.2.2.1++[(v1.2.2.1.2.2.2.1.getD v1.2.1.toNat ku).1],()) else L1 (v1.1,IntKind.i64.wrap (v1.2.1+(1:Int)),(v1.2.2.1.1,v1.2.2.1.2.1,v1.2.2.1.2.2.1,(iM v1.2.2.1.2.2.2.1 v1.2.1.toNat ku fun z1=>(z1.1,IntKind.i64.wrap ((BitVec.ofInt (IntKind.bits .i64) (((v1.2.2.1.2.2.2.1.getD v1.2.1.toNat ku).2).1) &&& ~~~ BitVec.ofInt (IntKind.bits .i64) v1.2.2.2.1.2.2.2.2.2.1).toNat),z1.2.2)),v1.2.2.1.2.2.2.2),v1.2.2.2.1,v1.2.2.2.2.1++[(v1.2.2.1.2.2.2.1.getD v1.2.1.toNat ku).1],()))) else none))) else none) else some (v1.2.2.2.2.1,v1.2.2.1,()))) n ((a0.2.2.2.1.length:Int),(0:Int),a0,a1,([]:List Int),()))
def abY:Entry:=⟨146,[.rw nG [5,103] [103] [], .val gH []],[.own (.sl 2 (.int .i64)) [2] [] []],fun n c=>mq n c.1 c.2.1⟩
def afl:Hint:=⟨0,[20],[(0,[0,3,5,13,14],[0,98,258])],[],[(175,some 29,Ov)],[],[],[],[]⟩
theorem aiX:gQ T afl Tryz.f146 abY:=by intro n c; kernel_rfl
theorem ajY [Fr] (n:Nat):ak Tryz.prog n abY:=aj mixed aK Tryz.func146 (by kernel_rfl) (hi:=afl) (aa (Zj n) aD) aiX
namespace IdP
def YM:VH:={ ty:=[(2,(.int .i64)),(3,(.int .i64)),(4, .bool),(5,(.int .u8)),(6,(.int .u8)),(7,YS),(8,YS),(9, .str),(10, .str),(11, .str),(12,(.int .u64)),(13,YQ),(14,YQ),(21,(.int .i32)),(22,(.sl 5 (.int .u8))),(23,(.sl 134 YT)),(24,QE),(25,QE),(26,Uf),(27,Uf),(29,(.sl 2 (.int .i64))),(30,(.sl 100 Hw)),(31,OH),(32,OH),(33,QG),(34,QG),(35,Ug),(36,Ug),(47,gH),(48,gH),(52,Ue),(53,Ue),(55,(.sl 48 gH)),(56,K6),(57,K6),(65,gH),(98,(.sl 103 K7)),(99,Hw),(100,Hw),(102,K7),(103,K7),(109,(.sl 22 (.sl 5 (.int .u8)))),(132,(.sl 199 K7)),(133,YT),(134,YT),(141,I7),(142,I7),(145,YR),(146,YR),(150,(.sl 9 .str)),(167,Ud),(168,Ud),(199,K7),(203,Uh),(204,Uh),(226,(.int .u32)),(227,(.int .u8)),(228,(.int .u8)),(231,(.int .i32)),(232,(.int .i32))],bytes:=[(2,8),(3,8),(4,1),(5,1),(6,1),(7,24),(8,24),(9,16),(10,16),(11,16),(12,8),(13,24),(14,24),(21,4),(22,24),(23,24),(24,32),(25,32),(26,88),(27,88),(29,24),(30,24),(31,32),(32,32),(33,88),(34,88),(35,120),(36,120),(47,112),(48,112),(52,64),(53,64),(55,24),(56,40),(57,40),(65,112),(98,24),(99,56),(100,56),(102,48),(103,48),(109,24),(132,24),(133,56),(134,56),(141,128),(142,128),(145,32),(146,32),(150,24),(167,32),(168,32),(199,48),(203,40),(204,40),(226,4),(227,1),(228,1),(231,4),(232,4)],ptr:=[15,16,17,74,87,118,136,161,166,187,206,230],ids:=true }
def T:jg:=YM.tab
theorem aK:Cu Tryz.prog YM=true:=by kernel_rfl
theorem mixed:Tryz.prog.follows .mixedOrders=true:=by kernel_rfl
def fV (n:Nat) (a0:Zt9):Option ((List Int)×Zt9×Unit):=(rounds (fun L1 (v1:(List M9)×Int×Int×Zt9×(List Int)×(List M9)×Unit)=>(if decide (v1.2.2.1<v1.2.1)=true then (if aI v1.2.2.1 v1.1.length then (if (!decide ((IntKind.i64.wrap ((BitVec.ofInt (IntKind.bits .i64) (((v1.1.getD v1.2.2.1.toNat Na).2).1) &&& BitVec.ofInt (IntKind.bits .i64) (8:Int)).toNat))=(0:Int)))=true then (if (v1.2.2.2.2.1.length+[(v1.1.getD v1.2.2.1.toNat Na).1].length) * 8≤140737488355328 then L1 (v1.1,v1.2.1,IntKind.i64.wrap (v1.2.2.1+(1:Int)),v1.2.2.2.1,v1.2.2.2.2.1++[(v1.1.getD v1.2.2.1.toNat Na).1],v1.2.2.2.2.2.1,()) else none) else (if (v1.2.2.2.2.2.1.length+[v1.1.getD v1.2.2.1.toNat Na].length) * 48≤140737488355328 then L1 (v1.1,v1.2.1,IntKind.i64.wrap (v1.2.2.1+(1:Int)),v1.2.2.2.1,v1.2.2.2.2.1,v1.2.2.2.2.2.1++[v1.1.getD v1.2.2.1.toNat Na],()) else none)) else none) else some (v1.2.2.2.2.1,(v1.2.2.2.1.1,v1.2.2.2.1.2.1,v1.2.2.2.1.2.2.1,v1.2.2.2.2.2.1,v1.2.2.2.1.2.2.2.2),()))) n (a0.2.2.2.1,(a0.2.2.2.1.length:Int),(0:Int),a0,([]:List Int),([]:List M9),()))
def V4:Entry:=⟨147,[.rw Hw [5,103] [4294967295] [103]],[.own (.sl 2 (.int .i64)) [2] [] []],fun n c=>fV n c.1⟩
def afm:Hint:=⟨0,[],[(0,[0,3,4,12,13,14],[0,226,258])],[],[],[],[],[],[]⟩
theorem aiY:gQ T afm Tryz.f147 V4:=by intro n c; kernel_rfl
theorem acs [Fr] (n:Nat):ak Tryz.prog n V4:=aj mixed aK Tryz.func147 (by kernel_rfl) (hi:=afm) aD aiY
end IdP
def fV (n:Nat) (a0:List Int×Int×Int×List jV.Af×Unit):Option (List Int×(List Int×Int×Int×List jV.Af×Unit)×Unit):=jV.y9 n a0
def aa4:List dH:=[.rw nG [5,103] [4294967295,5] [103,4294967294]]
def ahr:List nN:=[.own (.sl 2 (.int .i64)) [2] [] []]
def V4:Entry:=⟨147,aa4,ahr,fun n (c:Cont (kin aa4))=>fV n c.1⟩
def ace (x:M9):Bool:=!decide ((IntKind.i64.wrap ((BitVec.ofInt (IntKind.bits .i64) (x.2.1) &&& BitVec.ofInt (IntKind.bits .i64) (8:Int)).toNat))=(0:Int))
theorem ajg {n:Nat} {nm:List Int} {w h:Int} {xs:List M9} (hc:xs.length * 48≤140737488355328) (hn:xs.length<n):IdP.fV n (nm,w,h,xs,())=some ((xs.filter ace).map (·.1),(nm,w,h,xs.filter (fun x=>!ace x),()),()):=
 SG.Vl (xs:=xs) (p:=ace) (g:=(·.1)) (d:=Na) (sc:=8) (sa:=48) (a0:=(nm,w,h,xs,()))
  (fin:=fun a cs ks=>(cs,(a.1,a.2.1,a.2.2.1,ks,a.2.2.2.2),())) (fun _ _=>rfl) (by have:=hc; omega) (by have:=hc; omega) hc hn
theorem acs [Fr] (n:Nat):ak Tryz.prog n V4:=jV.NU (e:=5) (m:=103) (i:=2) (FI:=fun n c=>IdP.fV n c.1) (fun fr=>IdP.acs n) (fun nm w h xs hc hn=>ajg hc hn)
def eB (n:Nat) (a0:List rz):Option (Int×Unit):=some ((a0.length:Int),())
def abZ:Entry:=⟨176,[.val (.sl 103 zw) []],[.val (.int .i64) [] []],fun n c=>eB n c.1⟩
def afn:Hint:=⟨0,[],[],[],[],[],[],[],[]⟩
theorem aiZ:gQ T afn Tryz.f176 abZ:=by intro n c; kernel_rfl
theorem ajZ [Fr] (n:Nat):ak Tryz.prog n abZ:=aj mixed aK Tryz.func176 (by kernel_rfl) (hi:=afn) aD aiZ
def jQ (n:Nat) (a0:dP) (a1:rz):Option (Int×dP×Unit):=((dR n a1.2.2.2.1).bind fun r1=>(if [(a0.2.2.1,a1.2.1,a1.2.2.1,r1.1,())].length=1∧(a0.2.2.2.1.length+1) * 48≤140737488355328 then some (IntKind.i64.wrap ((IntKind.i64.wrap (a0.2.2.1+(1:Int))) - (1:Int)),(a0.1,a0.2.1,IntKind.i64.wrap (a0.2.2.1+(1:Int)),a0.2.2.2.1++[[(a0.2.2.1,a1.2.1,a1.2.2.1,r1.1,())].getD 0 ku],a0.2.2.2.2),()) else none))
def ab0:Entry:=⟨145,[.rw nG [5,103] [103,4294967295] [5,103], .val zw [0]],[.val (.int .i64) [] []],fun n c=>jQ n c.1 c.2.1⟩
def afo:Hint:=⟨0,[9],[],[],[(98,some 20,VX)],[],[],[],[23]⟩
theorem ai0:gQ T afo Tryz.f145 ab0:=by intro n c; kernel_rfl
theorem aj0 [Fr] (n:Nat):ak Tryz.prog n ab0:=aj mixed aK Tryz.func145 (by kernel_rfl) (hi:=afo) (aa (acm n) aD) ai0
namespace xe
def YM:VH:={ ty:=[(2,(.int .i64)),(3,(.int .i64)),(4, .bool),(5,(.int .u8)),(6,(.int .u8)),(7,YS),(8,YS),(9, .str),(10, .str),(11, .str),(12,(.int .u64)),(13,YQ),(14,YQ),(21,(.int .i32)),(22,(.sl 5 (.int .u8))),(23,(.sl 134 YT)),(24,QE),(25,QE),(26,Uf),(27,Uf),(29,(.sl 2 (.int .i64))),(30,(.sl 100 Hw)),(31,OH),(32,OH),(33,QG),(34,QG),(35,Ug),(36,Ug),(47,gH),(48,gH),(52,Ue),(53,Ue),(55,(.sl 48 gH)),(56,K6),(57,K6),(65,gH),(98,(.sl 103 K7)),(99,Hw),(100,Hw),(102,K7),(103,K7),(109,(.sl 22 (.sl 5 (.int .u8)))),(132,(.sl 199 K7)),(133,YT),(134,YT),(141,I7),(142,I7),(145,YR),(146,YR),(150,(.sl 9 .str)),(167,Ud),(168,Ud),(199,K7),(203,Uh),(204,Uh),(226,(.int .u32)),(227,(.int .u8)),(228,(.int .u8)),(231,(.int .i32)),(232,(.int .i32))],bytes:=[(2,8),(3,8),(4,1),(5,1),(6,1),(7,24),(8,24),(9,16),(10,16),(11,16),(12,8),(13,24),(14,24),(21,4),(22,24),(23,24),(24,32),(25,32),(26,88),(27,88),(29,24),(30,24),(31,32),(32,32),(33,88),(34,88),(35,120),(36,120),(47,112),(48,112),(52,64),(53,64),(55,24),(56,40),(57,40),(65,112),(98,24),(99,56),(100,56),(102,48),(103,48),(109,24),(132,24),(133,56),(134,56),(141,128),(142,128),(145,32),(146,32),(150,24),(167,32),(168,32),(199,48),(203,40),(204,40),(226,4),(227,1),(228,1),(231,4),(232,4)],ptr:=[15,16,17,74,87,118,136,161,166,187,206,230],ids:=true }
def T:jg:=YM.tab
theorem aK:Cu Tryz.prog YM=true:=by kernel_rfl
theorem mixed:Tryz.prog.follows .mixedOrders=true:=by kernel_rfl
def eD (n:Nat) (a0:List Int) (a1:Int):Option (Int×Unit):=(rounds (fun L1 (v1:(List Int)×Int×Int×Int×Unit)=>(if decide (v1.2.2.2.1<v1.2.2.1)=true then (if aI v1.2.2.2.1 v1.1.length then (if decide (v1.2.1=(v1.1.getD v1.2.2.2.1.toNat (0:Int)))=true then some (v1.2.2.2.1,()) else L1 (v1.1,v1.2.1,v1.2.2.1,IntKind.i64.wrap (v1.2.2.2.1+(1:Int)),())) else none) else some ((-1:Int),()))) n (a0,a1,(a0.length:Int),(0:Int),()))
def Qw:Entry:=⟨203,[.val (.sl 2 (.int .i64)) [], .val (.int .i64) []],[.val (.int .i64) [] []],fun n c=>eD n c.1 c.2.1⟩
def V9:Hint:=⟨0,[],[(0,[0,1,7,8],[])],[],[],[],[],[],[]⟩
theorem abh:gQ T V9 Tryz.f203 Qw:=by intro n c; kernel_rfl
theorem acr [Fr] (n:Nat):ak Tryz.prog n Qw:=aj mixed aK Tryz.func203 (by kernel_rfl) (hi:=V9) aD abh
def aV (n:Nat) (a0:List Int) (a1:Int):Option (Bool×Unit):=((eD n a0 a1).bind fun r1=>some (decide (r1.1≥(0:Int)),()))
def Ov:Entry:=⟨175,[.val (.sl 2 (.int .i64)) [], .val (.int .i64) []],[.val .bool [] []],fun n c=>aV n c.1 c.2.1⟩
def Wd:Hint:=⟨0,[],[],[],[(203,some 7,Qw)],[],[],[],[]⟩
theorem abj:gQ T Wd Tryz.f175 Ov:=by intro n c; kernel_rfl
theorem Zj [Fr] (n:Nat):ak Tryz.prog n Ov:=aj mixed aK Tryz.func175 (by kernel_rfl) (hi:=Wd) (aa (acr n) aD) abj
def eZ (n:Nat) (a0:M9) (a1:fu):Option (Bool×Unit):=((aV n a1.2.2.2.1 a0.1).bind fun r1=>some (r1.1,()))
def Ze:Entry:=⟨178,[.val K7 [], .ro gH],[.val .bool [] []],fun n c=>eZ n c.1 c.2.1⟩
def afp:Hint:=⟨0,[],[],[],[(175,some 8,Ov)],[],[],[],[]⟩
theorem ai1:gQ T afp Tryz.f178 Ze:=by intro n c; kernel_rfl
theorem afY [Fr] (n:Nat):ak Tryz.prog n Ze:=aj mixed aK Tryz.func178 (by kernel_rfl) (hi:=afp) (aa (Zj n) aD) ai1
def aY (n:Nat) (a0:List M9) (Hy:fu):Option (Int×Unit):=(rounds (fun L1 (v1:(List M9)×fu×Int×Int×Unit)=>(if decide (v1.2.2.2.1<v1.2.2.1)=true then (if aI v1.2.2.2.1 v1.1.length then ((eZ n (v1.1.getD v1.2.2.2.1.toNat Na) v1.2.1).bind fun r2=>(if r2.1=true then some (v1.2.2.2.1,()) else L1 (v1.1,v1.2.1,v1.2.2.1,IntKind.i64.wrap (v1.2.2.2.1+(1:Int)),()))) else none) else some ((-1:Int),()))) n (a0,Hy,(a0.length:Int),(0:Int),()))
def ab1:Entry:=⟨204,[.val (.sl 103 K7) [], .fn 178 [gH]],[.val (.int .i64) [] []],fun n c=>aY n c.1 c.2.1⟩
def afq:Hint:=⟨0,[],[(0,[0,1,7,8],[])],[],[(178,some 16,Ze)],[],[],[],[]⟩
theorem ai2:gQ T afq Tryz.f204 ab1:=by intro n c; kernel_rfl
theorem aj2 [Fr] (n:Nat):ak Tryz.prog n ab1:=aj mixed aK Tryz.func204 (by kernel_rfl) (hi:=afq) (aa (afY n) aD) ai2
def aF (n:Nat) (a0:List M9) (Hy:fu):Option (Int×(List M9)×Unit):=((aY n a0 Hy).bind fun r1=>(if decide (r1.1=(-1:Int))=true then some (((a0.length:Nat):Int),a0,()) else (rounds (fun L2 (v2:fu×Int×Int×(List M9)×Unit)=>(if decide (v2.2.2.1<(v2.2.2.2.1.length:Int))=true then (if aI v2.2.2.1 v2.2.2.2.1.length then ((eZ n (v2.2.2.2.1.getD v2.2.2.1.toNat Na) v2.1).bind fun r3=>(if (!r3.1)=true then (if aI v2.2.1 v2.2.2.2.1.length then L2 (v2.1,IntKind.i64.wrap (v2.2.1+(1:Int)),IntKind.i64.wrap (v2.2.2.1+(1:Int)),v2.2.2.2.1.set v2.2.1.toNat (v2.2.2.2.1.getD v2.2.2.1.toNat Na),()) else none) else L2 (v2.1,v2.2.1,IntKind.i64.wrap (v2.2.2.1+(1:Int)),v2.2.2.2.1,()))) else none) else (if 0≤v2.2.1∧v2.2.1≤(v2.2.2.2.1.length:Int)∧(v2.2.2.2.1.length:Int)≤(v2.2.2.2.1.length:Int) then (if 0≤(0:Int)∧(0:Int)≤v2.2.1∧v2.2.1≤((v2.2.2.2.1.take v2.2.1.toNat++List.replicate ((v2.2.2.2.1.length:Int).toNat - v2.2.1.toNat) Na++v2.2.2.2.1.drop ((v2.2.2.2.1.length:Int).toNat)).length:Int) then some (((v2.2.1.toNat:Nat):Int),v2.2.2.2.1.take v2.2.1.toNat++List.replicate ((v2.2.2.2.1.length:Int).toNat - v2.2.1.toNat) Na++v2.2.2.2.1.drop ((v2.2.2.2.1.length:Int).toNat),()) else none) else none))) n (Hy,r1.1,IntKind.i64.wrap (r1.1+(1:Int)),a0,()))))
def V5:Entry:=⟨177,[.jI (.sl 103 K7) [5,103] [103], .fn 178 [gH]],[.into 0 []],fun n c=>aF n c.1 c.2.1⟩
def afr:Hint:=⟨0,[],[(0,[0,1,5,6],[0])],[],[(204,some 10,ab1),(178,some 28,Ze)],[],[],[38,41],[]⟩
theorem ai3:gQ T afr Tryz.f177 V5:=by intro n c; kernel_rfl
theorem acu [Fr] (n:Nat):ak Tryz.prog n V5:=aj mixed aK Tryz.func177 (by kernel_rfl) (hi:=afr) (aa (aj2 n) (aa (afY n) aD)) ai3
end xe
def aa5:List dH:=[.jI (.sl 103 zw) [5,103] [103], .fn 178 [gH]]
def ahs:List nN:=[.into 0 []]
def aF (n:Nat) (a0:List rz) (Hy:fu):Option (Int×List rz×Unit):=mh.FD n a0 Hy
def V5:Entry:=⟨177,aa5,ahs,fun n (c:Cont (kin aa5))=>aF n c.1 c.2.1⟩
theorem ajh {n:Nat} {xs:List mh.Zk} {op:mh.OpC} (hx:xs.length≤140737488355328) (hn:xs.length<n) (hb:op.2.2.2.1.length≤140737488355328) (hu:op.2.2.2.1.length<n):xe.aF n xs op=some (mh.GH (0,0,0,0,()) (fun x=>op.2.2.2.1.contains x.1) xs):=by
 have hc:∀x,xe.eZ n x op=some (op.2.2.2.1.contains x.1,()):=fun x=>by
  have h:xe.aV n op.2.2.2.1 x.1=some (op.2.2.2.1.contains x.1,()):=mh.Nv (fun _ _=>rfl) hb hu
  show (xe.aV n op.2.2.2.1 x.1).bind _=_
  rw [h]; rfl
 have hi:xe.aY n xs op=some (_,()):=mh.JZ (p:=fun x=>op.2.2.2.1.contains x.1) (q:=fun c x=>xe.eZ n x c) (d:=(0,0,0,0,())) (fun _ _=>rfl) hc hx hn
 show (xe.aY n xs op).bind _=_
 rw [hi]
 exact mh.Ux (p:=fun x=>op.2.2.2.1.contains x.1) (q:=fun c x=>xe.eZ n x c) (d:=(0,0,0,0,())) (fun _ _=>rfl) hc hx hn
theorem acu [Fr] (n:Nat):ak Tryz.prog n V5:=mh.Lb (e:=5) (t:=103) (i:=2) (b:=5) (cl:=178) (ow:=[5,103]) (wt:=[103]) (tZ:=[103]) (FI:=xe.aF) (by simp [K.tys,aL]) (by simp [K.tys,aL]) (by simp [K.tys,aL]) (fun fr=>xe.acu n) (by simp [nk,aL]) (fun xs op h1 h2 h3 h4=>ajh h1 h2 h3 h4)
def kF (n:Nat) (a0:fI) (a1:Int) (a2:fu):Option ((List Int)×Int×fI×Unit):=((iZ n a0 a2.2.2.1).bind fun r1=>(if decide (r1.1<(0:Int))=true then some (([]:List Int),(4:Int),a0,()) else (if decide (a2.1=(6:Int))=true then (if decide (r1.1=a1)=true then some (([]:List Int),(9:Int),a0,()) else (if aI a1 a0.2.1.length then (rounds (fun L2 (v2:Int×Int×(List rz)×Int×Int×fI×fu×(List rz)×Unit)=>(if decide (v2.2.2.2.2.1<v2.2.2.2.1)=true then (if aI v2.2.2.2.2.1 v2.2.2.1.length then ((aV n v2.2.2.2.2.2.2.1.2.2.2.1 ((v2.2.2.1.getD v2.2.2.2.2.1.toNat ku).1)).bind fun r3=>(if r3.1=true then (if (v2.2.2.2.2.2.2.2.1.length+[v2.2.2.1.getD v2.2.2.2.2.1.toNat ku].length) * 48≤140737488355328 then L2 (v2.1,v2.2.1,v2.2.2.1,v2.2.2.2.1,IntKind.i64.wrap (v2.2.2.2.2.1+(1:Int)),v2.2.2.2.2.2.1,v2.2.2.2.2.2.2.1,v2.2.2.2.2.2.2.2.1++[v2.2.2.1.getD v2.2.2.2.2.1.toNat ku],()) else none) else L2 (v2.1,v2.2.1,v2.2.2.1,v2.2.2.2.1,IntKind.i64.wrap (v2.2.2.2.2.1+(1:Int)),v2.2.2.2.2.2.1,v2.2.2.2.2.2.2.1,v2.2.2.2.2.2.2.2.1,()))) else none) else (if aI v2.2.1 v2.2.2.2.2.2.1.2.1.length then (if decide ((IntKind.i64.wrap (((((((v2.2.2.2.2.2.1.2.1.getD v2.2.1.toNat dD).2).2).2).1).length:Int)+(v2.2.2.2.2.2.2.2.1.length:Int)))>(6:Int))=true then some (([]:List Int),(10:Int),v2.2.2.2.2.2.1,()) else ((eB n v2.2.2.2.2.2.2.2.1).bind fun r4=>(if decide ((IntKind.i64.wrap (((((v2.2.2.2.2.2.1.2.1.getD v2.2.1.toNat dD).2).2).1)+r4.1))>(1000:Int))=true then some (([]:List Int),(10:Int),v2.2.2.2.2.2.1,()) else (rounds (fun L5 (v5:Int×Int×Int×Int×fI×fu×(List rz)×(List Int)×Unit)=>(if decide (v5.2.2.2.1<v5.2.2.1)=true then (if aI v5.2.2.2.1 v5.2.2.2.2.2.2.1.length then ((jQ n (v5.2.2.2.2.1.2.1.getD v5.2.1.toNat dD) (v5.2.2.2.2.2.2.1.getD v5.2.2.2.1.toNat ku)).bind fun r6=>(if (v5.2.2.2.2.2.2.2.1.length+[r6.1].length) * 8≤140737488355328 then L5 (v5.1,v5.2.1,v5.2.2.1,IntKind.i64.wrap (v5.2.2.2.1+(1:Int)),(v5.2.2.2.2.1.1,v5.2.2.2.2.1.2.1.set v5.2.1.toNat r6.2.1,v5.2.2.2.2.1.2.2),v5.2.2.2.2.2.1,v5.2.2.2.2.2.2.1,v5.2.2.2.2.2.2.2.1++[r6.1],()) else none)) else none) else (if decide (v5.2.2.2.2.2.1.1=(6:Int))=true then (if aI v5.1 v5.2.2.2.2.1.2.1.length then ((aF n (((((v5.2.2.2.2.1.2.1.getD v5.1.toNat dD).2).2).2).1) v5.2.2.2.2.2.1).bind fun r7=>(if ([v5.1]:List Int)=([v5.1]:List Int) then some (v5.2.2.2.2.2.2.2.1,(0:Int),(v5.2.2.2.2.1.1,(iM (iM v5.2.2.2.2.1.2.1 v5.1.toNat dD fun z1=>(z1.1,z1.2.1,z1.2.2.1,r7.2.1,z1.2.2.2.2)) v5.1.toNat dD fun z1=>(z1.1,z1.2.1,z1.2.2.1,((((((iM v5.2.2.2.2.1.2.1 v5.1.toNat dD fun z1=>(z1.1,z1.2.1,z1.2.2.1,r7.2.1,z1.2.2.2.2)).getD v5.1.toNat dD).2).2).2).1).take r7.1.toNat,z1.2.2.2.2)),v5.2.2.2.2.1.2.2),()) else none)) else none) else some (v5.2.2.2.2.2.2.2.1,(0:Int),v5.2.2.2.2.1,())))) n (v2.1,v2.2.1,(v2.2.2.2.2.2.2.2.1.length:Int),(0:Int),v2.2.2.2.2.2.1,v2.2.2.2.2.2.2.1,v2.2.2.2.2.2.2.2.1,([]:List Int),()))))) else none))) n (a1,r1.1,((((a0.2.1.getD a1.toNat dD).2).2).2).1,((((((a0.2.1.getD a1.toNat dD).2).2).2).1).length:Int),(0:Int),a0,a2,([]:List rz),())) else none)) else (if aI a1 a0.2.1.length then (rounds (fun L8 (v8:Int×Int×(List rz)×Int×Int×fI×fu×(List rz)×Unit)=>(if decide (v8.2.2.2.2.1<v8.2.2.2.1)=true then (if aI v8.2.2.2.2.1 v8.2.2.1.length then ((aV n v8.2.2.2.2.2.2.1.2.2.2.1 ((v8.2.2.1.getD v8.2.2.2.2.1.toNat ku).1)).bind fun r9=>(if r9.1=true then (if (v8.2.2.2.2.2.2.2.1.length+[v8.2.2.1.getD v8.2.2.2.2.1.toNat ku].length) * 48≤140737488355328 then L8 (v8.1,v8.2.1,v8.2.2.1,v8.2.2.2.1,IntKind.i64.wrap (v8.2.2.2.2.1+(1:Int)),v8.2.2.2.2.2.1,v8.2.2.2.2.2.2.1,v8.2.2.2.2.2.2.2.1++[v8.2.2.1.getD v8.2.2.2.2.1.toNat ku],()) else none) else L8 (v8.1,v8.2.1,v8.2.2.1,v8.2.2.2.1,IntKind.i64.wrap (v8.2.2.2.2.1+(1:Int)),v8.2.2.2.2.2.1,v8.2.2.2.2.2.2.1,v8.2.2.2.2.2.2.2.1,()))) else none) else (if aI v8.2.1 v8.2.2.2.2.2.1.2.1.length then (if decide ((IntKind.i64.wrap (((((((v8.2.2.2.2.2.1.2.1.getD v8.2.1.toNat dD).2).2).2).1).length:Int)+(v8.2.2.2.2.2.2.2.1.length:Int)))>(6:Int))=true then some (([]:List Int),(10:Int),v8.2.2.2.2.2.1,()) else ((eB n v8.2.2.2.2.2.2.2.1).bind fun NV=>(if decide ((IntKind.i64.wrap (((((v8.2.2.2.2.2.1.2.1.getD v8.2.1.toNat dD).2).2).1)+NV.1))>(1000:Int))=true then some (([]:List Int),(10:Int),v8.2.2.2.2.2.1,()) else (rounds (fun L11 (v11:Int×Int×Int×Int×fI×fu×(List rz)×(List Int)×Unit)=>(if decide (v11.2.2.2.1<v11.2.2.1)=true then (if aI v11.2.2.2.1 v11.2.2.2.2.2.2.1.length then ((jQ n (v11.2.2.2.2.1.2.1.getD v11.2.1.toNat dD) (v11.2.2.2.2.2.2.1.getD v11.2.2.2.1.toNat ku)).bind fun Ko=>(if (v11.2.2.2.2.2.2.2.1.length+[Ko.1].length) * 8≤140737488355328 then L11 (v11.1,v11.2.1,v11.2.2.1,IntKind.i64.wrap (v11.2.2.2.1+(1:Int)),(v11.2.2.2.2.1.1,v11.2.2.2.2.1.2.1.set v11.2.1.toNat Ko.2.1,v11.2.2.2.2.1.2.2),v11.2.2.2.2.2.1,v11.2.2.2.2.2.2.1,v11.2.2.2.2.2.2.2.1++[Ko.1],()) else none)) else none) else (if decide (v11.2.2.2.2.2.1.1=(6:Int))=true then (if aI v11.1 v11.2.2.2.2.1.2.1.length then ((aF n (((((v11.2.2.2.2.1.2.1.getD v11.1.toNat dD).2).2).2).1) v11.2.2.2.2.2.1).bind fun Ol=>(if ([v11.1]:List Int)=([v11.1]:List Int) then some (v11.2.2.2.2.2.2.2.1,(0:Int),(v11.2.2.2.2.1.1,(iM (iM v11.2.2.2.2.1.2.1 v11.1.toNat dD fun z1=>(z1.1,z1.2.1,z1.2.2.1,Ol.2.1,z1.2.2.2.2)) v11.1.toNat dD fun z1=>(z1.1,z1.2.1,z1.2.2.1,((((((iM v11.2.2.2.2.1.2.1 v11.1.toNat dD fun z1=>(z1.1,z1.2.1,z1.2.2.1,Ol.2.1,z1.2.2.2.2)).getD v11.1.toNat dD).2).2).2).1).take Ol.1.toNat,z1.2.2.2.2)),v11.2.2.2.2.1.2.2),()) else none)) else none) else some (v11.2.2.2.2.2.2.2.1,(0:Int),v11.2.2.2.2.1,())))) n (v8.1,v8.2.1,(v8.2.2.2.2.2.2.2.1.length:Int),(0:Int),v8.2.2.2.2.2.1,v8.2.2.2.2.2.2.1,v8.2.2.2.2.2.2.2.1,([]:List Int),()))))) else none))) n (a1,r1.1,((((a0.2.1.getD a1.toNat dD).2).2).2).1,((((((a0.2.1.getD a1.toNat dD).2).2).2).1).length:Int),(0:Int),a0,a2,([]:List rz),())) else none))))
def ab2:Entry:=⟨148,[.rw qm [5,100,103] [5,100,103,4294967295] [5,103], .val (.int .i64) [], .val gH []],[.own (.sl 2 (.int .i64)) [2] [] [], .val (.int .i64) [] []],fun n c=>kF n c.1 c.2.1 c.2.2.1⟩
def afs:Hint:=⟨0,[62,104,111],[(1,[0,1,5,8,9,43,44,45],[0,162,1122]),(3,[0,1,5,12,13,85,86,87],[0,162,1122,2690])],[(35,[5])],[(143,some 22,VZ),(175,some 53,Ov),(176,some 80,abZ),(145,some 94,ab0),(177,some 113,V5)],[],[(2245,[0])],[],[]⟩
theorem ai4:gQ T afs Tryz.f148 ab2:=by intro n c; kernel_rfl
theorem aj3 [Fr] (n:Nat):ak Tryz.prog n ab2:=aj mixed aK Tryz.func148 (by kernel_rfl) (hi:=afs) (aa (aco n) (aa (Zj n) (aa (ajZ n) (aa (aj0 n) (aa (acu n) aD))))) ai4
def mD (n:Nat) (a0:fI) (a1:fu):Option ((List Int)×Int×fI×Unit):=(if decide (a1.1=(1:Int))=true then ((nS n a0 a1.2.1).bind fun r1=>some (([]:List Int),r1.1,r1.2.1,())) else ((iZ n a0 a1.2.1).bind fun r2=>(if decide (r2.1<(0:Int))=true then some (([]:List Int),(4:Int),a0,()) else (if aI r2.1 a0.2.1.length then (if decide (a1.1=(2:Int))=true then ((bO n a0.2.1 r2.1 (IntKind.i64.wrap (r2.1+(1:Int)))).bind fun r3=>(if ([]:List Int)=([]:List Int) then some (([]:List Int),(0:Int),(a0.1,r3.2.1.take r3.1.toNat,a0.2.2),()) else none)) else (if decide (a1.1=(3:Int))=true then (if decide (((((((a0.2.1.getD r2.1.toNat dD).2).2).2).1).length:Int)=(6:Int))=true then some (([]:List Int),(10:Int),a0,()) else (if decide (((((a0.2.1.getD r2.1.toNat dD).2).2).1)=(1000:Int))=true then some (([]:List Int),(10:Int),a0,()) else ((sw n (a0.2.1.getD r2.1.toNat dD) ((0:Int),a1.2.2.2.2.2.1,a1.2.2.2.2.2.2.1,a1.2.2.2.2.2.2.2.1,())).bind fun r4=>some ([r4.1],(0:Int),(a0.1,a0.2.1.set r2.1.toNat r4.2.1,a0.2.2),())))) else (if decide (a1.1=(4:Int))=true then ((mq n (a0.2.1.getD r2.1.toNat dD) a1).bind fun r5=>some (r5.1,(0:Int),(a0.1,a0.2.1.set r2.1.toNat r5.2.1,a0.2.2),())) else (if decide (a1.1=(7:Int))=true then ((fV n (a0.2.1.getD r2.1.toNat dD)).bind fun r6=>some (r6.1,(0:Int),(a0.1,a0.2.1.set r2.1.toNat r6.2.1,a0.2.2),())) else ((kF n a0 r2.1 a1).bind fun r7=>some (r7.1,r7.2.1,r7.2.2.1,())))))) else none))))
def ab3:Entry:=⟨109,[.rw qm [5,100,103] [5,100,103,4294967295] [5,100,103,4294967294], .val gH []],[.own (.sl 2 (.int .i64)) [2] [] [], .val (.int .i64) [] []],fun n c=>mD n c.1 c.2.1⟩
def aft:Hint:=⟨0,[26,37],[],[],[(142,some 14,abW),(143,some 20,VZ),(144,some 41,V3),(145,some 67,abX),(146,some 73,abY),(147,some 77,V4),(148,some 81,ab2)],[],[],[],[]⟩
theorem ai5:gQ T aft Tryz.f109 ab3:=by intro n c; kernel_rfl
theorem aj4 [Fr] (n:Nat):ak Tryz.prog n ab3:=aj mixed aK Tryz.func109 (by kernel_rfl) (hi:=aft) (aa (ajW n) (aa (aco n) (aa (acp n) (aa (ajX n) (aa (ajY n) (aa (acs n) (aa (aj3 n) aD))))))) ai5
def sD (n:Nat) (a0:fI) (a1:fu):Option (FT×Unit):=((oN n a1).bind fun r1=>(if (!decide (r1.1=(0:Int)))=true then some ((r1.1,([]:List Int),OI,()),()) else ((jc n a0).bind fun r2=>((mD n r2.1 a1).bind fun r3=>(if (!decide (r3.2.1=(0:Int)))=true then some ((r3.2.1,([]:List Int),OI,()),()) else some (((0:Int),r3.1,r3.2.2.1,()),()))))))
def ab4:Entry:=⟨74,[.val qm [], .val gH []],[.own M7 [2,5,100,103] [] []],fun n c=>sD n c.1 c.2.1⟩
def afu:Hint:=⟨0,[27],[],[],[(108,some 10,Za),(67,some 16,VY),(109,some 19,ab3)],[],[],[],[]⟩
theorem ai6:gQ T afu Tryz.f74 ab4:=by intro n c; kernel_rfl
theorem aj5 [Fr] (n:Nat):ak Tryz.prog n ab4:=aj mixed aK Tryz.func74 (by kernel_rfl) (hi:=afu) (aa (afU n) (aa (acn n) (aa (aj4 n) aD))) ai6
def nu (n:Nat) (a0:fI) (a1:List fu):Option (FT×Unit):=(if decide ((a1.length:Int)>(60:Int))=true then some (((2:Int),([]:List Int),OI,()),()) else ((iw n a0).bind fun r1=>(if (!decide (r1.1=(0:Int)))=true then some ((r1.1,([]:List Int),OI,()),()) else ((jc n a0).bind fun r2=>(rounds (fun L3 (v3:(List fu)×Int×Int×FT×fI×Unit)=>(if decide (v3.2.2.1<v3.2.1)=true then (if aI v3.2.2.1 v3.1.length then ((sD n v3.2.2.2.2.1 (v3.1.getD v3.2.2.1.toNat vD)).bind fun r4=>(if (!decide (r4.1.1=(0:Int)))=true then some ((r4.1.1,([]:List Int),OI,()),()) else L3 (v3.1,v3.2.1,IntKind.i64.wrap (v3.2.2.1+(1:Int)),v3.2.2.2.1,r4.1.2.2.1,()))) else none) else some (((0:Int),([]:List Int),v3.2.2.2.2.1,()),()))) n (a1,(a1.length:Int),(0:Int),acA,r2.1,()))))))
def ab5:Entry:=⟨29,[.val qm [], .val (.sl 48 gH) []],[.own M7 [2,5,100,103] [] []],fun n c=>nu n c.1 c.2.1⟩
def afv:Hint:=⟨0,[38,40],[(0,[4,6,22,23,24],[130,194])],[],[(73,some 15,Y9),(67,some 21,VY),(74,some 30,ab4)],[],[],[],[]⟩
theorem ai7:gQ T afv Tryz.f29 ab5:=by intro n c; kernel_rfl
theorem aj6 [Fr] (n:Nat):ak Tryz.prog n ab5:=aj mixed aK Tryz.func29 (by kernel_rfl) (hi:=afv) (aa (afT n) (aa (acn n) (aa (aj5 n) aD))) ai7
def gU (n:Nat) (a0:List Int) (a1:List Int):Option (Bool×Unit):=(if (!decide ((a0.length:Int)=(a1.length:Int)))=true then some (false,()) else (rounds (fun L1 (v1:(List Int)×(List Int)×Int×Int×Unit)=>(if decide (v1.2.2.2.1<v1.2.2.1)=true then (if aI v1.2.2.2.1 v1.1.length then (if aI v1.2.2.2.1 v1.2.1.length then (if (!decide ((v1.1.getD v1.2.2.2.1.toNat (0:Int))=(v1.2.1.getD v1.2.2.2.1.toNat (0:Int))))=true then some (false,()) else L1 (v1.1,v1.2.1,v1.2.2.1,IntKind.i64.wrap (v1.2.2.2.1+(1:Int)),())) else none) else none) else some (true,()))) n (a0,a1,(a0.length:Int),(0:Int),())))
def ab6:Entry:=⟨111,[.val (.sl 5 (.int .u8)) [], .val (.sl 5 (.int .u8)) []],[.val .bool [] []],fun n c=>gU n c.1 c.2.1⟩
def afw:Hint:=⟨0,[],[(0,[0,1,12,13],[])],[],[],[],[],[],[]⟩
theorem ai8:gQ T afw Tryz.f111 ab6:=by intro n c; kernel_rfl
theorem aj7 [Fr] (n:Nat):ak Tryz.prog n ab6:=aj mixed aK Tryz.func111 (by kernel_rfl) (hi:=afw) aD ai8
def kG (n:Nat) (a0:rz) (a1:rz):Option (Bool×Unit):=(if decide (a0.1=a1.1)=true then (if decide (a0.2.1=a1.2.1)=true then (if decide (a0.2.2.1=a1.2.2.1)=true then ((gU n a0.2.2.2.1 a1.2.2.2.1).bind fun r1=>some (r1.1,())) else some (false,())) else some (false,())) else some (false,()))
def ab7:Entry:=⟨80,[.val zw [], .val zw []],[.val .bool [] []],fun n c=>kG n c.1 c.2.1⟩
def afx:Hint:=⟨0,[],[],[],[(111,some 29,ab6)],[],[],[],[]⟩
theorem ai9:gQ T afx Tryz.f80 ab7:=by intro n c; kernel_rfl
theorem aj8 [Fr] (n:Nat):ak Tryz.prog n ab7:=aj mixed aK Tryz.func80 (by kernel_rfl) (hi:=afx) (aa (aj7 n) aD) ai9
def aM (n:Nat) (a0:List rz) (a1:List rz):Option (Bool×Unit):=(if (!decide ((a0.length:Int)=(a1.length:Int)))=true then some (false,()) else (rounds (fun L1 (v1:(List rz)×(List rz)×Int×Int×Unit)=>(if decide (v1.2.2.2.1<v1.2.2.1)=true then (if aI v1.2.2.2.1 v1.2.1.length then (if aI v1.2.2.2.1 v1.1.length then ((kG n (v1.2.1.getD v1.2.2.2.1.toNat ku) (v1.1.getD v1.2.2.2.1.toNat ku)).bind fun r2=>(if (!r2.1)=true then some (false,()) else L1 (v1.1,v1.2.1,v1.2.2.1,IntKind.i64.wrap (v1.2.2.2.1+(1:Int)),()))) else none) else none) else some (true,()))) n (a1,a0,(a0.length:Int),(0:Int),())))
def ab8:Entry:=⟨79,[.val (.sl 103 zw) [], .val (.sl 103 zw) [], .fn 80 []],[.val .bool [] []],fun n c=>aM n c.1 c.2.1⟩
def afy:Hint:=⟨0,[],[(0,[1,2,15,16,17],[])],[],[(80,some 29,ab7)],[],[],[],[]⟩
theorem aja:gQ T afy Tryz.f79 ab8:=by intro n c; kernel_rfl
theorem aj9 [Fr] (n:Nat):ak Tryz.prog n ab8:=aj mixed aK Tryz.func79 (by kernel_rfl) (hi:=afy) (aa (aj8 n) aD) aja
def kD (n:Nat) (a0:dP) (a1:dP):Option (Bool×Unit):=(if decide (a0.1=a1.1)=true then (if decide (a0.2.1=a1.2.1)=true then (if decide (a0.2.2.1=a1.2.2.1)=true then ((aM n a0.2.2.2.1 a1.2.2.2.1).bind fun r1=>some (r1.1,())) else some (false,())) else some (false,())) else some (false,()))
def VK:Entry:=⟨78,[.val nG [], .val nG []],[.val .bool [] []],fun n c=>kD n c.1 c.2.1⟩
def aao:Hint:=⟨0,[],[],[],[(79,some 29,ab8)],[],[],[],[]⟩
theorem adW:gQ T aao Tryz.f78 VK:=by intro n c; kernel_rfl
theorem afB [Fr] (n:Nat):ak Tryz.prog n VK:=aj mixed aK Tryz.func78 (by kernel_rfl) (hi:=aao) (aa (aj9 n) aD) adW
def bu (n:Nat) (a0:List dP) (a1:List dP):Option (Bool×Unit):=(if (!decide ((a0.length:Int)=(a1.length:Int)))=true then some (false,()) else (rounds (fun L1 (v1:(List dP)×(List dP)×Int×Int×Unit)=>(if decide (v1.2.2.2.1<v1.2.2.1)=true then (if aI v1.2.2.2.1 v1.2.1.length then (if aI v1.2.2.2.1 v1.1.length then ((kD n (v1.2.1.getD v1.2.2.2.1.toNat dD) (v1.1.getD v1.2.2.2.1.toNat dD)).bind fun r2=>(if (!r2.1)=true then some (false,()) else L1 (v1.1,v1.2.1,v1.2.2.1,IntKind.i64.wrap (v1.2.2.2.1+(1:Int)),()))) else none) else none) else some (true,()))) n (a1,a0,(a0.length:Int),(0:Int),())))
def VL:Entry:=⟨77,[.val (.sl 100 nG) [], .val (.sl 100 nG) [], .fn 78 []],[.val .bool [] []],fun n c=>bu n c.1 c.2.1⟩
def aap:Hint:=⟨0,[],[(0,[1,2,15,16,17],[])],[],[(78,some 29,VK)],[],[],[],[]⟩
theorem adX:gQ T aap Tryz.f77 VL:=by intro n c; kernel_rfl
theorem afC [Fr] (n:Nat):ak Tryz.prog n VL:=aj mixed aK Tryz.func77 (by kernel_rfl) (hi:=aap) (aa (afB n) aD) adX
def jS (n:Nat) (a0:fI) (a1:fI):Option (Bool×Unit):=(if decide (a0.1=a1.1)=true then ((bu n a0.2.1 a1.2.1).bind fun r1=>some (r1.1,())) else some (false,()))
def VM:Entry:=⟨32,[.val qm [], .val qm []],[.val .bool [] []],fun n c=>jS n c.1 c.2.1⟩
def aaq:Hint:=⟨0,[],[],[],[(77,some 15,VL)],[],[],[],[]⟩
theorem adY:gQ T aaq Tryz.f32 VM:=by intro n c; kernel_rfl
theorem afD [Fr] (n:Nat):ak Tryz.prog n VM:=aj mixed aK Tryz.func32 (by kernel_rfl) (hi:=aaq) (aa (afC n) aD) adY
def nT (n:Nat) (a0:yR):Option (Int×Unit):=(if decide ((IntKind.i64.wrap ((a0.2.1.length:Int)+(a0.2.2.1.length:Int)))>(8000:Int))=true then some ((2:Int),()) else (if (!a0.1)=true then (if decide ((a0.2.2.1.length:Int)>(0:Int))=true then some ((1:Int),()) else (if (!decide (a0.2.2.2.1.1=(0:Int)))=true then some ((1:Int),()) else (if decide ((a0.2.2.2.1.2.1.length:Int)>(0:Int))=true then some ((1:Int),()) else (if (!a0.1)=true then some ((0:Int),()) else ((iw n a0.2.2.2.1).bind fun r1=>(if (!decide (r1.1=(0:Int)))=true then some (r1.1,()) else ((jd n a0).bind fun r2=>(if (!r2.2.1)=true then some ((5:Int),()) else ((wC n).bind fun r3=>((nu n r3.1 r2.1).bind fun r4=>(if (!decide (r4.1.1=(0:Int)))=true then some ((9:Int),()) else ((jS n r4.1.2.2.1 a0.2.2.2.1).bind fun r5=>(if (!r5.1)=true then some ((9:Int),()) else some ((0:Int),())))))))))))))) else (if (!a0.1)=true then some ((0:Int),()) else ((iw n a0.2.2.2.1).bind fun r6=>(if (!decide (r6.1=(0:Int)))=true then some (r6.1,()) else ((jd n a0).bind fun r7=>(if (!r7.2.1)=true then some ((5:Int),()) else ((wC n).bind fun r8=>((nu n r8.1 r7.1).bind fun r9=>(if (!decide (r9.1.1=(0:Int)))=true then some ((9:Int),()) else ((jS n r9.1.2.2.1 a0.2.2.2.1).bind fun NV=>(if (!NV.1)=true then some ((9:Int),()) else some ((0:Int),())))))))))))))
def VN:Entry:=⟨31,[.val CZ []],[.val (.int .i64) [] []],fun n c=>nT n c.1⟩
def aar:Hint:=⟨0,[],[],[],[(73,some 45,Y9),(64,some 51,Zd),(76,some 56,abT),(29,some 58,ab5),(32,some 67,VM)],[],[],[],[]⟩
theorem adZ:gQ T aar Tryz.f31 VN:=by intro n c; kernel_rfl
theorem afE [Fr] (n:Nat):ak Tryz.prog n VN:=aj mixed aK Tryz.func31 (by kernel_rfl) (hi:=aar) (aa (afT n) (aa (afX n) (aa (ajT n) (aa (aj6 n) (aa (afD n) aD))))) adZ
def uS (n:Nat) (a0:yR):Option (Int×Unit):=((nT n a0).bind fun r1=>(if (!decide (r1.1=(0:Int)))=true then some (r1.1,()) else (if (!a0.1)=true then some ((9:Int),()) else some ((0:Int),()))))
def VO:Entry:=⟨48,[.val CZ []],[.val (.int .i64) [] []],fun n c=>uS n c.1⟩
def aas:Hint:=⟨0,[],[],[],[(31,some 5,VN)],[],[],[],[]⟩
theorem ad1:gQ T aas Tryz.f48 VO:=by intro n c; kernel_rfl
theorem afF [Fr] (n:Nat):ak Tryz.prog n VO:=aj mixed aK Tryz.func48 (by kernel_rfl) (hi:=aas) (aa (afE n) aD) ad1
def jr (n:Nat) (a0:List Int) (a1:List Int):Option (Bool×Unit):=(if (!decide ((a0.length:Int)=(a1.length:Int)))=true then some (false,()) else (rounds (fun L1 (v1:(List Int)×(List Int)×Int×Int×Unit)=>(if decide (v1.2.2.2.1<v1.2.2.1)=true then (if aI v1.2.2.2.1 v1.1.length then (if aI v1.2.2.2.1 v1.2.1.length then (if (!decide ((v1.1.getD v1.2.2.2.1.toNat (0:Int))=(v1.2.1.getD v1.2.2.2.1.toNat (0:Int))))=true then some (false,()) else L1 (v1.1,v1.2.1,v1.2.2.1,IntKind.i64.wrap (v1.2.2.2.1+(1:Int)),())) else none) else none) else some (true,()))) n (a0,a1,(a0.length:Int),(0:Int),())))
def VP:Entry:=⟨96,[.val (.sl 2 (.int .i64)) [], .val (.sl 2 (.int .i64)) []],[.val .bool [] []],fun n c=>jr n c.1 c.2.1⟩
def aat:Hint:=⟨0,[],[(0,[0,1,12,13],[])],[],[],[],[],[],[]⟩
theorem ad2:gQ T aat Tryz.f96 VP:=by intro n c; kernel_rfl
theorem afG [Fr] (n:Nat):ak Tryz.prog n VP:=aj mixed aK Tryz.func96 (by kernel_rfl) (hi:=aat) aD ad2
def sF (n:Nat) (a0:fu) (a1:fu):Option (Bool×Unit):=(if decide (a0.1=(4:Int))=true then (if decide (a1.1=(4:Int))=true then (if decide (a0.2.2.2.2.1=(1:Int))=true then (if decide (a1.2.2.2.2.1=(1:Int))=true then (if decide (a0.2.1=a1.2.1)=true then ((jr n a0.2.2.2.1 a1.2.2.2.1).bind fun r1=>some (r1.1,())) else some (false,())) else some (false,())) else some (false,())) else some (false,())) else some (false,()))
def VQ:Entry:=⟨65,[.val gH [], .val gH []],[.val .bool [] []],fun n c=>sF n c.1 c.2.1⟩
def aau:Hint:=⟨0,[],[],[],[(96,some 35,VP)],[],[],[],[]⟩
theorem ad3:gQ T aau Tryz.f65 VQ:=by intro n c; kernel_rfl
theorem afH [Fr] (n:Nat):ak Tryz.prog n VQ:=aj mixed aK Tryz.func65 (by kernel_rfl) (hi:=aau) (aa (afG n) aD) ad3
def pM (n:Nat) (a0:List fu):Option ((List Int)×Unit):=(rounds (fun L1 (v1:(List fu)×Int×Int×(List Int)×Unit)=>(if decide (v1.2.2.1<v1.2.1)=true then (if aI v1.2.2.1 v1.1.length then ((qy n (v1.1.getD v1.2.2.1.toNat vD)).bind fun r2=>(if (v1.2.2.2.1.length+r2.1.length) * 1≤140737488355328 then L1 (v1.1,v1.2.1,IntKind.i64.wrap (v1.2.2.1+(1:Int)),v1.2.2.2.1++r2.1,()) else none)) else none) else some (v1.2.2.2.1,()))) n (a0,(a0.length:Int),(0:Int),([]:List Int),()))
def VS:Entry:=⟨66,[.val (.sl 48 gH) []],[.own (.sl 5 (.int .u8)) [5] [] []],fun n c=>pM n c.1⟩
def aav:Hint:=⟨0,[],[(0,[3,7,8,9],[194])],[],[(97,some 15,Zb)],[],[],[],[]⟩
theorem ad4:gQ T aav Tryz.f66 VS:=by intro n c; kernel_rfl
theorem afI [Fr] (n:Nat):ak Tryz.prog n VS:=aj mixed aK Tryz.func66 (by kernel_rfl) (hi:=aav) (aa (afV n) aD) ad4
def kR (n:Nat) (a0:yR):Option (I8×Unit):=((uS n a0).bind fun r1=>(if (!decide (r1.1=(0:Int)))=true then some ((r1.1,([]:List Int),af9,()),()) else ((jd n a0).bind fun r2=>(rounds (fun L3 (v3:Int×Int×yR×I8×(List fu)×(List fu)×Unit)=>(if decide (v3.2.1<v3.1)=true then (if aI v3.2.1 v3.2.2.2.2.1.length then (if decide ((v3.2.2.2.2.2.1.length:Int)>(0:Int))=true then (if aI (IntKind.i64.wrap ((v3.2.2.2.2.2.1.length:Int) - (1:Int))) v3.2.2.2.2.2.1.length then ((sF n (v3.2.2.2.2.2.1.getD (IntKind.i64.wrap ((v3.2.2.2.2.2.1.length:Int) - (1:Int))).toNat vD) (v3.2.2.2.2.1.getD v3.2.1.toNat vD)).bind fun r4=>(if r4.1=true then (if aI (IntKind.i64.wrap ((v3.2.2.2.2.2.1.length:Int) - (1:Int))) v3.2.2.2.2.2.1.length then L3 (v3.1,IntKind.i64.wrap (v3.2.1+(1:Int)),v3.2.2.1,v3.2.2.2.1,v3.2.2.2.2.1,v3.2.2.2.2.2.1.set (IntKind.i64.wrap ((v3.2.2.2.2.2.1.length:Int) - (1:Int))).toNat (v3.2.2.2.2.1.getD v3.2.1.toNat vD),()) else none) else (if (v3.2.2.2.2.2.1.length+[v3.2.2.2.2.1.getD v3.2.1.toNat vD].length) * 112≤140737488355328 then L3 (v3.1,IntKind.i64.wrap (v3.2.1+(1:Int)),v3.2.2.1,v3.2.2.2.1,v3.2.2.2.2.1,v3.2.2.2.2.2.1++[v3.2.2.2.2.1.getD v3.2.1.toNat vD],()) else none))) else none) else (if (v3.2.2.2.2.2.1.length+[v3.2.2.2.2.1.getD v3.2.1.toNat vD].length) * 112≤140737488355328 then L3 (v3.1,IntKind.i64.wrap (v3.2.1+(1:Int)),v3.2.2.1,v3.2.2.2.1,v3.2.2.2.2.1,v3.2.2.2.2.2.1++[v3.2.2.2.2.1.getD v3.2.1.toNat vD],()) else none)) else none) else ((pM n v3.2.2.2.2.2.1).bind fun r5=>((jc n v3.2.2.1.2.2.2.1).bind fun r6=>some (((0:Int),([]:List Int),(true,r5.1,([]:List Int),r6.1,()),()),()))))) n ((r2.1.length:Int),(0:Int),a0,aga,r2.1,([]:List fu),())))))
def SC:Entry:=⟨19,[.val CZ []],[.own M8 [2,5,100,103] [] []],fun n c=>kR n c.1⟩
def aaw:Hint:=⟨0,[],[(0,[1,2,6,22,23,24],[34,66,578,674])],[(21,[2,5])],[(48,some 11,VO),(64,some 18,Zd),(65,some 39,VQ),(66,some 52,VS),(67,some 55,VY)],[],[(1349,[578])],[],[]⟩
theorem ad5:gQ T aaw Tryz.f19 SC:=by intro n c; kernel_rfl
theorem aax [Fr] (n:Nat):ak Tryz.prog n SC:=aj mixed aK Tryz.func19 (by kernel_rfl) (hi:=aaw) (aa (afF n) (aa (afX n) (aa (afH n) (aa (afI n) (aa (acn n) aD))))) ad5
def qL (n:Nat) (a0:List Int) (a1:List Int):Option (Bool×Unit):=(if (!decide ((a0.length:Int)=(a1.length:Int)))=true then some (false,()) else (rounds (fun L1 (v1:(List Int)×Zt0)=>(if decide (v1.2.2.1<(v1.1.length:Int))=true then (if aI v1.2.2.1 v1.1.length then (if aI v1.2.2.1 v1.2.1.length then (if (!decide ((v1.1.getD v1.2.2.1.toNat (0:Int))=(v1.2.1.getD v1.2.2.1.toNat (0:Int))))=true then some (false,()) else L1 (v1.1,v1.2.1,IntKind.i64.wrap (v1.2.2.1+(1:Int)),())) else none) else none) else some (true,()))) n (a0,a1,(0:Int),())))
def qd:List dH:=[.val (.sl 2 (.int .i64)) [], .val (.sl 2 (.int .i64)) []]
def zN:List nN:=[.val .bool [] []]
def vQ:Entry:=⟨52,qd,zN,fun n (c:Cont (kin qd))=>qL n c.1 c.2.1⟩
def AY:Hint:=⟨0,[],[(0,[0,1,5],[])],[],[],[],[],[],[]⟩
theorem G9:∀n (c:Cont (kin qd)),kg T AY Tryz.f52 qd zN n c=vQ.F n c:=by intro n c; kernel_rfl
theorem Hr [Fr] (n:Nat):ak Tryz.prog n vQ:=aj mixed aK Tryz.func52 (by kernel_rfl) (hi:=AY) aD G9
def kU (n:Nat) (a0:List Int) (a1:List Int):Option (Bool×Unit):=(if (!decide ((a0.length:Int)=(a1.length:Int)))=true then some (false,()) else (rounds (fun L1 (v1:(List Int)×Zt0)=>(if decide (v1.2.2.1<(v1.1.length:Int))=true then (if aI v1.2.2.1 v1.1.length then (if aI v1.2.2.1 v1.2.1.length then (if (!decide ((v1.1.getD v1.2.2.1.toNat (0:Int))=(v1.2.1.getD v1.2.2.1.toNat (0:Int))))=true then some (false,()) else L1 (v1.1,v1.2.1,IntKind.i64.wrap (v1.2.2.1+(1:Int)),())) else none) else none) else some (true,()))) n (a0,a1,(0:Int),())))
def qR:List dH:=[.val (.sl 5 (.int .u8)) [], .val (.sl 5 (.int .u8)) []]
def Bf:List nN:=[.val .bool [] []]
def oK:Entry:=⟨53,qR,Bf,fun n (c:Cont (kin qR))=>kU n c.1 c.2.1⟩
def BA:Hint:=⟨0,[],[(0,[0,1,5],[])],[],[],[],[],[],[]⟩
theorem IA:∀n (c:Cont (kin qR)),kg T BA Tryz.f53 qR Bf n c=oK.F n c:=by intro n c; kernel_rfl
theorem xg [Fr] (n:Nat):ak Tryz.prog n oK:=aj mixed aK Tryz.func53 (by kernel_rfl) (hi:=BA) aD IA
def kW (n:Nat) (a0:rz) (a1:rz):Option (Bool×Unit):=(if (!decide (a0.1=a1.1))=true then some (false,()) else (if (!decide (a0.2.1=a1.2.1))=true then some (false,()) else (if (!decide (a0.2.2.1=a1.2.2.1))=true then some (false,()) else ((kU n a0.2.2.2.1 a1.2.2.2.1).bind fun r1=>(if (!r1.1)=true then some (false,()) else some (true,()))))))
def ou:List dH:=[.val zw [], .val zw []]
def yx:List nN:=[.val .bool [] []]
def um:Entry:=⟨192,ou,yx,fun n (c:Cont (kin ou))=>kW n c.1 c.2.1⟩
def zb:Hint:=⟨0,[],[],[],[(53,some 24,oK)],[],[],[],[]⟩
theorem Fq:∀n (c:Cont (kin ou)),kg T zb Tryz.f192 ou yx n c=um.F n c:=by intro n c; kernel_rfl
theorem FE [Fr] (n:Nat):ak Tryz.prog n um:=aj mixed aK Tryz.func192 (by kernel_rfl) (hi:=zb) (aa (xg n) aD) Fq
def nU (n:Nat) (a0:List rz) (a1:List rz):Option (Bool×Unit):=(if (!decide ((a0.length:Int)=(a1.length:Int)))=true then some (false,()) else (rounds (fun L1 (v1:(List rz)×(List rz)×Int×Unit)=>(if decide (v1.2.2.1<(v1.1.length:Int))=true then (if aI v1.2.2.1 v1.1.length then (if aI v1.2.2.1 v1.2.1.length then ((kW n (v1.1.getD v1.2.2.1.toNat ku) (v1.2.1.getD v1.2.2.1.toNat ku)).bind fun r2=>(if (!r2.1)=true then some (false,()) else L1 (v1.1,v1.2.1,IntKind.i64.wrap (v1.2.2.1+(1:Int)),()))) else none) else none) else some (true,()))) n (a0,a1,(0:Int),())))
def mQ:List dH:=[.val (.sl 103 zw) [], .val (.sl 103 zw) []]
def xJ:List nN:=[.val .bool [] []]
def rW:Entry:=⟨160,mQ,xJ,fun n (c:Cont (kin mQ))=>nU n c.1 c.2.1⟩
def xY:Hint:=⟨0,[],[(0,[0,1,5],[])],[],[(192,some 25,um)],[],[],[],[]⟩
theorem D9:∀n (c:Cont (kin mQ)),kg T xY Tryz.f160 mQ xJ n c=rW.F n c:=by intro n c; kernel_rfl
theorem Ei [Fr] (n:Nat):ak Tryz.prog n rW:=aj mixed aK Tryz.func160 (by kernel_rfl) (hi:=xY) (aa (FE n) aD) D9
def sG (n:Nat) (a0:dP) (a1:dP):Option (Bool×Unit):=(if (!decide (a0.1=a1.1))=true then some (false,()) else (if (!decide (a0.2.1=a1.2.1))=true then some (false,()) else (if (!decide (a0.2.2.1=a1.2.2.1))=true then some (false,()) else ((nU n a0.2.2.2.1 a1.2.2.2.1).bind fun r1=>(if (!r1.1)=true then some (false,()) else some (true,()))))))
def vg:List dH:=[.val nG [], .val nG []]
def Dn:List nN:=[.val .bool [] []]
def z8:Entry:=⟨119,vg,Dn,fun n (c:Cont (kin vg))=>sG n c.1 c.2.1⟩
def Ee:Hint:=⟨0,[],[],[],[(160,some 24,rW)],[],[],[],[]⟩
theorem MU:∀n (c:Cont (kin vg)),kg T Ee Tryz.f119 vg Dn n c=z8.F n c:=by intro n c; kernel_rfl
theorem MX [Fr] (n:Nat):ak Tryz.prog n z8:=aj mixed aK Tryz.func119 (by kernel_rfl) (hi:=Ee) (aa (Ei n) aD) MU
def uT (n:Nat) (a0:List dP) (a1:List dP):Option (Bool×Unit):=(if (!decide ((a0.length:Int)=(a1.length:Int)))=true then some (false,()) else (rounds (fun L1 (v1:(List dP)×(List dP)×Int×Unit)=>(if decide (v1.2.2.1<(v1.1.length:Int))=true then (if aI v1.2.2.1 v1.1.length then (if aI v1.2.2.1 v1.2.1.length then ((sG n (v1.1.getD v1.2.2.1.toNat dD) (v1.2.1.getD v1.2.2.1.toNat dD)).bind fun r2=>(if (!r2.1)=true then some (false,()) else L1 (v1.1,v1.2.1,IntKind.i64.wrap (v1.2.2.1+(1:Int)),()))) else none) else none) else some (true,()))) n (a0,a1,(0:Int),())))
def tO:List dH:=[.val (.sl 100 nG) [], .val (.sl 100 nG) []]
def Ck:List nN:=[.val .bool [] []]
def yL:Entry:=⟨88,tO,Ck,fun n (c:Cont (kin tO))=>uT n c.1 c.2.1⟩
def De:Hint:=⟨0,[],[(0,[0,1,5],[])],[],[(119,some 25,z8)],[],[],[],[]⟩
theorem KU:∀n (c:Cont (kin tO)),kg T De Tryz.f88 tO Ck n c=yL.F n c:=by intro n c; kernel_rfl
theorem KZ [Fr] (n:Nat):ak Tryz.prog n yL:=aj mixed aK Tryz.func88 (by kernel_rfl) (hi:=De) (aa (MX n) aD) KU
def sH (n:Nat) (a0:fI) (a1:fI):Option (Bool×Unit):=(if (!decide (a0.1=a1.1))=true then some (false,()) else ((uT n a0.2.1 a1.2.1).bind fun r1=>(if (!r1.1)=true then some (false,()) else some (true,()))))
def qU:List dH:=[.val qm [], .val qm []]
def Bg:List nN:=[.val .bool [] []]
def wV:Entry:=⟨54,qU,Bg,fun n (c:Cont (kin qU))=>sH n c.1 c.2.1⟩
def BB:Hint:=⟨0,[],[],[],[(88,some 14,yL)],[],[],[],[]⟩
theorem IB:∀n (c:Cont (kin qU)),kg T BB Tryz.f54 qU Bg n c=wV.F n c:=by intro n c; kernel_rfl
theorem IP [Fr] (n:Nat):ak Tryz.prog n wV:=aj mixed aK Tryz.func54 (by kernel_rfl) (hi:=BB) (aa (KZ n) aD) IB
def kY (n:Nat) (a0:yR) (a1:yR):Option (Bool×Unit):=(if (!(a0.1 == a1.1))=true then some (false,()) else ((kU n a0.2.1 a1.2.1).bind fun r1=>(if (!r1.1)=true then some (false,()) else ((kU n a0.2.2.1 a1.2.2.1).bind fun r2=>(if (!r2.1)=true then some (false,()) else ((sH n a0.2.2.2.1 a1.2.2.2.1).bind fun r3=>(if (!r3.1)=true then some (false,()) else some (true,()))))))))
def qV:List dH:=[.val CZ [], .val CZ []]
def Bh:List nN:=[.val .bool [] []]
def rX:Entry:=⟨14,qV,Bh,fun n (c:Cont (kin qV))=>kY n c.1 c.2.1⟩
def BC:Hint:=⟨0,[],[],[],[(53,some 14,oK),(53,some 20,oK),(54,some 26,wV)],[],[],[],[]⟩
theorem IC:∀n (c:Cont (kin qV)),kg T BC Tryz.f14 qV Bh n c=rX.F n c:=by intro n c; kernel_rfl
theorem BK [Fr] (n:Nat):ak Tryz.prog n rX:=aj mixed aK Tryz.func14 (by kernel_rfl) (hi:=BC) (aa (xg n) (aa (xg n) (aa (IP n) aD))) IC
def fG (n:Nat) (a0:I8) (a1:I8):Option (Bool×Unit):=(if (!decide (a0.1=a1.1))=true then some (false,()) else ((qL n a0.2.1 a1.2.1).bind fun r1=>(if (!r1.1)=true then some (false,()) else ((kY n a0.2.2.1 a1.2.2.1).bind fun r2=>(if (!r2.1)=true then some (false,()) else some (true,()))))))
def jH:List dH:=[.val M8 [], .val M8 []]
def uj:List nN:=[.val .bool [] []]
def gY:Entry:=⟨13,jH,uj,fun n (c:Cont (kin jH))=>fG n c.1 c.2.1⟩
def vB:Hint:=⟨0,[],[],[],[(52,some 14,vQ),(14,some 20,rX)],[],[],[],[]⟩
theorem Bw:∀n (c:Cont (kin jH)),kg T vB Tryz.f13 jH uj n c=gY.F n c:=by intro n c; kernel_rfl
theorem oV [Fr] (n:Nat):ak Tryz.prog n gY:=aj mixed aK Tryz.func13 (by kernel_rfl) (hi:=vB) (aa (Hr n) (aa (BK n) aD)) Bw
def je (n:Nat) (a0:List Int) (a1:Int):Option (Int×(List Int)×Unit):=(rounds (fun L1 (v1:Int×Int×(List Int)×Unit)=>(if decide (v1.2.1<(v1.2.2.1.length:Int))=true then (if aI v1.2.1 v1.2.2.1.length then L1 (IntKind.i64.wrap (v1.1+(1:Int)),IntKind.i64.wrap (v1.2.1+(1:Int)),v1.2.2.1.set v1.2.1.toNat (IntKind.u8.wrap v1.1),()) else none) else some (v1.1,v1.2.2.1,()))) n (a1,(0:Int),a0,()))
def oF:List dH:=[.jI (.sl 5 (.int .u8)) [5] [5], .val (.int .i64) []]
def yC:List nN:=[.val (.int .i64) [] []]
def kP:Entry:=⟨55,oF,yC,fun n (c:Cont (kin oF))=>je n c.1 c.2.1⟩
def zi:Hint:=⟨0,[],[(0,[0,1,5],[0])],[],[],[],[],[],[]⟩
theorem Fx:∀n (c:Cont (kin oF)),kg T zi Tryz.f55 oF yC n c=kP.F n c:=by intro n c; kernel_rfl
theorem uC [Fr] (n:Nat):ak Tryz.prog n kP:=aj mixed aK Tryz.func55 (by kernel_rfl) (hi:=zi) aD Fx
def iB (n:Nat) (a0:Int):Option ((List Int)×Unit):=(if decide (a0≤(0:Int))=true then some ([109,48],()) else (rounds (fun L1 (v1:Int×(List Int)×Unit)=>(if decide (v1.1>(0:Int))=true then (if (10:Int)≠0 then (if [IntKind.u8.wrap (IntKind.i64.wrap ((48:Int)+(v1.1.tmod (10:Int))))].length+v1.2.1.length≤9223372036854775807 then (if (10:Int)≠0 then L1 (IntKind.i64.wrap (v1.1.tdiv (10:Int)),[IntKind.u8.wrap (IntKind.i64.wrap ((48:Int)+(v1.1.tmod (10:Int))))]++v1.2.1,()) else none) else none) else none) else (if [109].length+v1.2.1.length≤9223372036854775807 then some ([109]++v1.2.1,()) else none))) n (a0,([]:List Int),())))
def qi:List dH:=[.val (.int .i64) []]
def zS:List nN:=[.val .str [] []]
def qK:Entry:=⟨120,qi,zS,fun n (c:Cont (kin qi))=>iB n c.1⟩
def A8:Hint:=⟨0,[],[(0,[0,3],[])],[],[],[],[],[],[]⟩
theorem Ho:∀n (c:Cont (kin qi)),kg T A8 Tryz.f120 qi zS n c=qK.F n c:=by intro n c; kernel_rfl
theorem A9 [Fr] (n:Nat):ak Tryz.prog n qK:=aj mixed aK Tryz.func120 (by kernel_rfl) (hi:=A8) aD Ho
def kI (n:Nat) (a0:List rz) (a1:Int):Option (Int×(List rz)×Unit):=(rounds (fun L1 (v1:Int×Int×(List rz)×Unit)=>(if decide (v1.2.1<(v1.2.2.1.length:Int))=true then (if aI v1.2.1 v1.2.2.1.length then (if aI v1.2.1 (iM v1.2.2.1 v1.2.1.toNat ku fun z1=>(v1.1,z1.2)).length then (if aI v1.2.1 (iM (iM v1.2.2.1 v1.2.1.toNat ku fun z1=>(v1.1,z1.2)) v1.2.1.toNat ku fun z1=>(z1.1,IntKind.i64.wrap (v1.1+(1:Int)),z1.2.2)).length then (if aI v1.2.1 (iM (iM (iM v1.2.2.1 v1.2.1.toNat ku fun z1=>(v1.1,z1.2)) v1.2.1.toNat ku fun z1=>(z1.1,IntKind.i64.wrap (v1.1+(1:Int)),z1.2.2)) v1.2.1.toNat ku fun z1=>(z1.1,z1.2.1,IntKind.i64.wrap ((IntKind.i64.wrap (v1.1+(1:Int)))+(1:Int)),z1.2.2.2)).length then ((je n ((((((iM (iM (iM v1.2.2.1 v1.2.1.toNat ku fun z1=>(v1.1,z1.2)) v1.2.1.toNat ku fun z1=>(z1.1,IntKind.i64.wrap (v1.1+(1:Int)),z1.2.2)) v1.2.1.toNat ku fun z1=>(z1.1,z1.2.1,IntKind.i64.wrap ((IntKind.i64.wrap (v1.1+(1:Int)))+(1:Int)),z1.2.2.2)).getD v1.2.1.toNat ku).2).2).2).1) (IntKind.i64.wrap ((IntKind.i64.wrap ((IntKind.i64.wrap (v1.1+(1:Int)))+(1:Int)))+(1:Int)))).bind fun r2=>L1 (r2.1,IntKind.i64.wrap (v1.2.1+(1:Int)),(iM (iM (iM (iM v1.2.2.1 v1.2.1.toNat ku fun z1=>(v1.1,z1.2)) v1.2.1.toNat ku fun z1=>(z1.1,IntKind.i64.wrap (v1.1+(1:Int)),z1.2.2)) v1.2.1.toNat ku fun z1=>(z1.1,z1.2.1,IntKind.i64.wrap ((IntKind.i64.wrap (v1.1+(1:Int)))+(1:Int)),z1.2.2.2)) v1.2.1.toNat ku fun z1=>(z1.1,z1.2.1,z1.2.2.1,r2.2.1,z1.2.2.2.2)),())) else none) else none) else none) else none) else some (v1.1,v1.2.2.1,()))) n (a1,(0:Int),a0,()))
def jZ:List dH:=[.jI (.sl 103 zw) [5,103] [5,103,4294967295], .val (.int .i64) []]
def vN:List nN:=[.val (.int .i64) [] []]
def ql:Entry:=⟨121,jZ,vN,fun n (c:Cont (kin jZ))=>kI n c.1 c.2.1⟩
def vZ:Hint:=⟨0,[37],[(0,[0,1,5],[0])],[],[(55,some 39,kP)],[],[],[],[]⟩
theorem CW:∀n (c:Cont (kin jZ)),kg T vZ Tryz.f121 jZ vN n c=ql.F n c:=by intro n c; kernel_rfl
theorem CY [Fr] (n:Nat):ak Tryz.prog n ql:=aj mixed aK Tryz.func121 (by kernel_rfl) (hi:=vZ) (aa (uC n) aD) CW
def qM (n:Nat) (a0:List dP) (a1:Int):Option fI:=(rounds (fun L1 (v1:Int×fI)=>(if decide (v1.2.1<(v1.2.2.1.length:Int))=true then ((iB n v1.1).bind fun r2=>(if aI v1.2.1 v1.2.2.1.length then (if aI v1.2.1 (iM v1.2.2.1 v1.2.1.toNat dD fun z1=>(r2.1,z1.2)).length then (if aI v1.2.1 (iM (iM v1.2.2.1 v1.2.1.toNat dD fun z1=>(r2.1,z1.2)) v1.2.1.toNat dD fun z1=>(z1.1,IntKind.i64.wrap (v1.1+(1:Int)),z1.2.2)).length then (if aI v1.2.1 (iM (iM (iM v1.2.2.1 v1.2.1.toNat dD fun z1=>(r2.1,z1.2)) v1.2.1.toNat dD fun z1=>(z1.1,IntKind.i64.wrap (v1.1+(1:Int)),z1.2.2)) v1.2.1.toNat dD fun z1=>(z1.1,z1.2.1,IntKind.i64.wrap ((IntKind.i64.wrap (v1.1+(1:Int)))+(1:Int)),z1.2.2.2)).length then ((kI n ((((((iM (iM (iM v1.2.2.1 v1.2.1.toNat dD fun z1=>(r2.1,z1.2)) v1.2.1.toNat dD fun z1=>(z1.1,IntKind.i64.wrap (v1.1+(1:Int)),z1.2.2)) v1.2.1.toNat dD fun z1=>(z1.1,z1.2.1,IntKind.i64.wrap ((IntKind.i64.wrap (v1.1+(1:Int)))+(1:Int)),z1.2.2.2)).getD v1.2.1.toNat dD).2).2).2).1) (IntKind.i64.wrap ((IntKind.i64.wrap ((IntKind.i64.wrap (v1.1+(1:Int)))+(1:Int)))+(1:Int)))).bind fun r3=>L1 (r3.1,IntKind.i64.wrap (v1.2.1+(1:Int)),(iM (iM (iM (iM v1.2.2.1 v1.2.1.toNat dD fun z1=>(r2.1,z1.2)) v1.2.1.toNat dD fun z1=>(z1.1,IntKind.i64.wrap (v1.1+(1:Int)),z1.2.2)) v1.2.1.toNat dD fun z1=>(z1.1,z1.2.1,IntKind.i64.wrap ((IntKind.i64.wrap (v1.1+(1:Int)))+(1:Int)),z1.2.2.2)) v1.2.1.toNat dD fun z1=>(z1.1,z1.2.1,z1.2.2.1,r3.2.1,z1.2.2.2.2)),())) else none) else none) else none) else none)) else some (v1.1,v1.2.2.1,()))) n (a1,(0:Int),a0,()))
def qh:List dH:=[.jI (.sl 100 nG) [5,100,103] [5,100,103,4294967295], .val (.int .i64) []]
def zR:List nN:=[.val (.int .i64) [] []]
def vS:Entry:=⟨89,qh,zR,fun n (c:Cont (kin qh))=>qM n c.1 c.2.1⟩
def A7:Hint:=⟨0,[38],[(0,[0,1,5],[0])],[],[(120,some 15,qK),(121,some 40,ql)],[],[],[],[]⟩
theorem Hg:∀n (c:Cont (kin qh)),kg T A7 Tryz.f89 qh zR n c=vS.F n c:=by intro n c; kernel_rfl
theorem Hu [Fr] (n:Nat):ak Tryz.prog n vS:=aj mixed aK Tryz.func89 (by kernel_rfl) (hi:=A7) (aa (A9 n) (aa (CY n) aD)) Hg
def pO (n:Nat) (a0:fI) (a1:Int):Option (Int×fI×Unit):=((qM n a0.2.1 a1).bind fun r1=>some (r1.1,(a0.1,r1.2.1,a0.2.2),()))
def oG:List dH:=[.jI qm [5,100,103] [5,100,103,4294967295], .val (.int .i64) []]
def yD:List nN:=[.val (.int .i64) [] []]
def uu:Entry:=⟨56,oG,yD,fun n (c:Cont (kin oG))=>pO n c.1 c.2.1⟩
def zl:Hint:=⟨0,[],[],[],[(89,some 8,vS)],[],[],[],[]⟩
theorem Fy:∀n (c:Cont (kin oG)),kg T zl Tryz.f56 oG yD n c=uu.F n c:=by intro n c; kernel_rfl
theorem FK [Fr] (n:Nat):ak Tryz.prog n uu:=aj mixed aK Tryz.func56 (by kernel_rfl) (hi:=zl) (aa (Hu n) aD) Fy
def lu (n:Nat) (a0:yR) (a1:Int):Option (Int×yR×Unit):=((je n a0.2.1 a1).bind fun r1=>((je n a0.2.2.1 r1.1).bind fun r2=>((pO n a0.2.2.2.1 r2.1).bind fun r3=>some (r3.1,(a0.1,r1.2.1,r2.2.1,r3.2.1,a0.2.2.2.2),()))))
def oH:List dH:=[.jI CZ [5,100,103] [5,100,103,4294967295], .val (.int .i64) []]
def yE:List nN:=[.val (.int .i64) [] []]
def pI:Entry:=⟨15,oH,yE,fun n (c:Cont (kin oH))=>lu n c.1 c.2.1⟩
def zm:Hint:=⟨0,[],[],[],[(55,some 8,kP),(55,some 12,kP),(56,some 16,uu)],[],[],[],[]⟩
theorem Fz:∀n (c:Cont (kin oH)),kg T zm Tryz.f15 oH yE n c=pI.F n c:=by intro n c; kernel_rfl
theorem zu [Fr] (n:Nat):ak Tryz.prog n pI:=aj mixed aK Tryz.func15 (by kernel_rfl) (hi:=zm) (aa (uC n) (aa (uC n) (aa (FK n) aD))) Fz
def nV (n:Nat) (a0:List Int) (a1:Int):Option (Int×(List Int)×Unit):=(rounds (fun L1 (v1:Int×Int×(List Int)×Unit)=>(if decide (v1.2.1<(v1.2.2.1.length:Int))=true then (if aI v1.2.1 v1.2.2.1.length then L1 (IntKind.i64.wrap (v1.1+(1:Int)),IntKind.i64.wrap (v1.2.1+(1:Int)),v1.2.2.1.set v1.2.1.toNat v1.1,()) else none) else some (v1.1,v1.2.2.1,()))) n (a1,(0:Int),a0,()))
def mW:List dH:=[.jI (.sl 2 (.int .i64)) [2] [2], .val (.int .i64) []]
def xL:List nN:=[.val (.int .i64) [] []]
def rZ:Entry:=⟨57,mW,xL,fun n (c:Cont (kin mW))=>nV n c.1 c.2.1⟩
def x8:Hint:=⟨0,[],[(0,[0,1,5],[0])],[],[],[],[],[],[]⟩
theorem Eb:∀n (c:Cont (kin mW)),kg T x8 Tryz.f57 mW xL n c=rZ.F n c:=by intro n c; kernel_rfl
theorem Em [Fr] (n:Nat):ak Tryz.prog n rZ:=aj mixed aK Tryz.func57 (by kernel_rfl) (hi:=x8) aD Eb
def iO (n:Nat) (a0:I8) (a1:Int):Option (Int×I8×Unit):=((nV n a0.2.1 a1).bind fun r1=>((lu n a0.2.2.1 r1.1).bind fun r2=>some (r2.1,(a0.1,r1.2.1,r2.2.1,a0.2.2.2),())))
def iA:List dH:=[.jI M8 [2,5,100,103] [2,5,100,103,4294967295], .val (.int .i64) []]
def rT:List nN:=[.val (.int .i64) [] []]
def mo:Entry:=⟨16,iA,rT,fun n (c:Cont (kin iA))=>iO n c.1 c.2.1⟩
def sU:Hint:=⟨0,[],[],[],[(57,some 8,rZ),(15,some 12,pI)],[],[],[],[]⟩
theorem zZ:∀n (c:Cont (kin iA)),kg T sU Tryz.f16 iA rT n c=mo.F n c:=by intro n c; kernel_rfl
theorem Ac [Fr] (n:Nat):ak Tryz.prog n mo:=aj mixed aK Tryz.func16 (by kernel_rfl) (hi:=sU) (aa (Em n) (aa (zu n) aD)) zZ
def jT (n:Nat) (a0:List Int) (a1:Int):Option (Int×Unit):=(rounds (fun L1 (v1:(List Int)×Int×Int×Unit)=>(if decide (v1.2.2.1<(v1.1.length:Int))=true then (if aI v1.2.2.1 v1.1.length then (if (!decide ((v1.1.getD v1.2.2.1.toNat (0:Int))=v1.2.1))=true then some ((-1:Int),()) else L1 (v1.1,IntKind.i64.wrap (v1.2.1+(1:Int)),IntKind.i64.wrap (v1.2.2.1+(1:Int)),())) else none) else some (v1.2.1,()))) n (a0,a1,(0:Int),()))
def mU:List dH:=[.val (.sl 2 (.int .i64)) [], .val (.int .i64) []]
def xK:List nN:=[.val (.int .i64) [] []]
def rY:Entry:=⟨58,mU,xK,fun n (c:Cont (kin mU))=>jT n c.1 c.2.1⟩
def xZ:Hint:=⟨0,[],[(0,[0,1,5],[])],[],[],[],[],[],[]⟩
theorem Ea:∀n (c:Cont (kin mU)),kg T xZ Tryz.f58 mU xK n c=rY.F n c:=by intro n c; kernel_rfl
theorem Ej [Fr] (n:Nat):ak Tryz.prog n rY:=aj mixed aK Tryz.func58 (by kernel_rfl) (hi:=xZ) aD Ea
def fH (n:Nat) (a0:List Int) (a1:Int):Option (Int×Unit):=(rounds (fun L1 (v1:(List Int)×Int×Int×Unit)=>(if decide (v1.2.2.1<(v1.1.length:Int))=true then (if aI v1.2.2.1 v1.1.length then (if (!decide ((v1.1.getD v1.2.2.1.toNat (0:Int))=(IntKind.u8.wrap v1.2.1)))=true then some ((-1:Int),()) else L1 (v1.1,IntKind.i64.wrap (v1.2.1+(1:Int)),IntKind.i64.wrap (v1.2.2.1+(1:Int)),())) else none) else some (v1.2.1,()))) n (a0,a1,(0:Int),()))
def oz:List dH:=[.val (.sl 5 (.int .u8)) [], .val (.int .i64) []]
def yz:List nN:=[.val (.int .i64) [] []]
def kN:Entry:=⟨90,oz,yz,fun n (c:Cont (kin oz))=>fH n c.1 c.2.1⟩
def ze:Hint:=⟨0,[],[(0,[0,1,5],[])],[],[],[],[],[],[]⟩
theorem Fu:∀n (c:Cont (kin oz)),kg T ze Tryz.f90 oz yz n c=kN.F n c:=by intro n c; kernel_rfl
theorem uB [Fr] (n:Nat):ak Tryz.prog n kN:=aj mixed aK Tryz.func90 (by kernel_rfl) (hi:=ze) aD Fu
def kH (n:Nat) (a0:List rz) (a1:Int):Option (Int×Unit):=(rounds (fun L1 (v1:(List rz)×Int×Int×Unit)=>(if decide (v1.2.2.1<(v1.1.length:Int))=true then (if aI v1.2.2.1 v1.1.length then (if (!decide (((v1.1.getD v1.2.2.1.toNat ku).1)=v1.2.1))=true then some ((-1:Int),()) else (if aI v1.2.2.1 v1.1.length then (if (!decide ((((v1.1.getD v1.2.2.1.toNat ku).2).1)=(IntKind.i64.wrap (v1.2.1+(1:Int)))))=true then some ((-1:Int),()) else (if aI v1.2.2.1 v1.1.length then (if (!decide (((((v1.1.getD v1.2.2.1.toNat ku).2).2).1)=(IntKind.i64.wrap ((IntKind.i64.wrap (v1.2.1+(1:Int)))+(1:Int)))))=true then some ((-1:Int),()) else (if aI v1.2.2.1 v1.1.length then ((fH n (((((v1.1.getD v1.2.2.1.toNat ku).2).2).2).1) (IntKind.i64.wrap ((IntKind.i64.wrap ((IntKind.i64.wrap (v1.2.1+(1:Int)))+(1:Int)))+(1:Int)))).bind fun r2=>(if decide (r2.1<(0:Int))=true then some ((-1:Int),()) else L1 (v1.1,r2.1,IntKind.i64.wrap (v1.2.2.1+(1:Int)),()))) else none)) else none)) else none)) else none) else some (v1.2.1,()))) n (a0,a1,(0:Int),()))
def jY:List dH:=[.val (.sl 103 zw) [], .val (.int .i64) []]
def vM:List nN:=[.val (.int .i64) [] []]
def qj:Entry:=⟨161,jY,vM,fun n (c:Cont (kin jY))=>kH n c.1 c.2.1⟩
def vY:Hint:=⟨0,[],[(0,[0,1,5],[])],[],[(90,some 45,kN)],[],[],[],[]⟩
theorem CV:∀n (c:Cont (kin jY)),kg T vY Tryz.f161 jY vM n c=qj.F n c:=by intro n c; kernel_rfl
theorem CX [Fr] (n:Nat):ak Tryz.prog n qj:=aj mixed aK Tryz.func161 (by kernel_rfl) (hi:=vY) (aa (uB n) aD) CV
def nC (n:Nat) (a0:List dP) (a1:Int):Option (Int×Unit):=(rounds (fun L1 (v1:(List dP)×Int×Int×Unit)=>(if decide (v1.2.2.1<(v1.1.length:Int))=true then (if aI v1.2.2.1 v1.1.length then ((iB n v1.2.1).bind fun r2=>(if (!decide (((v1.1.getD v1.2.2.1.toNat dD).1)=r2.1))=true then some ((-1:Int),()) else (if aI v1.2.2.1 v1.1.length then (if (!decide ((((v1.1.getD v1.2.2.1.toNat dD).2).1)=(IntKind.i64.wrap (v1.2.1+(1:Int)))))=true then some ((-1:Int),()) else (if aI v1.2.2.1 v1.1.length then (if (!decide (((((v1.1.getD v1.2.2.1.toNat dD).2).2).1)=(IntKind.i64.wrap ((IntKind.i64.wrap (v1.2.1+(1:Int)))+(1:Int)))))=true then some ((-1:Int),()) else (if aI v1.2.2.1 v1.1.length then ((kH n (((((v1.1.getD v1.2.2.1.toNat dD).2).2).2).1) (IntKind.i64.wrap ((IntKind.i64.wrap ((IntKind.i64.wrap (v1.2.1+(1:Int)))+(1:Int)))+(1:Int)))).bind fun r3=>(if decide (r3.1<(0:Int))=true then some ((-1:Int),()) else L1 (v1.1,r3.1,IntKind.i64.wrap (v1.2.2.1+(1:Int)),()))) else none)) else none)) else none))) else none) else some (v1.2.1,()))) n (a0,a1,(0:Int),()))
def qg:List dH:=[.val (.sl 100 nG) [], .val (.int .i64) []]
def zQ:List nN:=[.val (.int .i64) [] []]
def vR:Entry:=⟨122,qg,zQ,fun n (c:Cont (kin qg))=>nC n c.1 c.2.1⟩
def AZ:Hint:=⟨0,[],[(0,[0,1,5],[])],[],[(120,some 18,qK),(161,some 46,qj)],[],[],[],[]⟩
theorem He:∀n (c:Cont (kin qg)),kg T AZ Tryz.f122 qg zQ n c=vR.F n c:=by intro n c; kernel_rfl
theorem Ht [Fr] (n:Nat):ak Tryz.prog n vR:=aj mixed aK Tryz.func122 (by kernel_rfl) (hi:=AZ) (aa (A9 n) (aa (CX n) aD)) He
def kZ (n:Nat) (a0:fI) (a1:Int):Option (Int×Unit):=((nC n a0.2.1 a1).bind fun r1=>(if decide (r1.1<(0:Int))=true then some ((-1:Int),()) else some (r1.1,())))
def oC:List dH:=[.val qm [], .val (.int .i64) []]
def yA:List nN:=[.val (.int .i64) [] []]
def uo:Entry:=⟨91,oC,yA,fun n (c:Cont (kin oC))=>kZ n c.1 c.2.1⟩
def zf:Hint:=⟨0,[],[],[],[(122,some 8,vR)],[],[],[],[]⟩
theorem Fv:∀n (c:Cont (kin oC)),kg T zf Tryz.f91 oC yA n c=uo.F n c:=by intro n c; kernel_rfl
theorem FH [Fr] (n:Nat):ak Tryz.prog n uo:=aj mixed aK Tryz.func91 (by kernel_rfl) (hi:=zf) (aa (Ht n) aD) Fv
def lq (n:Nat) (a0:yR) (a1:Int):Option (Int×Unit):=((fH n a0.2.1 a1).bind fun r1=>(if decide (r1.1<(0:Int))=true then some ((-1:Int),()) else ((fH n a0.2.2.1 r1.1).bind fun r2=>(if decide (r2.1<(0:Int))=true then some ((-1:Int),()) else ((kZ n a0.2.2.2.1 r2.1).bind fun r3=>(if decide (r3.1<(0:Int))=true then some ((-1:Int),()) else some (r3.1,())))))))
def oD:List dH:=[.val CZ [], .val (.int .i64) []]
def yB:List nN:=[.val (.int .i64) [] []]
def uq:Entry:=⟨59,oD,yB,fun n (c:Cont (kin oD))=>lq n c.1 c.2.1⟩
def zh:Hint:=⟨0,[],[],[],[(90,some 8,kN),(90,some 14,kN),(91,some 20,uo)],[],[],[],[]⟩
theorem Fw:∀n (c:Cont (kin oD)),kg T zh Tryz.f59 oD yB n c=uq.F n c:=by intro n c; kernel_rfl
theorem FJ [Fr] (n:Nat):ak Tryz.prog n uq:=aj mixed aK Tryz.func59 (by kernel_rfl) (hi:=zh) (aa (uB n) (aa (uB n) (aa (FH n) aD))) Fw
def fZ (n:Nat) (a0:I8) (a1:Int):Option (Int×Unit):=((jT n a0.2.1 a1).bind fun r1=>(if decide (r1.1<(0:Int))=true then some ((-1:Int),()) else ((lq n a0.2.2.1 r1.1).bind fun r2=>(if decide (r2.1<(0:Int))=true then some ((-1:Int),()) else some (r2.1,())))))
def iy:List dH:=[.val M8 [], .val (.int .i64) []]
def rR:List nN:=[.val (.int .i64) [] []]
def iN:Entry:=⟨17,iy,rR,fun n (c:Cont (kin iy))=>fZ n c.1 c.2.1⟩
def sS:Hint:=⟨0,[],[],[],[(58,some 8,rY),(59,some 14,uq)],[],[],[],[]⟩
theorem zY:∀n (c:Cont (kin iy)),kg T sS Tryz.f17 iy rR n c=iN.F n c:=by intro n c; kernel_rfl
theorem sW [Fr] (n:Nat):ak Tryz.prog n iN:=aj mixed aK Tryz.func17 (by kernel_rfl) (hi:=sS) (aa (Ej n) (aa (FJ n) aD)) zY
def kT (n:Nat) (a0:yR):Option (Bool×Unit):=((sJ n a0 (1048576:Int)).bind fun r1=>(if decide (r1.1<(0:Int))=true then some (true,()) else ((jq n a0).bind fun r2=>((pQ n r2.1).bind fun r3=>((jq n a0).bind fun r4=>((kR n r4.1).bind fun r5=>((fG n r5.1 r3.1).bind fun r6=>(if (!r6.1)=true then some (false,()) else ((jq n a0).bind fun r7=>((kY n r4.1 r7.1).bind fun r8=>(if (!r8.1)=true then some (false,()) else ((lu n r4.1 (1:Int)).bind fun r9=>(if decide (r9.1<(0:Int))=true then some (false,()) else ((fG n r5.1 r3.1).bind fun NV=>(if (!NV.1)=true then some (false,()) else ((iO n r5.1 (1:Int)).bind fun Iw=>((fZ n Iw.2.1 (1:Int)).bind fun Ko=>(if decide (Ko.1<(0:Int))=true then some (false,()) else (if (!decide (Ko.1=Iw.1))=true then some (false,()) else ((jq n a0).bind fun Ol=>((kR n Ol.1).bind fun Yr=>((fG n Yr.1 r3.1).bind fun TF=>(if (!TF.1)=true then some (false,()) else ((fZ n Iw.2.1 (1:Int)).bind fun r16=>(if decide (r16.1<(0:Int))=true then some (false,()) else (if (!decide (r16.1=Iw.1))=true then some (false,()) else some (true,())))))))))))))))))))))))))))
def bZ:List dH:=[.val QH []]
def qH:List nN:=[.val .bool [] []]
def kL:Entry:=⟨4,bZ,qH,fun n (c:Cont (kin bZ))=>kT n c.1⟩
def rG:Hint:=⟨0,[32,43],[],[],[(9,some 13,wX),(11,some 17,kQ),(18,some 18,abG),(11,some 20,kQ),(19,some 22,SC),(13,some 25,gY),(11,some 29,kQ),(14,some 30,rX),(15,some 34,pI),(13,some 40,gY),(16,some 45,mo),(17,some 48,iN),(11,some 55,kQ),(19,some 56,SC),(13,some 59,gY),(17,some 63,iN)],[],[],[],[]⟩
theorem y8:∀n (c:Cont (kin bZ)),kg T rG Tryz.f4 bZ qH n c=kL.F n c:=by intro n c; kernel_rfl
theorem zq [Fr] (n:Nat):ak Tryz.prog n kL:=aj mixed aK Tryz.func4 (by kernel_rfl) (hi:=rG) (aa (IU n) (aa (sZ n) (aa (ajE n) (aa (sZ n) (aa (aax n) (aa (oV n) (aa (sZ n) (aa (BK n) (aa (zu n) (aa (oV n) (aa (Ac n) (aa (sW n) (aa (sZ n) (aa (aax n) (aa (oV n) (aa (sW n) aD)))))))))))))))) y8
end Go.Proofs.YtailcbngagacaabGreat.yj

/- What the functions of this law compute, as plain functions, and that the reading comes to them. No condition. -/
import Derived.Test.YtailcbngagacaabGreatProg
import Derived.Test.YtailcbngagacaabGreatOwF
import Derived.Test.YtailcbngagacaabGreatCutLib
import Derived.Test.YtailcbngagacaabGreatGrowLib
import Derived.Test.YtailcbngagacaabGreatPartLib
import Derived.Test.YtailcbngagacaabGreatPurgeLib
import Derived.Test.YtailcbngagacaabGreatTakeLib
import Derived.KernelRfl
set_option linter.unusedSectionVars false
set_option linter.unusedVariables false
set_option linter.unusedSimpArgs false
namespace Go.Proofs.YtailcbngagacaabGreat.rq
open Go Go.Proofs.YtailcbngagacaabGreat Go.Proofs.YtailcbngagacaabGreat.Ow
abbrev YP:K:=(.st (.pair .str (.pair (.int .u64) .unit)))
abbrev Zt0:Type:=(List Int)×Int×Unit
abbrev Uc:K:=(.st (.pair (.sl 5 (.int .u8)) (.pair .bool .unit)))
abbrev Zt1:Type:=(List Int)×Bool×Unit
abbrev YQ:K:=(.st (.pair (.sl 5 (.int .u8)) (.pair (.int .i64) .unit)))
abbrev Ug:K:=(.st (.pair (.sl 5 (.int .u8)) (.pair (.int .i64) (.pair .bool .unit))))
abbrev Zt3:Type:=(List Int)×Int×Bool×Unit
abbrev Zk4:K:=(.st (.pair .str (.pair (.int .i64) (.pair (.int .i64) (.pair (.id 103) .unit)))))
abbrev Zt4:Type:=(List Int)×Int×Int×Nat×Unit
abbrev YR:K:=(.st (.pair (.int .i64) (.pair (.int .i64) (.pair .bool (.pair (.int .u8) .unit)))))
abbrev KW:K:=(.st (.pair (.int .i64) (.pair (.int .i64) (.pair (.int .i64) (.pair (.id 5) .unit)))))
abbrev M5:Type:=Int×Int×Int×Nat×Unit
abbrev zo:K:=(.st (.pair (.int .i64) (.pair (.int .i64) (.pair (.int .i64) (.pair (.sl 5 (.int .u8)) .unit)))))
abbrev rz:Type:=Int×Int×Int×(List Int)×Unit
abbrev Zk8:K:=(.st (.pair (.int .i64) (.pair (.sl 100 Zk4) .unit)))
abbrev Zt8:Type:=Int×(List (Zt4))×Unit
abbrev YS:K:=(.st (.pair .str (.pair (.int .i64) (.pair (.int .i64) (.pair (.sl 199 KW) .unit)))))
abbrev Zt9:Type:=(List Int)×Int×Int×(List (M5))×Unit
abbrev Hq:K:=(.st (.pair .str (.pair (.int .i64) (.pair (.int .i64) (.pair (.sl 103 KW) .unit)))))
abbrev iG:K:=(.st (.pair (.int .i64) (.pair .str (.pair .str (.pair (.sl 2 (.int .i64)) (.pair (.int .i64) (.pair (.int .i64) (.pair (.int .i64) (.pair (.sl 5 (.int .u8)) .unit)))))))))
abbrev iq:Type:=Int×(List Int)×(List Int)×(List Int)×rz
abbrev IZ:K:=(.st (.pair .str (.pair (.int .i64) (.pair (.int .i64) (.pair (.sl 199 zo) .unit)))))
abbrev dQ:Type:=(List Int)×Int×Int×(List (rz))×Unit
abbrev nJ:K:=(.st (.pair .str (.pair (.int .i64) (.pair (.int .i64) (.pair (.sl 103 zo) .unit)))))
abbrev afW:K:=(.st (.pair (.int .i64) (.pair (.sl 2 (.int .i64)) (.pair Zk8 .unit))))
abbrev QD:K:=(.st (.pair (.int .i64) (.pair (.sl 134 YS) .unit)))
abbrev OC:K:=(.st (.pair (.int .i64) (.pair (.sl 100 Hq) .unit)))
abbrev acu:K:=(.st (.pair .bool (.pair (.sl 5 (.int .u8)) (.pair (.sl 5 (.int .u8)) (.pair Zk8 .unit)))))
abbrev QE:K:=(.st (.pair (.int .i64) (.pair (.sl 134 IZ) .unit)))
abbrev fI:Type:=Int×(List (dQ))×Unit
abbrev qy:K:=(.st (.pair (.int .i64) (.pair (.sl 100 nJ) .unit)))
abbrev I1:K:=(.st (.pair (.int .i64) (.pair (.int .i64) (.pair iG .unit))))
abbrev aj3:Type:=Int×Int×(iq)×Unit
abbrev KV:K:=(.st (.pair (.int .i64) (.pair (.int .i64) (.pair (.sl 48 iG) .unit))))
abbrev Ud:K:=(.st (.pair (.int .i64) (.pair (.sl 2 (.int .i64)) (.pair OC .unit))))
abbrev afX:K:=(.st (.pair (.int .i64) (.pair (.sl 2 (.int .i64)) (.pair acu .unit))))
abbrev M3:K:=(.st (.pair (.int .i64) (.pair (.sl 2 (.int .i64)) (.pair qy .unit))))
abbrev FQ:Type:=Int×(List Int)×(fI)×Unit
abbrev Ue:K:=(.st (.pair .bool (.pair (.sl 5 (.int .u8)) (.pair (.sl 5 (.int .u8)) (.pair QD .unit)))))
abbrev QF:K:=(.st (.pair .bool (.pair (.sl 5 (.int .u8)) (.pair (.sl 5 (.int .u8)) (.pair OC .unit)))))
abbrev QG:K:=(.st (.pair .bool (.pair (.sl 5 (.int .u8)) (.pair (.sl 5 (.int .u8)) (.pair QE .unit)))))
abbrev Ae:Type:=Bool×(List Int)×(List Int)×(fI)×Unit
abbrev C8:K:=(.st (.pair .bool (.pair (.sl 5 (.int .u8)) (.pair (.sl 5 (.int .u8)) (.pair qy .unit)))))
abbrev Uf:K:=(.st (.pair (.int .i64) (.pair (.sl 2 (.int .i64)) (.pair QF .unit))))
abbrev M4:K:=(.st (.pair (.int .i64) (.pair (.sl 2 (.int .i64)) (.pair C8 .unit))))
abbrev OD:Type:=Int×(List Int)×(Ae)×Unit
abbrev Es:iq:=((0:Int),([]:List Int),([]:List Int),([]:List Int),(0:Int),(0:Int),(0:Int),([]:List Int),())
abbrev acy:Ae:=(false,([]:List Int),([]:List Int),((0:Int),([]:List dQ),()),())
abbrev acw:FQ:=((0:Int),([]:List Int),((0:Int),([]:List dQ),()),())
abbrev dF:dQ:=(([]:List Int),(0:Int),(0:Int),([]:List rz),())
abbrev kD:rz:=((0:Int),(0:Int),(0:Int),([]:List Int),())
abbrev M6:M5:=((0:Int),(0:Int),(0:Int),(0:Nat),())
abbrev KX:fI:=((0:Int),([]:List dQ),())
def tyL:VG:={ ty:=[(2,(.int .i64)),(3,(.int .i64)),(4, .bool),(5,(.int .u8)),(6,(.int .u8)),(7,YR),(8,YR),(9, .str),(10, .str),(11, .str),(12,(.int .u64)),(13,YP),(14,YP),(21,(.int .i32)),(22,(.sl 5 (.int .u8))),(23,(.sl 134 IZ)),(24,QE),(25,QE),(26,QG),(27,QG),(29,(.sl 2 (.int .i64))),(30,(.sl 100 nJ)),(31,qy),(32,qy),(33,C8),(34,C8),(35,M4),(36,M4),(47,iG),(48,iG),(52,M3),(53,M3),(55,(.sl 48 iG)),(56,KV),(57,KV),(65,iG),(98,(.sl 103 zo)),(99,nJ),(100,nJ),(102,zo),(103,zo),(109,(.sl 22 (.sl 5 (.int .u8)))),(132,(.sl 199 zo)),(133,IZ),(134,IZ),(141,I1),(142,I1),(145,YQ),(146,YQ),(150,(.sl 9 .str)),(167,Uc),(168,Uc),(199,zo),(203,Ug),(204,Ug),(226,(.int .u32)),(227,(.int .u8)),(228,(.int .u8)),(231,(.int .i32)),(232,(.int .i32))],bytes:=[(2,8),(3,8),(4,1),(5,1),(6,1),(7,24),(8,24),(9,16),(10,16),(11,16),(12,8),(13,24),(14,24),(21,4),(22,24),(23,24),(24,32),(25,32),(26,88),(27,88),(29,24),(30,24),(31,32),(32,32),(33,88),(34,88),(35,120),(36,120),(47,112),(48,112),(52,64),(53,64),(55,24),(56,40),(57,40),(65,112),(98,24),(99,56),(100,56),(102,48),(103,48),(109,24),(132,24),(133,56),(134,56),(141,128),(142,128),(145,32),(146,32),(150,24),(167,32),(168,32),(199,48),(203,40),(204,40),(226,4),(227,1),(228,1),(231,4),(232,4)],ptr:=[15,16,17,74,87,118,136,161,166,187,206,230] }
def T:jd:=tyL.tab
theorem aL:Cu Tryz.prog tyL=true:=by kernel_rfl
theorem mixed:Tryz.prog.follows .mixedOrders=true:=by kernel_rfl
def lD (n:Nat) (a0:List Int) (a1:Int):Option (Int×Unit):=(if decide ((IntKind.i64.wrap (a1 - (a0.length:Int)))<(0:Int))=true then some ((-1:Int),()) else some (IntKind.i64.wrap (a1 - (a0.length:Int)),()))
def qW:List dD:=[.val (.sl 5 (.int .u8)) [], .val (.int .i64) []]
def Bj:List mU:=[.val (.int .i64) [] []]
def oP:Entry:=⟨40,qW,Bj,fun n (c:Cont (kin qW))=>lD n c.1 c.2.1⟩
def BD:Hint:=⟨0,[],[],[],[],[],[],[],[]⟩
theorem Iw:∀n (c:Cont (kin qW)),ku T BD Tryz.f40 qW Bj n c=oP.F n c:=by intro n c; kernel_rfl
theorem xh [Fr] (n:Nat):aj Tryz.prog n oP:=ak mixed aL Tryz.func40 (by kernel_rfl) (hi:=BD) aD Iw
def lF (n:Nat) (a0:rz) (a1:Int):Option (Int×Unit):=((lD n a0.2.2.2.1 a1).bind fun r1=>(if decide (r1.1<(0:Int))=true then some ((-1:Int),()) else some (r1.1,())))
def oM:List dD:=[.val zo [], .val (.int .i64) []]
def yE:List mU:=[.val (.int .i64) [] []]
def uo:Entry:=⟨188,oM,yE,fun n (c:Cont (kin oM))=>lF n c.1 c.2.1⟩
def zl:Hint:=⟨0,[],[],[],[(40,some 8,oP)],[],[],[],[]⟩
theorem FB:∀n (c:Cont (kin oM)),ku T zl Tryz.f188 oM yE n c=uo.F n c:=by intro n c; kernel_rfl
theorem FL [Fr] (n:Nat):aj Tryz.prog n uo:=ak mixed aL Tryz.func188 (by kernel_rfl) (hi:=zl) (aa (xh n) aD) FB
def nY (n:Nat) (a0:List rz) (a1:Int):Option (Int×Unit):=(if decide ((IntKind.i64.wrap (a1 - (a0.length:Int)))<(0:Int))=true then some ((-1:Int),()) else (rounds (fun L1 (v1:(List rz)×Int×Int×Unit)=>(if decide (v1.2.2.1<(v1.1.length:Int))=true then (if aI v1.2.2.1 v1.1.length then ((lF n (v1.1.getD v1.2.2.1.toNat kD) v1.2.1).bind fun r2=>(if decide (r2.1<(0:Int))=true then some ((-1:Int),()) else L1 (v1.1,r2.1,IntKind.i64.wrap (v1.2.2.1+(1:Int)),()))) else none) else some (v1.2.1,()))) n (a0,IntKind.i64.wrap (a1 - (a0.length:Int)),(0:Int),())))
def nk:List dD:=[.val (.sl 199 zo) [], .val (.int .i64) []]
def xN:List mU:=[.val (.int .i64) [] []]
def sj:Entry:=⟨156,nk,xN,fun n (c:Cont (kin nk))=>nY n c.1 c.2.1⟩
def yc:Hint:=⟨0,[],[(0,[0,1,5],[])],[],[(188,some 23,uo)],[],[],[],[]⟩
theorem Ec:∀n (c:Cont (kin nk)),ku T yc Tryz.f156 nk xN n c=sj.F n c:=by intro n c; kernel_rfl
theorem Em [Fr] (n:Nat):aj Tryz.prog n sj:=ak mixed aL Tryz.func156 (by kernel_rfl) (hi:=yc) (aa (FL n) aD) Ec
def sH (n:Nat) (a0:dQ) (a1:Int):Option (Int×Unit):=(if decide ((IntKind.i64.wrap (a1 - (a0.1.length:Int)))<(0:Int))=true then some ((-1:Int),()) else ((nY n a0.2.2.2.1 (IntKind.i64.wrap (a1 - (a0.1.length:Int)))).bind fun r1=>(if decide (r1.1<(0:Int))=true then some ((-1:Int),()) else some (r1.1,()))))
def vg:List dD:=[.val IZ [], .val (.int .i64) []]
def Dp:List mU:=[.val (.int .i64) [] []]
def zY:Entry:=⟨113,vg,Dp,fun n (c:Cont (kin vg))=>sH n c.1 c.2.1⟩
def Ef:Hint:=⟨0,[],[],[],[(156,some 15,sj)],[],[],[],[]⟩
theorem MO:∀n (c:Cont (kin vg)),ku T Ef Tryz.f113 vg Dp n c=zY.F n c:=by intro n c; kernel_rfl
theorem MU [Fr] (n:Nat):aj Tryz.prog n zY:=ak mixed aL Tryz.func113 (by kernel_rfl) (hi:=Ef) (aa (Em n) aD) MO
def uQ (n:Nat) (a0:List dQ) (a1:Int):Option (Int×Unit):=(if decide ((IntKind.i64.wrap (a1 - (a0.length:Int)))<(0:Int))=true then some ((-1:Int),()) else (rounds (fun L1 (v1:(List dQ)×Int×Int×Unit)=>(if decide (v1.2.2.1<(v1.1.length:Int))=true then (if aI v1.2.2.1 v1.1.length then ((sH n (v1.1.getD v1.2.2.1.toNat dF) v1.2.1).bind fun r2=>(if decide (r2.1<(0:Int))=true then some ((-1:Int),()) else L1 (v1.1,r2.1,IntKind.i64.wrap (v1.2.2.1+(1:Int)),()))) else none) else some (v1.2.1,()))) n (a0,IntKind.i64.wrap (a1 - (a0.length:Int)),(0:Int),())))
def tL:List dD:=[.val (.sl 134 IZ) [], .val (.int .i64) []]
def Ck:List mU:=[.val (.int .i64) [] []]
def yM:Entry:=⟨84,tL,Ck,fun n (c:Cont (kin tL))=>uQ n c.1 c.2.1⟩
def Df:Hint:=⟨0,[],[(0,[0,1,5],[])],[],[(113,some 23,zY)],[],[],[],[]⟩
theorem KN:∀n (c:Cont (kin tL)),ku T Df Tryz.f84 tL Ck n c=yM.F n c:=by intro n c; kernel_rfl
theorem KS [Fr] (n:Nat):aj Tryz.prog n yM:=ak mixed aL Tryz.func84 (by kernel_rfl) (hi:=Df) (aa (MU n) aD) KN
def w9 (n:Nat) (a0:fI) (a1:Int):Option (Int×Unit):=((uQ n a0.2.1 a1).bind fun r1=>(if decide (r1.1<(0:Int))=true then some ((-1:Int),()) else some (r1.1,())))
def qX:List dD:=[.val QE [], .val (.int .i64) []]
def Bl:List mU:=[.val (.int .i64) [] []]
def wW:Entry:=⟨41,qX,Bl,fun n (c:Cont (kin qX))=>w9 n c.1 c.2.1⟩
def BF:Hint:=⟨0,[],[],[],[(84,some 8,yM)],[],[],[],[]⟩
theorem Iy:∀n (c:Cont (kin qX)),ku T BF Tryz.f41 qX Bl n c=wW.F n c:=by intro n c; kernel_rfl
theorem IK [Fr] (n:Nat):aj Tryz.prog n wW:=ak mixed aL Tryz.func41 (by kernel_rfl) (hi:=BF) (aa (KS n) aD) Iy
def o7 (n:Nat) (a0:Ae) (a1:Int):Option (Int×Unit):=((lD n a0.2.1 a1).bind fun r1=>(if decide (r1.1<(0:Int))=true then some ((-1:Int),()) else ((lD n a0.2.2.1 r1.1).bind fun r2=>(if decide (r2.1<(0:Int))=true then some ((-1:Int),()) else ((w9 n a0.2.2.2.1 r2.1).bind fun r3=>(if decide (r3.1<(0:Int))=true then some ((-1:Int),()) else some (r3.1,())))))))
def qY:List dD:=[.val QG [], .val (.int .i64) []]
def Bn:List mU:=[.val (.int .i64) [] []]
def wX:Entry:=⟨9,qY,Bn,fun n (c:Cont (kin qY))=>o7 n c.1 c.2.1⟩
def BG:Hint:=⟨0,[],[],[],[(40,some 8,oP),(40,some 14,oP),(41,some 20,wW)],[],[],[],[]⟩
theorem Iz:∀n (c:Cont (kin qY)),ku T BG Tryz.f9 qY Bn n c=wX.F n c:=by intro n c; kernel_rfl
theorem IL [Fr] (n:Nat):aj Tryz.prog n wX:=ak mixed aL Tryz.func9 (by kernel_rfl) (hi:=BG) (aa (xh n) (aa (xh n) (aa (IK n) aD))) Iz
def lG (n:Nat) (a0:List Int):Option ((List Int)×Unit):=(if (a0.length:Int)=(a0.length:Int)∧0≤(a0.length:Int)∧(a0.length:Int) * 1≤140737488355328 then (rounds (fun L1 (v1:(List Int)×Int×(List Int)×Unit)=>(if decide (v1.2.1<(v1.1.length:Int))=true then (if aI v1.2.1 v1.1.length then (if aI v1.2.1 v1.2.2.1.length then L1 (v1.1,IntKind.i64.wrap (v1.2.1+(1:Int)),v1.2.2.1.set v1.2.1.toNat (v1.1.getD v1.2.1.toNat (0:Int)),()) else none) else none) else some (v1.2.2.1,()))) n (a0,(0:Int),List.replicate (a0.length:Int).toNat (0:Int),())) else none)
def qZ:List dD:=[.val (.sl 5 (.int .u8)) []]
def Bo:List mU:=[.own (.sl 5 (.int .u8)) [5] [] []]
def oQ:Entry:=⟨46,qZ,Bo,fun n (c:Cont (kin qZ))=>lG n c.1⟩
def BH:Hint:=⟨0,[],[(0,[0,3,4],[226])],[],[],[],[],[],[]⟩
theorem IA:∀n (c:Cont (kin qZ)),ku T BH Tryz.f46 qZ Bo n c=oQ.F n c:=by intro n c; kernel_rfl
theorem xk [Fr] (n:Nat):aj Tryz.prog n oQ:=ak mixed aL Tryz.func46 (by kernel_rfl) (hi:=BH) aD IA
def lH (n:Nat) (a0:rz):Option (rz×Unit):=((lG n a0.2.2.2.1).bind fun r1=>some ((a0.1,a0.2.1,a0.2.2.1,r1.1,()),()))
def oN:List dD:=[.val zo []]
def yF:List mU:=[.own zo [5] [] []]
def uq:Entry:=⟨191,oN,yF,fun n (c:Cont (kin oN))=>lH n c.1⟩
def zm:Hint:=⟨0,[17],[],[],[(46,some 15,oQ)],[],[],[],[]⟩
theorem FC:∀n (c:Cont (kin oN)),ku T zm Tryz.f191 oN yF n c=uq.F n c:=by intro n c; kernel_rfl
theorem FM [Fr] (n:Nat):aj Tryz.prog n uq:=ak mixed aL Tryz.func191 (by kernel_rfl) (hi:=zm) (aa (xk n) aD) FC
def nZ (n:Nat) (a0:List rz):Option ((List rz)×Unit):=(if (a0.length:Int)=(a0.length:Int)∧0≤(a0.length:Int)∧(a0.length:Int) * 48≤140737488355328 then (rounds (fun L1 (v1:(List rz)×Int×(List rz)×Unit)=>(if decide (v1.2.1<(v1.1.length:Int))=true then (if aI v1.2.1 v1.1.length then ((lH n (v1.1.getD v1.2.1.toNat kD)).bind fun r2=>(if aI v1.2.1 v1.2.2.1.length then L1 (v1.1,IntKind.i64.wrap (v1.2.1+(1:Int)),v1.2.2.1.set v1.2.1.toNat r2.1,()) else none)) else none) else some (v1.2.2.1,()))) n (a0,(0:Int),List.replicate (a0.length:Int).toNat kD,())) else none)
def nu:List dD:=[.val (.sl 199 zo) []]
def xO:List mU:=[.own (.sl 103 zo) [5,103] [] []]
def su:Entry:=⟨159,nu,xO,fun n (c:Cont (kin nu))=>nZ n c.1⟩
def yf:Hint:=⟨0,[],[(0,[0,3,4],[226])],[],[(191,some 20,uq)],[],[],[],[]⟩
theorem Ed:∀n (c:Cont (kin nu)),ku T yf Tryz.f159 nu xO n c=su.F n c:=by intro n c; kernel_rfl
theorem En [Fr] (n:Nat):aj Tryz.prog n su:=ak mixed aL Tryz.func159 (by kernel_rfl) (hi:=yf) (aa (FM n) aD) Ed
def sI (n:Nat) (a0:dQ):Option (dQ×Unit):=((nZ n a0.2.2.2.1).bind fun r1=>some ((a0.1,a0.2.1,a0.2.2.1,r1.1,()),()))
def vk:List dD:=[.val IZ []]
def Dq:List mU:=[.own nJ [5,103] [] []]
def zZ:Entry:=⟨118,vk,Dq,fun n (c:Cont (kin vk))=>sI n c.1⟩
def Eg:Hint:=⟨0,[17],[],[],[(159,some 15,su)],[],[],[],[]⟩
theorem MP:∀n (c:Cont (kin vk)),ku T Eg Tryz.f118 vk Dq n c=zZ.F n c:=by intro n c; kernel_rfl
theorem MV [Fr] (n:Nat):aj Tryz.prog n zZ:=ak mixed aL Tryz.func118 (by kernel_rfl) (hi:=Eg) (aa (En n) aD) MP
def uR (n:Nat) (a0:List dQ):Option ((List dQ)×Unit):=(if (a0.length:Int)=(a0.length:Int)∧0≤(a0.length:Int)∧(a0.length:Int) * 56≤140737488355328 then (rounds (fun L1 (v1:(List dQ)×fI)=>(if decide (v1.2.1<(v1.1.length:Int))=true then (if aI v1.2.1 v1.1.length then ((sI n (v1.1.getD v1.2.1.toNat dF)).bind fun r2=>(if aI v1.2.1 v1.2.2.1.length then L1 (v1.1,IntKind.i64.wrap (v1.2.1+(1:Int)),v1.2.2.1.set v1.2.1.toNat r2.1,()) else none)) else none) else some (v1.2.2.1,()))) n (a0,(0:Int),List.replicate (a0.length:Int).toNat dF,())) else none)
def tN:List dD:=[.val (.sl 134 IZ) []]
def Cm:List mU:=[.own (.sl 100 nJ) [5,100,103] [] []]
def yN:Entry:=⟨86,tN,Cm,fun n (c:Cont (kin tN))=>uR n c.1⟩
def Dh:Hint:=⟨0,[],[(0,[0,3,4],[226])],[],[(118,some 20,zZ)],[],[],[],[]⟩
theorem KO:∀n (c:Cont (kin tN)),ku T Dh Tryz.f86 tN Cm n c=yN.F n c:=by intro n c; kernel_rfl
theorem KT [Fr] (n:Nat):aj Tryz.prog n yN:=ak mixed aL Tryz.func86 (by kernel_rfl) (hi:=Dh) (aa (MV n) aD) KO
def sJ (n:Nat) (a0:fI):Option (fI×Unit):=((uR n a0.2.1).bind fun r1=>some ((a0.1,r1.1,()),()))
def q8:List dD:=[.val QE []]
def Bp:List mU:=[.own qy [5,100,103] [] []]
def wY:Entry:=⟨47,q8,Bp,fun n (c:Cont (kin q8))=>sJ n c.1⟩
def BI:Hint:=⟨0,[11],[],[],[(86,some 9,yN)],[],[],[],[]⟩
theorem IB:∀n (c:Cont (kin q8)),ku T BI Tryz.f47 q8 Bp n c=wY.F n c:=by intro n c; kernel_rfl
theorem IM [Fr] (n:Nat):aj Tryz.prog n wY:=ak mixed aL Tryz.func47 (by kernel_rfl) (hi:=BI) (aa (KT n) aD) IB
def jw (n:Nat) (a0:Ae):Option (Ae×Unit):=((lG n a0.2.1).bind fun r1=>((lG n a0.2.2.1).bind fun r2=>((sJ n a0.2.2.2.1).bind fun r3=>some ((a0.1,r1.1,r2.1,r3.1,()),()))))
def q9:List dD:=[.val QG []]
def Bq:List mU:=[.own C8 [5,100,103] [] []]
def kR:Entry:=⟨11,q9,Bq,fun n (c:Cont (kin q9))=>jw n c.1⟩
def BJ:Hint:=⟨0,[19],[],[],[(46,some 9,oQ),(46,some 13,oQ),(47,some 17,wY)],[],[],[],[]⟩
theorem IC:∀n (c:Cont (kin q9)),ku T BJ Tryz.f11 q9 Bq n c=kR.F n c:=by intro n c; kernel_rfl
theorem sW [Fr] (n:Nat):aj Tryz.prog n kR:=ak mixed aL Tryz.func11 (by kernel_rfl) (hi:=BJ) (aa (xk n) (aa (xk n) (aa (IM n) aD))) IC
def bM (n:Nat) (a0:Int) (a1:Int) (a2:Int):Option (Bool×Unit):=(if decide (a0≥a1)=true then some (decide (a0≤a2),()) else some (false,()))
def Qp:Entry:=⟨44,[.val (.int .i64) [], .val (.int .i64) [], .val (.int .i64) []],[.val .bool [] []],fun n c=>bM n c.1 c.2.1 c.2.2.1⟩
def H_0:Hint:=⟨0,[],[],[],[],[],[],[],[]⟩
theorem D_0:iA T H_0 Tryz.f44 Qp:=by intro n c; kernel_rfl
theorem TY [Fr] (n:Nat):aj Tryz.prog n Qp:=ak mixed aL Tryz.func44 (by kernel_rfl) (hi:=H_0) aD D_0
def ko (n:Nat) (a0:List Int):Option (Bool×Unit):=(rounds (fun L1 (v1:Zt0)=>(if decide (v1.2.1<(v1.1.length:Int))=true then (if aI v1.2.1 v1.1.length then (if decide ((v1.1.getD v1.2.1.toNat 0)<(97:Int))=true then some (false,()) else (if aI v1.2.1 v1.1.length then (if decide ((v1.1.getD v1.2.1.toNat 0)>(122:Int))=true then some (false,()) else L1 (v1.1,IntKind.i64.wrap (v1.2.1+(1:Int)),())) else none)) else none) else ((bM n (v1.1.length:Int) (1:Int) (8:Int)).bind fun r2=>some (r2.1,())))) n (a0,(0:Int),()))
def E_1:Entry:=⟨180,[.val .str []],[.val .bool [] []],fun n c=>ko n c.1⟩
def H_1:Hint:=⟨0,[],[(0,[0,3],[])],[],[(44,some 22,Qp)],[],[],[],[]⟩
theorem D_1:iA T H_1 Tryz.f180 E_1:=by intro n c; kernel_rfl
theorem K_1 [Fr] (n:Nat):aj Tryz.prog n E_1:=ak mixed aL Tryz.func180 (by kernel_rfl) (hi:=H_1) (aa (TY n) aD) D_1
def gL (n:Nat) (a0:rz):Option (Int×Unit):=((bM n a0.1 (1:Int) (999:Int)).bind fun r1=>(if (!r1.1)=true then some ((3:Int),()) else ((bM n a0.2.1 (0:Int) (15:Int)).bind fun r2=>(if (!r2.1)=true then some ((3:Int),()) else ((bM n a0.2.2.1 (0:Int) (9999:Int)).bind fun r3=>(if (!r3.1)=true then some ((3:Int),()) else (if decide ((a0.2.2.2.1.length:Int)>(400:Int))=true then some ((2:Int),()) else some ((0:Int),()))))))))
def E_2:Entry:=⟨189,[.ro zo],[.val (.int .i64) [] []],fun n c=>gL n c.1⟩
def H_2:Hint:=⟨0,[],[],[],[(44,some 7,Qp),(44,some 14,Qp),(44,some 22,Qp)],[],[],[],[]⟩
theorem D_2:iA T H_2 Tryz.f189 E_2:=by intro n c; kernel_rfl
theorem K_2 [Fr] (n:Nat):aj Tryz.prog n E_2:=ak mixed aL Tryz.func189 (by kernel_rfl) (hi:=H_2) (aa (TY n) (aa (TY n) (aa (TY n) aD))) D_2
def mH (n:Nat) (a0:dQ):Option (Int×Unit):=((ko n a0.1).bind fun r1=>(if (!r1.1)=true then some ((5:Int),()) else ((bM n a0.2.1 (1:Int) (999:Int)).bind fun r2=>(if (!r2.1)=true then some ((3:Int),()) else ((bM n a0.2.2.1 (1:Int) (1000:Int)).bind fun r3=>(if (!r3.1)=true then some ((3:Int),()) else (if decide ((a0.2.2.2.1.length:Int)>(6:Int))=true then some ((2:Int),()) else (rounds (fun L4 (v4:dQ×Int×Unit)=>(if decide (v4.2.1<(v4.1.2.2.2.1.length:Int))=true then (if aI v4.2.1 v4.1.2.2.2.1.length then ((gL n (v4.1.2.2.2.1.getD v4.2.1.toNat kD)).bind fun r5=>(if (!decide (r5.1=(0:Int)))=true then some (r5.1,()) else (if decide (v4.2.1>(0:Int))=true then (if aI v4.2.1 v4.1.2.2.2.1.length then (if aI (IntKind.i64.wrap (v4.2.1 - (1:Int))) v4.1.2.2.2.1.length then (if decide (((v4.1.2.2.2.1.getD v4.2.1.toNat kD).1)≤((v4.1.2.2.2.1.getD (IntKind.i64.wrap (v4.2.1 - (1:Int))).toNat kD).1))=true then some ((1:Int),()) else (if aI v4.2.1 v4.1.2.2.2.1.length then (if decide (((v4.1.2.2.2.1.getD v4.2.1.toNat kD).1)≥v4.1.2.2.1)=true then some ((1:Int),()) else L4 (v4.1,IntKind.i64.wrap (v4.2.1+(1:Int)),())) else none)) else none) else none) else (if aI v4.2.1 v4.1.2.2.2.1.length then (if decide (((v4.1.2.2.2.1.getD v4.2.1.toNat kD).1)≥v4.1.2.2.1)=true then some ((1:Int),()) else L4 (v4.1,IntKind.i64.wrap (v4.2.1+(1:Int)),())) else none)))) else none) else some ((0:Int),()))) n (a0,(0:Int),())))))))))
def E_3:Entry:=⟨157,[.ro nJ],[.val (.int .i64) [] []],fun n c=>mH n c.1⟩
def H_3:Hint:=⟨0,[],[(0,[0,3],[])],[],[(180,some 9,E_1),(44,some 15,Qp),(44,some 22,Qp),(189,some 46,E_2)],[],[],[],[]⟩
theorem D_3:iA T H_3 Tryz.f157 E_3:=by intro n c; kernel_rfl
theorem K_3 [Fr] (n:Nat):aj Tryz.prog n E_3:=ak mixed aL Tryz.func157 (by kernel_rfl) (hi:=H_3) (aa (K_1 n) (aa (TY n) (aa (TY n) (aa (K_2 n) aD)))) D_3
def jy (n:Nat) (a0:fI):Option (Int×Unit):=((bM n a0.1 (1:Int) (1000:Int)).bind fun r1=>(if (!r1.1)=true then some ((3:Int),()) else (if decide ((a0.2.1.length:Int)>(3:Int))=true then some ((2:Int),()) else (rounds (fun L2 (v2:fI×Int×Unit)=>(if decide (v2.2.1<(v2.1.2.1.length:Int))=true then (if aI v2.2.1 v2.1.2.1.length then ((mH n (v2.1.2.1.getD v2.2.1.toNat dF)).bind fun r3=>(if (!decide (r3.1=(0:Int)))=true then some (r3.1,()) else (if aI v2.2.1 v2.1.2.1.length then (if decide ((((v2.1.2.1.getD v2.2.1.toNat dF).2).1)≥v2.1.1)=true then some ((9:Int),()) else (rounds (fun L4 (v4:fI×Int×Int×Unit)=>(if decide (v4.2.2.1<v4.2.1)=true then (if aI v4.2.2.1 v4.1.2.1.length then (if aI v4.2.1 v4.1.2.1.length then (if decide (((v4.1.2.1.getD v4.2.2.1.toNat dF).1)=((v4.1.2.1.getD v4.2.1.toNat dF).1))=true then some ((6:Int),()) else (if aI v4.2.2.1 v4.1.2.1.length then (if aI v4.2.1 v4.1.2.1.length then (if decide ((((v4.1.2.1.getD v4.2.2.1.toNat dF).2).1)=(((v4.1.2.1.getD v4.2.1.toNat dF).2).1))=true then some ((6:Int),()) else L4 (v4.1,v4.2.1,IntKind.i64.wrap (v4.2.2.1+(1:Int)),())) else none) else none)) else none) else none) else L2 (v4.1,IntKind.i64.wrap (v4.2.1+(1:Int)),()))) n (v2.1,v2.2.1,(0:Int),()))) else none))) else none) else some ((0:Int),()))) n (a0,(0:Int),())))))
def E_4:Entry:=⟨114,[.ro qy],[.val (.int .i64) [] []],fun n c=>jy n c.1⟩
def H_4:Hint:=⟨0,[],[(0,[0,3],[]),(2,[0,3,5],[])],[],[(44,some 10,Qp),(157,some 33,E_3)],[],[],[],[]⟩
theorem D_4:iA T H_4 Tryz.f114 E_4:=by intro n c; kernel_rfl
theorem K_4 [Fr] (n:Nat):aj Tryz.prog n E_4:=ak mixed aL Tryz.func114 (by kernel_rfl) (hi:=H_4) (aa (TY n) (aa (K_3 n) aD)) D_4
def dh (n:Nat) (a0:Zt3):Option (Int×Zt3×Unit):=(if decide (a0.2.1≥(a0.1.length:Int))=true then some ((0:Int),(a0.1,a0.2.1,true,a0.2.2.2),()) else (if aI (IntKind.i64.wrap ((IntKind.i64.wrap (a0.2.1+(1:Int))) - (1:Int))) a0.1.length then some (IntKind.i64.wrap (a0.1.getD (IntKind.i64.wrap ((IntKind.i64.wrap (a0.2.1+(1:Int))) - (1:Int))).toNat (0:Int)),(a0.1,IntKind.i64.wrap (a0.2.1+(1:Int)),a0.2.2),()) else none))
def VT:Entry:=⟨193,[.rw Ug [] [4294967295] []],[.val (.int .i64) [] []],fun n c=>dh n c.1⟩
def H_5:Hint:=⟨0,[],[],[],[],[],[],[],[]⟩
theorem D_5:iA T H_5 Tryz.f193 VT:=by intro n c; kernel_rfl
theorem Zc [Fr] (n:Nat):aj Tryz.prog n VT:=ak mixed aL Tryz.func193 (by kernel_rfl) (hi:=H_5) aD D_5
def ig (n:Nat) (a0:Zt3) (a1:Int):Option ((List Int)×Zt3×Unit):=(rounds (fun L1 (v1:Int×Zt3×(List Int)×Unit)=>(if decide (v1.1>(0:Int))=true then (if (!v1.2.1.2.2.1)=true then ((dh n v1.2.1).bind fun r2=>(if (v1.2.2.1.length+[IntKind.u8.wrap r2.1].length) * 1≤140737488355328 then L1 (IntKind.i64.wrap (v1.1 - (1:Int)),r2.2.1,v1.2.2.1++[IntKind.u8.wrap r2.1],()) else none)) else some (v1.2.2.1,v1.2.1,())) else some (v1.2.2.1,v1.2.1,()))) n (a1,a0,([]:List Int),()))
def E_6:Entry:=⟨194,[.rw Ug [] [4294967295] [], .val (.int .i64) []],[.own (.sl 5 (.int .u8)) [5] [] []],fun n c=>ig n c.1 c.2.1⟩
def H_6:Hint:=⟨0,[],[(0,[0,1,5],[0,194])],[],[(193,some 20,VT)],[],[],[],[]⟩
theorem D_6:iA T H_6 Tryz.f194 E_6:=by intro n c; kernel_rfl
theorem K_6 [Fr] (n:Nat):aj Tryz.prog n E_6:=ak mixed aL Tryz.func194 (by kernel_rfl) (hi:=H_6) (aa (Zc n) aD) D_6
def fT (n:Nat) (a0:Zt3):Option (Int×Zt3×Unit):=((dh n a0).bind fun r1=>((dh n r1.2.1).bind fun r2=>some (IntKind.i64.wrap ((IntKind.i64.wrap (r1.1 * (256:Int)))+r2.1),r2.2.1,())))
def E_7:Entry:=⟨195,[.rw Ug [] [4294967295] []],[.val (.int .i64) [] []],fun n c=>fT n c.1⟩
def H_7:Hint:=⟨0,[],[],[],[(193,some 5,VT),(193,some 9,VT)],[],[],[],[]⟩
theorem D_7:iA T H_7 Tryz.f195 E_7:=by intro n c; kernel_rfl
theorem K_7 [Fr] (n:Nat):aj Tryz.prog n E_7:=ak mixed aL Tryz.func195 (by kernel_rfl) (hi:=H_7) (aa (Zc n) (aa (Zc n) aD)) D_7
def u6 (n:Nat) (a0:List Int):Option (iq×Unit):=((dh n (a0,(2:Int),false,())).bind fun r1=>((dh n r1.2.1).bind fun r2=>((ig n r2.2.1 r2.1).bind fun r3=>((dh n r3.2.1).bind fun r4=>((ig n r4.2.1 r4.1).bind fun r5=>((dh n r5.2.1).bind fun r6=>(rounds (fun L7 (v7:Int×iq×Zt3×iq×Unit)=>(if decide (v7.1>(0:Int))=true then (if (!v7.2.2.1.2.2.1)=true then ((fT n v7.2.2.1).bind fun r8=>(if (v7.2.2.2.1.2.2.2.1.length+[r8.1].length) * 8≤140737488355328 then L7 (IntKind.i64.wrap (v7.1 - (1:Int)),v7.2.1,r8.2.1,(v7.2.2.2.1.1,v7.2.2.2.1.2.1,v7.2.2.2.1.2.2.1,v7.2.2.2.1.2.2.2.1++[r8.1],v7.2.2.2.1.2.2.2.2),()) else none)) else ((dh n v7.2.2.1).bind fun r9=>((dh n r9.2.1).bind fun NR=>((fT n NR.2.1).bind fun Io=>((fT n Io.2.1).bind fun Kj=>((ig n Kj.2.1 Kj.1).bind fun Og=>some ((v7.2.2.2.1.1,v7.2.2.2.1.2.1,v7.2.2.2.1.2.2.1,v7.2.2.2.1.2.2.2.1,r9.1,NR.1,Io.1,Og.1,v7.2.2.2.1.2.2.2.2.2.2.2.2),()))))))) else ((dh n v7.2.2.1).bind fun Yr=>((dh n Yr.2.1).bind fun TG=>((fT n TG.2.1).bind fun r16=>((fT n r16.2.1).bind fun r17=>((ig n r17.2.1 r17.1).bind fun r18=>some ((v7.2.2.2.1.1,v7.2.2.2.1.2.1,v7.2.2.2.1.2.2.1,v7.2.2.2.1.2.2.2.1,Yr.1,TG.1,r16.1,r18.1,v7.2.2.2.1.2.2.2.2.2.2.2.2),())))))))) n (r6.1,Es,r6.2.1,(r1.1,r3.1,r5.1,([]:List Int),(0:Int),(0:Int),(0:Int),([]:List Int),()),()))))))))
def E_8:Entry:=⟨162,[.val (.sl 5 (.int .u8)) []],[.own iG [2,5] [] []],fun n c=>u6 n c.1⟩
def H_8:Hint:=⟨0,[30,45],[(0,[2,3,4,5],[66,98,130])],[],[(193,some 9,VT),(193,some 11,VT),(194,some 12,E_6),(193,some 15,VT),(194,some 16,E_6),(193,some 19,VT),(195,some 31,E_7),(193,some 35,VT),(193,some 37,VT),(195,some 39,E_7),(195,some 41,E_7),(194,some 43,E_6)],[],[],[],[]⟩
theorem D_8:iA T H_8 Tryz.f162 E_8:=by intro n c; kernel_rfl
theorem K_8 [Fr] (n:Nat):aj Tryz.prog n E_8:=ak mixed aL Tryz.func162 (by kernel_rfl) (hi:=H_8) (aa (Zc n) (aa (Zc n) (aa (K_6 n) (aa (Zc n) (aa (K_6 n) (aa (Zc n) (aa (K_7 n) (aa (Zc n) (aa (Zc n) (aa (K_7 n) (aa (K_7 n) (aa (K_6 n) aD)))))))))))) D_8
def iF (n:Nat) (a0:Int):Option (Bool×Unit):=(if decide (a0=(5:Int))=true then some (true,()) else some (decide (a0=(6:Int)),()))
def E_9:Entry:=⟨131,[.val (.int .i64) []],[.val .bool [] []],fun n c=>iF n c.1⟩
def H_9:Hint:=⟨0,[],[],[],[],[],[],[],[]⟩
theorem D_9:iA T H_9 Tryz.f131 E_9:=by intro n c; kernel_rfl
theorem K_9 [Fr] (n:Nat):aj Tryz.prog n E_9:=ak mixed aL Tryz.func131 (by kernel_rfl) (hi:=H_9) aD D_9
def uX (n:Nat) (a0:iq):Option (Bool×Unit):=((bM n a0.1 (1:Int) (7:Int)).bind fun r1=>(if (!r1.1)=true then some (false,()) else ((iF n a0.1).bind fun r2=>(if (!r2.1)=true then (if (!decide (a0.2.2.1=([]:List Int)))=true then some (false,()) else ((iF n a0.1).bind fun r3=>(if (!r3.1)=true then (if (!decide (a0.1=(4:Int)))=true then (if decide ((a0.2.2.2.1.length:Int)>(0:Int))=true then some (false,()) else (if (!decide (a0.1=(4:Int)))=true then (if (!decide (a0.2.2.2.2.1=(0:Int)))=true then some (false,()) else (if (!decide (a0.1=(3:Int)))=true then (if (!decide (a0.2.2.2.2.2.2.1=(0:Int)))=true then some (false,()) else (if decide ((a0.2.2.2.2.2.2.2.1.length:Int)>(0:Int))=true then some (false,()) else (if decide (a0.1=(3:Int))=true then some (true,()) else (if decide (a0.1=(4:Int))=true then some (true,()) else some (decide (a0.2.2.2.2.2.1=(0:Int)),()))))) else (if decide (a0.1=(3:Int))=true then some (true,()) else (if decide (a0.1=(4:Int))=true then some (true,()) else some (decide (a0.2.2.2.2.2.1=(0:Int)),()))))) else (if (!decide (a0.1=(3:Int)))=true then (if (!decide (a0.2.2.2.2.2.2.1=(0:Int)))=true then some (false,()) else (if decide ((a0.2.2.2.2.2.2.2.1.length:Int)>(0:Int))=true then some (false,()) else (if decide (a0.1=(3:Int))=true then some (true,()) else (if decide (a0.1=(4:Int))=true then some (true,()) else some (decide (a0.2.2.2.2.2.1=(0:Int)),()))))) else (if decide (a0.1=(3:Int))=true then some (true,()) else (if decide (a0.1=(4:Int))=true then some (true,()) else some (decide (a0.2.2.2.2.2.1=(0:Int)),())))))) else (if (!decide (a0.1=(4:Int)))=true then (if (!decide (a0.2.2.2.2.1=(0:Int)))=true then some (false,()) else (if (!decide (a0.1=(3:Int)))=true then (if (!decide (a0.2.2.2.2.2.2.1=(0:Int)))=true then some (false,()) else (if decide ((a0.2.2.2.2.2.2.2.1.length:Int)>(0:Int))=true then some (false,()) else (if decide (a0.1=(3:Int))=true then some (true,()) else (if decide (a0.1=(4:Int))=true then some (true,()) else some (decide (a0.2.2.2.2.2.1=(0:Int)),()))))) else (if decide (a0.1=(3:Int))=true then some (true,()) else (if decide (a0.1=(4:Int))=true then some (true,()) else some (decide (a0.2.2.2.2.2.1=(0:Int)),()))))) else (if (!decide (a0.1=(3:Int)))=true then (if (!decide (a0.2.2.2.2.2.2.1=(0:Int)))=true then some (false,()) else (if decide ((a0.2.2.2.2.2.2.2.1.length:Int)>(0:Int))=true then some (false,()) else (if decide (a0.1=(3:Int))=true then some (true,()) else (if decide (a0.1=(4:Int))=true then some (true,()) else some (decide (a0.2.2.2.2.2.1=(0:Int)),()))))) else (if decide (a0.1=(3:Int))=true then some (true,()) else (if decide (a0.1=(4:Int))=true then some (true,()) else some (decide (a0.2.2.2.2.2.1=(0:Int)),())))))) else (if (!decide (a0.1=(4:Int)))=true then (if (!decide (a0.2.2.2.2.1=(0:Int)))=true then some (false,()) else (if (!decide (a0.1=(3:Int)))=true then (if (!decide (a0.2.2.2.2.2.2.1=(0:Int)))=true then some (false,()) else (if decide ((a0.2.2.2.2.2.2.2.1.length:Int)>(0:Int))=true then some (false,()) else (if decide (a0.1=(3:Int))=true then some (true,()) else (if decide (a0.1=(4:Int))=true then some (true,()) else some (decide (a0.2.2.2.2.2.1=(0:Int)),()))))) else (if decide (a0.1=(3:Int))=true then some (true,()) else (if decide (a0.1=(4:Int))=true then some (true,()) else some (decide (a0.2.2.2.2.2.1=(0:Int)),()))))) else (if (!decide (a0.1=(3:Int)))=true then (if (!decide (a0.2.2.2.2.2.2.1=(0:Int)))=true then some (false,()) else (if decide ((a0.2.2.2.2.2.2.2.1.length:Int)>(0:Int))=true then some (false,()) else (if decide (a0.1=(3:Int))=true then some (true,()) else (if decide (a0.1=(4:Int))=true then some (true,()) else some (decide (a0.2.2.2.2.2.1=(0:Int)),()))))) else (if decide (a0.1=(3:Int))=true then some (true,()) else (if decide (a0.1=(4:Int))=true then some (true,()) else some (decide (a0.2.2.2.2.2.1=(0:Int)),())))))))) else ((iF n a0.1).bind fun r4=>(if (!r4.1)=true then (if (!decide (a0.1=(4:Int)))=true then (if decide ((a0.2.2.2.1.length:Int)>(0:Int))=true then some (false,()) else (if (!decide (a0.1=(4:Int)))=true then (if (!decide (a0.2.2.2.2.1=(0:Int)))=true then some (false,()) else (if (!decide (a0.1=(3:Int)))=true then (if (!decide (a0.2.2.2.2.2.2.1=(0:Int)))=true then some (false,()) else (if decide ((a0.2.2.2.2.2.2.2.1.length:Int)>(0:Int))=true then some (false,()) else (if decide (a0.1=(3:Int))=true then some (true,()) else (if decide (a0.1=(4:Int))=true then some (true,()) else some (decide (a0.2.2.2.2.2.1=(0:Int)),()))))) else (if decide (a0.1=(3:Int))=true then some (true,()) else (if decide (a0.1=(4:Int))=true then some (true,()) else some (decide (a0.2.2.2.2.2.1=(0:Int)),()))))) else (if (!decide (a0.1=(3:Int)))=true then (if (!decide (a0.2.2.2.2.2.2.1=(0:Int)))=true then some (false,()) else (if decide ((a0.2.2.2.2.2.2.2.1.length:Int)>(0:Int))=true then some (false,()) else (if decide (a0.1=(3:Int))=true then some (true,()) else (if decide (a0.1=(4:Int))=true then some (true,()) else some (decide (a0.2.2.2.2.2.1=(0:Int)),()))))) else (if decide (a0.1=(3:Int))=true then some (true,()) else (if decide (a0.1=(4:Int))=true then some (true,()) else some (decide (a0.2.2.2.2.2.1=(0:Int)),())))))) else (if (!decide (a0.1=(4:Int)))=true then (if (!decide (a0.2.2.2.2.1=(0:Int)))=true then some (false,()) else (if (!decide (a0.1=(3:Int)))=true then (if (!decide (a0.2.2.2.2.2.2.1=(0:Int)))=true then some (false,()) else (if decide ((a0.2.2.2.2.2.2.2.1.length:Int)>(0:Int))=true then some (false,()) else (if decide (a0.1=(3:Int))=true then some (true,()) else (if decide (a0.1=(4:Int))=true then some (true,()) else some (decide (a0.2.2.2.2.2.1=(0:Int)),()))))) else (if decide (a0.1=(3:Int))=true then some (true,()) else (if decide (a0.1=(4:Int))=true then some (true,()) else some (decide (a0.2.2.2.2.2.1=(0:Int)),()))))) else (if (!decide (a0.1=(3:Int)))=true then (if (!decide (a0.2.2.2.2.2.2.1=(0:Int)))=true then some (false,()) else (if decide ((a0.2.2.2.2.2.2.2.1.length:Int)>(0:Int))=true then some (false,()) else (if decide (a0.1=(3:Int))=true then some (true,()) else (if decide (a0.1=(4:Int))=true then some (true,()) else some (decide (a0.2.2.2.2.2.1=(0:Int)),()))))) else (if decide (a0.1=(3:Int))=true then some (true,()) else (if decide (a0.1=(4:Int))=true then some (true,()) else some (decide (a0.2.2.2.2.2.1=(0:Int)),())))))) else (if (!decide (a0.1=(4:Int)))=true then (if (!decide (a0.2.2.2.2.1=(0:Int)))=true then some (false,()) else (if (!decide (a0.1=(3:Int)))=true then (if (!decide (a0.2.2.2.2.2.2.1=(0:Int)))=true then some (false,()) else (if decide ((a0.2.2.2.2.2.2.2.1.length:Int)>(0:Int))=true then some (false,()) else (if decide (a0.1=(3:Int))=true then some (true,()) else (if decide (a0.1=(4:Int))=true then some (true,()) else some (decide (a0.2.2.2.2.2.1=(0:Int)),()))))) else (if decide (a0.1=(3:Int))=true then some (true,()) else (if decide (a0.1=(4:Int))=true then some (true,()) else some (decide (a0.2.2.2.2.2.1=(0:Int)),()))))) else (if (!decide (a0.1=(3:Int)))=true then (if (!decide (a0.2.2.2.2.2.2.1=(0:Int)))=true then some (false,()) else (if decide ((a0.2.2.2.2.2.2.2.1.length:Int)>(0:Int))=true then some (false,()) else (if decide (a0.1=(3:Int))=true then some (true,()) else (if decide (a0.1=(4:Int))=true then some (true,()) else some (decide (a0.2.2.2.2.2.1=(0:Int)),()))))) else (if decide (a0.1=(3:Int))=true then some (true,()) else (if decide (a0.1=(4:Int))=true then some (true,()) else some (decide (a0.2.2.2.2.2.1=(0:Int)),())))))))))))
def abe:Entry:=⟨179,[.ro iG],[.val .bool [] []],fun n c=>uX n c.1⟩
def ad8:Hint:=⟨0,[],[],[],[(44,some 7,Qp),(131,some 14,E_9),(131,some 28,E_9)],[],[],[],[]⟩
theorem ahD:iA T ad8 Tryz.f179 abe:=by intro n c; kernel_rfl
theorem ai8 [Fr] (n:Nat):aj Tryz.prog n abe:=ak mixed aL Tryz.func179 (by kernel_rfl) (hi:=ad8) (aa (TY n) (aa (K_9 n) (aa (K_9 n) aD))) ahD
def qE (n:Nat) (a0:List Int):Option (Bool×Unit):=(rounds (fun L1 (v1:Zt0)=>(if decide (v1.2.1<(v1.1.length:Int))=true then (if aI v1.2.1 v1.1.length then ((bM n (v1.1.getD v1.2.1.toNat (0:Int)) (1:Int) (999:Int)).bind fun r2=>(if (!r2.1)=true then some (false,()) else (if decide (v1.2.1>(0:Int))=true then (if aI v1.2.1 v1.1.length then (if aI (IntKind.i64.wrap (v1.2.1 - (1:Int))) v1.1.length then (if decide ((v1.1.getD v1.2.1.toNat (0:Int))≤(v1.1.getD (IntKind.i64.wrap (v1.2.1 - (1:Int))).toNat (0:Int)))=true then some (false,()) else L1 (v1.1,IntKind.i64.wrap (v1.2.1+(1:Int)),())) else none) else none) else L1 (v1.1,IntKind.i64.wrap (v1.2.1+(1:Int)),())))) else none) else some (true,()))) n (a0,(0:Int),()))
def abf:Entry:=⟨181,[.val (.sl 2 (.int .i64)) []],[.val .bool [] []],fun n c=>qE n c.1⟩
def ad9:Hint:=⟨0,[],[(0,[0,3],[])],[],[(44,some 14,Qp)],[],[],[],[]⟩
theorem ahE:iA T ad9 Tryz.f181 abf:=by intro n c; kernel_rfl
theorem ai9 [Fr] (n:Nat):aj Tryz.prog n abf:=ak mixed aL Tryz.func181 (by kernel_rfl) (hi:=ad9) (aa (TY n) aD) ahE
def o8 (n:Nat) (a0:iq):Option (Int×Unit):=((uX n a0).bind fun r1=>(if (!r1.1)=true then some ((1:Int),()) else ((ko n a0.2.1).bind fun r2=>(if (!r2.1)=true then some ((5:Int),()) else ((iF n a0.1).bind fun r3=>(if r3.1=true then ((ko n a0.2.2.1).bind fun r4=>(if (!r4.1)=true then some ((5:Int),()) else (if decide ((a0.2.2.2.1.length:Int)>(6:Int))=true then some ((2:Int),()) else ((qE n a0.2.2.2.1).bind fun r5=>(if (!r5.1)=true then some ((3:Int),()) else (if decide (a0.1=(4:Int))=true then ((bM n a0.2.2.2.2.1 (1:Int) (3:Int)).bind fun r6=>(if (!r6.1)=true then some ((3:Int),()) else ((bM n a0.2.2.2.2.2.1 (0:Int) (15:Int)).bind fun r7=>(if (!r7.1)=true then some ((3:Int),()) else ((bM n a0.2.2.2.2.2.2.1 (0:Int) (9999:Int)).bind fun r8=>(if (!r8.1)=true then some ((3:Int),()) else (if decide ((a0.2.2.2.2.2.2.2.1.length:Int)>(400:Int))=true then some ((2:Int),()) else some ((0:Int),())))))))) else ((bM n a0.2.2.2.2.2.1 (0:Int) (15:Int)).bind fun r9=>(if (!r9.1)=true then some ((3:Int),()) else ((bM n a0.2.2.2.2.2.2.1 (0:Int) (9999:Int)).bind fun NR=>(if (!NR.1)=true then some ((3:Int),()) else (if decide ((a0.2.2.2.2.2.2.2.1.length:Int)>(400:Int))=true then some ((2:Int),()) else some ((0:Int),())))))))))))) else (if decide ((a0.2.2.2.1.length:Int)>(6:Int))=true then some ((2:Int),()) else ((qE n a0.2.2.2.1).bind fun Io=>(if (!Io.1)=true then some ((3:Int),()) else (if decide (a0.1=(4:Int))=true then ((bM n a0.2.2.2.2.1 (1:Int) (3:Int)).bind fun Kj=>(if (!Kj.1)=true then some ((3:Int),()) else ((bM n a0.2.2.2.2.2.1 (0:Int) (15:Int)).bind fun Og=>(if (!Og.1)=true then some ((3:Int),()) else ((bM n a0.2.2.2.2.2.2.1 (0:Int) (9999:Int)).bind fun Yr=>(if (!Yr.1)=true then some ((3:Int),()) else (if decide ((a0.2.2.2.2.2.2.2.1.length:Int)>(400:Int))=true then some ((2:Int),()) else some ((0:Int),())))))))) else ((bM n a0.2.2.2.2.2.1 (0:Int) (15:Int)).bind fun TG=>(if (!TG.1)=true then some ((3:Int),()) else ((bM n a0.2.2.2.2.2.2.1 (0:Int) (9999:Int)).bind fun r16=>(if (!r16.1)=true then some ((3:Int),()) else (if decide ((a0.2.2.2.2.2.2.2.1.length:Int)>(400:Int))=true then some ((2:Int),()) else some ((0:Int),()))))))))))))))))
def YY:Entry:=⟨154,[.ro iG],[.val (.int .i64) [] []],fun n c=>o8 n c.1⟩
def aea:Hint:=⟨0,[],[],[],[(179,some 4,abe),(180,some 10,E_1),(131,some 17,E_9),(180,some 23,E_1),(181,some 37,abf),(44,some 50,Qp),(44,some 59,Qp),(44,some 67,Qp)],[],[],[],[]⟩
theorem ahF:iA T aea Tryz.f154 YY:=by intro n c; kernel_rfl
theorem afD [Fr] (n:Nat):aj Tryz.prog n YY:=ak mixed aL Tryz.func154 (by kernel_rfl) (hi:=aea) (aa (ai8 n) (aa (K_1 n) (aa (K_9 n) (aa (K_1 n) (aa (ai9 n) (aa (TY n) (aa (TY n) (aa (TY n) aD)))))))) ahF
def mO (n:Nat) (a0:Int):Option ((List Int)×Unit):=(if (256:Int)≠0 then (if (256:Int)≠0 then some ([IntKind.u8.wrap (IntKind.i64.wrap (a0.tdiv (256:Int))),IntKind.u8.wrap (a0.tmod (256:Int))],()) else none) else none)
def Qq:Entry:=⟨94,[.val (.int .i64) []],[.own (.sl 5 (.int .u8)) [5] [] []],fun n c=>mO n c.1⟩
def aeb:Hint:=⟨0,[],[],[],[],[],[],[],[]⟩
theorem ahG:iA T aeb Tryz.f94 Qq:=by intro n c; kernel_rfl
theorem V9 [Fr] (n:Nat):aj Tryz.prog n Qq:=ak mixed aL Tryz.func94 (by kernel_rfl) (hi:=aeb) aD ahG
def wE (n:Nat) (a0:List Int):Option (Int×Unit):=(rounds (fun L1 (v1:(List Int)×Int×Int×Unit)=>(if decide (v1.2.2.1<(v1.1.length:Int))=true then (if aI v1.2.2.1 v1.1.length then (if (65521:Int)≠0 then L1 (v1.1,(IntKind.i64.wrap ((IntKind.i64.wrap (v1.2.1 * (31:Int)))+(IntKind.i64.wrap (v1.1.getD v1.2.2.1.toNat (0:Int))))).tmod (65521:Int),IntKind.i64.wrap (v1.2.2.1+(1:Int)),()) else none) else none) else some (v1.2.1,()))) n (a0,(1:Int),(0:Int),()))
def abg:Entry:=⟨95,[.val (.sl 5 (.int .u8)) []],[.val (.int .i64) [] []],fun n c=>wE n c.1⟩
def aec:Hint:=⟨0,[],[(0,[0,3,4],[])],[],[],[],[],[],[]⟩
theorem ahH:iA T aec Tryz.f95 abg:=by intro n c; kernel_rfl
theorem aja [Fr] (n:Nat):aj Tryz.prog n abg:=ak mixed aL Tryz.func95 (by kernel_rfl) (hi:=aec) aD ahH
def uZ (n:Nat) (a0:iq):Option ((List Int)×Unit):=(if ([(0:Int),(0:Int),IntKind.u8.wrap a0.1,IntKind.u8.wrap (a0.2.1.length:Int)].length+a0.2.1.length) * 1≤140737488355328 then (if (([(0:Int),(0:Int),IntKind.u8.wrap a0.1,IntKind.u8.wrap (a0.2.1.length:Int)]++a0.2.1).length+[IntKind.u8.wrap (a0.2.2.1.length:Int)].length) * 1≤140737488355328 then (if ((([(0:Int),(0:Int),IntKind.u8.wrap a0.1,IntKind.u8.wrap (a0.2.1.length:Int)]++a0.2.1)++[IntKind.u8.wrap (a0.2.2.1.length:Int)]).length+a0.2.2.1.length) * 1≤140737488355328 then (if (((([(0:Int),(0:Int),IntKind.u8.wrap a0.1,IntKind.u8.wrap (a0.2.1.length:Int)]++a0.2.1)++[IntKind.u8.wrap (a0.2.2.1.length:Int)])++a0.2.2.1).length+[IntKind.u8.wrap (a0.2.2.2.1.length:Int)].length) * 1≤140737488355328 then (rounds (fun L1 (v1:iq×Int×(List Int)×Unit)=>(if decide (v1.2.1<(v1.1.2.2.2.1.length:Int))=true then (if aI v1.2.1 v1.1.2.2.2.1.length then ((mO n (v1.1.2.2.2.1.getD v1.2.1.toNat (0:Int))).bind fun r2=>(if (v1.2.2.1.length+r2.1.length) * 1≤140737488355328 then L1 (v1.1,IntKind.i64.wrap (v1.2.1+(1:Int)),v1.2.2.1++r2.1,()) else none)) else none) else (if (v1.2.2.1.length+[IntKind.u8.wrap v1.1.2.2.2.2.1,IntKind.u8.wrap v1.1.2.2.2.2.2.1].length) * 1≤140737488355328 then ((mO n v1.1.2.2.2.2.2.2.1).bind fun r3=>(if ((v1.2.2.1++[IntKind.u8.wrap v1.1.2.2.2.2.1,IntKind.u8.wrap v1.1.2.2.2.2.2.1]).length+r3.1.length) * 1≤140737488355328 then ((mO n (v1.1.2.2.2.2.2.2.2.1.length:Int)).bind fun r4=>(if (((v1.2.2.1++[IntKind.u8.wrap v1.1.2.2.2.2.1,IntKind.u8.wrap v1.1.2.2.2.2.2.1])++r3.1).length+r4.1.length) * 1≤140737488355328 then (if ((((v1.2.2.1++[IntKind.u8.wrap v1.1.2.2.2.2.1,IntKind.u8.wrap v1.1.2.2.2.2.2.1])++r3.1)++r4.1).length+v1.1.2.2.2.2.2.2.2.1.length) * 1≤140737488355328 then ((mO n (IntKind.i64.wrap ((((((v1.2.2.1++[IntKind.u8.wrap v1.1.2.2.2.2.1,IntKind.u8.wrap v1.1.2.2.2.2.2.1])++r3.1)++r4.1)++v1.1.2.2.2.2.2.2.2.1).length:Int)+(2:Int)))).bind fun r5=>(if r5.1.length≤((((v1.2.2.1++[IntKind.u8.wrap v1.1.2.2.2.2.1,IntKind.u8.wrap v1.1.2.2.2.2.2.1])++r3.1)++r4.1)++v1.1.2.2.2.2.2.2.2.1).length then ((wE n (r5.1++((((v1.2.2.1++[IntKind.u8.wrap v1.1.2.2.2.2.1,IntKind.u8.wrap v1.1.2.2.2.2.2.1])++r3.1)++r4.1)++v1.1.2.2.2.2.2.2.2.1).drop r5.1.length)).bind fun r6=>((mO n r6.1).bind fun r7=>(if ((r5.1++((((v1.2.2.1++[IntKind.u8.wrap v1.1.2.2.2.2.1,IntKind.u8.wrap v1.1.2.2.2.2.2.1])++r3.1)++r4.1)++v1.1.2.2.2.2.2.2.2.1).drop r5.1.length).length+r7.1.length) * 1≤140737488355328 then some ((r5.1++((((v1.2.2.1++[IntKind.u8.wrap v1.1.2.2.2.2.1,IntKind.u8.wrap v1.1.2.2.2.2.2.1])++r3.1)++r4.1)++v1.1.2.2.2.2.2.2.2.1).drop r5.1.length)++r7.1,()) else none))) else none)) else none) else none)) else none)) else none))) n (a0,(0:Int),((([(0:Int),(0:Int),IntKind.u8.wrap a0.1,IntKind.u8.wrap (a0.2.1.length:Int)]++a0.2.1)++[IntKind.u8.wrap (a0.2.2.1.length:Int)])++a0.2.2.1)++[IntKind.u8.wrap (a0.2.2.2.1.length:Int)],())) else none) else none) else none) else none)
def abh:Entry:=⟨63,[.ro iG],[.own (.sl 5 (.int .u8)) [5] [] []],fun n c=>uZ n c.1⟩
def aed:Hint:=⟨0,[],[(0,[0,3,4],[514])],[],[(94,some 64,Qq),(94,some 83,Qq),(94,some 91,Qq),(94,some 102,Qq),(95,some 106,abg),(94,some 107,Qq)],[],[],[103],[]⟩
theorem ahI:iA T aed Tryz.f63 abh:=by intro n c; kernel_rfl
theorem ajb [Fr] (n:Nat):aj Tryz.prog n abh:=ak mixed aL Tryz.func63 (by kernel_rfl) (hi:=aed) (aa (V9 n) (aa (V9 n) (aa (V9 n) (aa (V9 n) (aa (aja n) (aa (V9 n) aD)))))) ahI
def uS (n:Nat) (a0:List Int):Option (aj3×Unit):=(if decide ((a0.length:Int)<(2:Int))=true then some (((5:Int),(0:Int),Es,()),()) else (if aI (0:Int) a0.length then (if aI (1:Int) a0.length then (if decide ((IntKind.i64.wrap ((IntKind.i64.wrap ((IntKind.i64.wrap (a0.getD (0:Int).toNat (0:Int))) * (256:Int)))+(IntKind.i64.wrap (a0.getD (1:Int).toNat (0:Int)))))<(2:Int))=true then some (((5:Int),(0:Int),Es,()),()) else (if decide ((IntKind.i64.wrap ((IntKind.i64.wrap ((IntKind.i64.wrap (a0.getD (0:Int).toNat (0:Int))) * (256:Int)))+(IntKind.i64.wrap (a0.getD (1:Int).toNat (0:Int)))))>(a0.length:Int))=true then some (((5:Int),(0:Int),Es,()),()) else (if 0≤(IntKind.i64.wrap ((IntKind.i64.wrap ((IntKind.i64.wrap (a0.getD (0:Int).toNat (0:Int))) * (256:Int)))+(IntKind.i64.wrap (a0.getD (1:Int).toNat (0:Int)))))∧(IntKind.i64.wrap ((IntKind.i64.wrap ((IntKind.i64.wrap (a0.getD (0:Int).toNat (0:Int))) * (256:Int)))+(IntKind.i64.wrap (a0.getD (1:Int).toNat (0:Int)))))≤(a0.length:Int) then ((u6 n (a0.take (IntKind.i64.wrap ((IntKind.i64.wrap ((IntKind.i64.wrap (a0.getD (0:Int).toNat (0:Int))) * (256:Int)))+(IntKind.i64.wrap (a0.getD (1:Int).toNat (0:Int))))).toNat)).bind fun r1=>((o8 n r1.1).bind fun r2=>(if (!decide (r2.1=(0:Int)))=true then some (((5:Int),(0:Int),Es,()),()) else ((uZ n r1.1).bind fun r3=>(if 0≤(IntKind.i64.wrap ((IntKind.i64.wrap ((IntKind.i64.wrap (a0.getD (0:Int).toNat (0:Int))) * (256:Int)))+(IntKind.i64.wrap (a0.getD (1:Int).toNat (0:Int)))))∧(IntKind.i64.wrap ((IntKind.i64.wrap ((IntKind.i64.wrap (a0.getD (0:Int).toNat (0:Int))) * (256:Int)))+(IntKind.i64.wrap (a0.getD (1:Int).toNat (0:Int)))))≤(a0.length:Int) then (if (!decide (r3.1=(a0.take (IntKind.i64.wrap ((IntKind.i64.wrap ((IntKind.i64.wrap (a0.getD (0:Int).toNat (0:Int))) * (256:Int)))+(IntKind.i64.wrap (a0.getD (1:Int).toNat (0:Int))))).toNat)))=true then some (((5:Int),(0:Int),Es,()),()) else some (((0:Int),IntKind.i64.wrap ((IntKind.i64.wrap ((IntKind.i64.wrap (a0.getD (0:Int).toNat (0:Int))) * (256:Int)))+(IntKind.i64.wrap (a0.getD (1:Int).toNat (0:Int)))),r1.1,()),())) else none))))) else none))) else none) else none))
def abj:Entry:=⟨123,[.val (.sl 5 (.int .u8)) []],[.own I1 [2,5] [] []],fun n c=>uS n c.1⟩
def aee:Hint:=⟨0,[45],[],[],[(162,some 31,E_8),(154,some 32,YY),(63,some 35,abh)],[],[],[],[]⟩
theorem ahJ:iA T aee Tryz.f123 abj:=by intro n c; kernel_rfl
theorem ajc [Fr] (n:Nat):aj Tryz.prog n abj:=ak mixed aL Tryz.func123 (by kernel_rfl) (hi:=aee) (aa (K_8 n) (aa (afD n) (aa (ajb n) aD))) ahJ
def lI (n:Nat) (a0:List Int):Option ((List iq)×Int×Unit):=(rounds (fun L1 (v1:(List Int)×Int×(List iq)×Unit)=>(if decide (v1.2.1<(v1.1.length:Int))=true then (if 0≤v1.2.1∧v1.2.1≤(v1.1.length:Int) then ((uS n (v1.1.drop v1.2.1.toNat)).bind fun r2=>(if (!decide (r2.1.1=(0:Int)))=true then some (v1.2.2.1,v1.2.1,()) else (if (v1.2.2.1.length+[r2.1.2.2.1].length) * 112≤140737488355328 then L1 (v1.1,IntKind.i64.wrap (v1.2.1+r2.1.2.1),v1.2.2.1++[r2.1.2.2.1],()) else none))) else none) else some (v1.2.2.1,v1.2.1,()))) n (a0,(0:Int),([]:List iq),()))
def YZ:Entry:=⟨92,[.val (.sl 5 (.int .u8)) []],[.own (.sl 48 iG) [2,5,48] [] [], .val (.int .i64) [] []],fun n c=>lI n c.1⟩
def aef:Hint:=⟨0,[21],[(0,[0,4,5],[226])],[],[(123,some 15,abj)],[],[],[],[]⟩
theorem ahK:iA T aef Tryz.f92 YZ:=by intro n c; kernel_rfl
theorem afE [Fr] (n:Nat):aj Tryz.prog n YZ:=ak mixed aL Tryz.func92 (by kernel_rfl) (hi:=aef) (aa (ajc n) aD) ahK
def uU (n:Nat) (a0:Ae):Option ((List iq)×Bool×Unit):=((lI n a0.2.1).bind fun r1=>((lI n a0.2.2.1).bind fun r2=>(if (r1.1.length+r2.1.length) * 112≤140737488355328 then (if decide (r1.2.1=(a0.2.1.length:Int))=true then some (r1.1++r2.1,decide (r2.2.1=(a0.2.2.1.length:Int)),()) else some (r1.1++r2.1,false,())) else none)))
def abk:Entry:=⟨60,[.ro C8],[.own (.sl 48 iG) [2,5,48] [] [], .val .bool [] []],fun n c=>uU n c.1⟩
def aeg:Hint:=⟨0,[],[],[],[(92,some 13,YZ),(92,some 21,YZ)],[],[],[],[]⟩
theorem ahL:iA T aeg Tryz.f60 abk:=by intro n c; kernel_rfl
theorem ajd [Fr] (n:Nat):aj Tryz.prog n abk:=ak mixed aL Tryz.func60 (by kernel_rfl) (hi:=aeg) (aa (afE n) (aa (afE n) aD)) ahL
def vS (n:Nat)  : Option (fI×Unit):=some (((1:Int),([]:List dQ),()),())
def abl:Entry:=⟨116,[],[.own qy [5,100,103] [] []],fun n c=>vS n⟩
def aeh:Hint:=⟨0,[],[],[],[],[],[],[],[]⟩
theorem ahM:iA T aeh Tryz.f116 abl:=by intro n c; kernel_rfl
theorem aje [Fr] (n:Nat):aj Tryz.prog n abl:=ak mixed aL Tryz.func116 (by kernel_rfl) (hi:=aeh) aD ahM
def dU (n:Nat) (a0:Int):Option (FQ×Unit):=some ((a0,([]:List Int),KX,()),())
def G9:Entry:=⟨153,[.val (.int .i64) []],[.own M3 [2,5,100,103] [] []],fun n c=>dU n c.1⟩
def aei:Hint:=⟨0,[],[],[],[],[],[],[],[]⟩
theorem ahN:iA T aei Tryz.f153 G9:=by intro n c; kernel_rfl
theorem KP [Fr] (n:Nat):aj Tryz.prog n G9:=ak mixed aL Tryz.func153 (by kernel_rfl) (hi:=aei) aD ahN
def nO (n:Nat) (a0:List Int):Option ((List Int)×Unit):=(if (([]:List Int).length+a0.length) * 1≤140737488355328 then some (([]:List Int)++a0,()) else none)
def VO:Entry:=⟨45,[.val (.sl 5 (.int .u8)) []],[.own (.sl 5 (.int .u8)) [5] [] []],fun n c=>nO n c.1⟩
def aej:Hint:=⟨0,[],[],[],[],[],[],[],[]⟩
theorem ahO:iA T aej Tryz.f45 VO:=by intro n c; kernel_rfl
theorem ace [Fr] (n:Nat):aj Tryz.prog n VO:=ak mixed aL Tryz.func45 (by kernel_rfl) (hi:=aej) aD ahO
def oh (n:Nat) (a0:List rz):Option ((List rz)×Unit):=(rounds (fun L1 (v1:(List rz)×Int×(List rz)×Unit)=>(if decide (v1.2.1<(v1.1.length:Int))=true then (if aI v1.2.1 v1.1.length then ((nO n (((((v1.1.getD v1.2.1.toNat kD).2).2).2).1)).bind fun r2=>(if (v1.2.2.1.length+[((v1.1.getD v1.2.1.toNat kD).1,((v1.1.getD v1.2.1.toNat kD).2).1,(((v1.1.getD v1.2.1.toNat kD).2).2).1,r2.1,((((v1.1.getD v1.2.1.toNat kD).2).2).2).2)].length) * 48≤140737488355328 then L1 (v1.1,IntKind.i64.wrap (v1.2.1+(1:Int)),v1.2.2.1++[((v1.1.getD v1.2.1.toNat kD).1,((v1.1.getD v1.2.1.toNat kD).2).1,(((v1.1.getD v1.2.1.toNat kD).2).2).1,r2.1,((((v1.1.getD v1.2.1.toNat kD).2).2).2).2)],()) else none)) else none) else some (v1.2.2.1,()))) n (a0,(0:Int),([]:List rz),()))
def abm:Entry:=⟨124,[.val (.sl 103 zo) []],[.own (.sl 103 zo) [5,103] [] []],fun n c=>oh n c.1⟩
def aek:Hint:=⟨0,[22],[(0,[0,3,4],[194])],[],[(45,some 19,VO)],[],[],[],[]⟩
theorem ahP:iA T aek Tryz.f124 abm:=by intro n c; kernel_rfl
theorem ajf [Fr] (n:Nat):aj Tryz.prog n abm:=ak mixed aL Tryz.func124 (by kernel_rfl) (hi:=aek) (aa (ace n) aD) ahP
def ji (n:Nat) (a0:dQ):Option (dQ×Unit):=((oh n a0.2.2.2.1).bind fun r1=>some ((a0.1,a0.2.1,a0.2.2.1,r1.1,a0.2.2.2.2),()))
def Y0:Entry:=⟨93,[.val nJ []],[.own nJ [5,103] [] []],fun n c=>ji n c.1⟩
def ael:Hint:=⟨0,[7],[],[],[(124,some 5,abm)],[],[],[],[]⟩
theorem ahQ:iA T ael Tryz.f93 Y0:=by intro n c; kernel_rfl
theorem afF [Fr] (n:Nat):aj Tryz.prog n Y0:=ak mixed aL Tryz.func93 (by kernel_rfl) (hi:=ael) (aa (ajf n) aD) ahQ
def nP (n:Nat) (a0:fI):Option (fI×Unit):=(rounds (fun L1 (v1:Int×fI×fI×fI×Unit)=>(if decide (v1.1<(v1.2.1.2.1.length:Int))=true then (if aI v1.1 v1.2.1.2.1.length then ((ji n (v1.2.1.2.1.getD v1.1.toNat dF)).bind fun r2=>(if (v1.2.2.2.1.2.1.length+[r2.1].length) * 56≤140737488355328 then L1 (IntKind.i64.wrap (v1.1+(1:Int)),v1.2.1,v1.2.2.1,(v1.2.2.2.1.1,v1.2.2.2.1.2.1++[r2.1],v1.2.2.2.1.2.2),()) else none)) else none) else some (v1.2.2.2.1,()))) n ((0:Int),a0,KX,(a0.1,([]:List dQ),()),()))
def VP:Entry:=⟨61,[.val qy []],[.own qy [5,100,103] [] []],fun n c=>nP n c.1⟩
def aem:Hint:=⟨0,[16,26],[(0,[1,2,3,4],[34,66,98])],[],[(93,some 22,Y0)],[],[],[],[]⟩
theorem ahR:iA T aem Tryz.f61 VP:=by intro n c; kernel_rfl
theorem acf [Fr] (n:Nat):aj Tryz.prog n VP:=ak mixed aL Tryz.func61 (by kernel_rfl) (hi:=aem) (aa (afF n) aD) ahR
def rF (n:Nat) (a0:fI) (a1:List Int):Option (Int×Unit):=(rounds (fun L1 (v1:fI×Zt0)=>(if decide (v1.2.2.1<(v1.1.2.1.length:Int))=true then (if aI v1.2.2.1 v1.1.2.1.length then (if decide (((v1.1.2.1.getD v1.2.2.1.toNat dF).1)=v1.2.1)=true then some (v1.2.2.1,()) else L1 (v1.1,v1.2.1,IntKind.i64.wrap (v1.2.2.1+(1:Int)),())) else none) else some ((-1:Int),()))) n (a0,a1,(0:Int),()))
def VQ:Entry:=⟨183,[.ro qy, .val .str []],[.val (.int .i64) [] []],fun n c=>rF n c.1 c.2.1⟩
def aen:Hint:=⟨0,[],[(0,[0,1,5],[])],[],[],[],[],[],[]⟩
theorem ahS:iA T aen Tryz.f183 VQ:=by intro n c; kernel_rfl
theorem acg [Fr] (n:Nat):aj Tryz.prog n VQ:=ak mixed aL Tryz.func183 (by kernel_rfl) (hi:=aen) aD ahS
def uY (n:Nat) (a0:fI) (a1:iq):Option (FQ×Unit):=((rF n a0 a1.2.1).bind fun r1=>(if decide (r1.1≥(0:Int))=true then ((dU n (6:Int)).bind fun r2=>some (r2.1,())) else (if decide ((a0.2.1.length:Int)≥(3:Int))=true then ((dU n (10:Int)).bind fun r3=>some (r3.1,())) else (if decide (a0.1≥(1000:Int))=true then ((dU n (10:Int)).bind fun r4=>some (r4.1,())) else ((nP n a0).bind fun r5=>(if (r5.1.2.1.length+[(a1.2.1,a0.1,(1:Int),([]:List rz),())].length) * 56≤140737488355328 then some (((0:Int),([]:List Int),(IntKind.i64.wrap (a0.1+(1:Int)),r5.1.2.1++[(a1.2.1,a0.1,(1:Int),([]:List rz),())],r5.1.2.2),()),()) else none))))))
def abn:Entry:=⟨182,[.val qy [], .ro iG],[.own M3 [2,5,100,103] [] []],fun n c=>uY n c.1 c.2.1⟩
def aeo:Hint:=⟨0,[26,41],[],[],[(183,some 10,VQ),(153,some 12,G9),(153,some 22,G9),(61,some 24,VP)],[],[],[],[]⟩
theorem ahT:iA T aeo Tryz.f182 abn:=by intro n c; kernel_rfl
theorem ajg [Fr] (n:Nat):aj Tryz.prog n abn:=ak mixed aL Tryz.func182 (by kernel_rfl) (hi:=aeo) (aa (acg n) (aa (KP n) (aa (KP n) (aa (acf n) aD)))) ahT
def mK (n:Nat) (a0:dQ) (a1:rz):Option (Int×dQ×Unit):=((nO n a1.2.2.2.1).bind fun r1=>(if (a0.2.2.2.1.length+[(a0.2.2.1,a1.2.1,a1.2.2.1,r1.1,a1.2.2.2.2)].length) * 48≤140737488355328 then some (a0.2.2.1,(a0.1,a0.2.1,IntKind.i64.wrap (a0.2.2.1+(1:Int)),a0.2.2.2.1++[(a0.2.2.1,a1.2.1,a1.2.2.1,r1.1,a1.2.2.2.2)],a0.2.2.2.2),()) else none))
def Y1:Entry:=⟨184,[.rw nJ [5,103] [5,103,4294967295] [5,103], .val zo []],[.val (.int .i64) [] []],fun n c=>mK n c.1 c.2.1⟩
def aep:Hint:=⟨0,[18,19],[],[],[(45,some 12,VO)],[],[],[],[]⟩
theorem ahU:iA T aep Tryz.f184 Y1:=by intro n c; kernel_rfl
theorem afG [Fr] (n:Nat):aj Tryz.prog n Y1:=ak mixed aL Tryz.func184 (by kernel_rfl) (hi:=aep) (aa (ace n) aD) ahU
def mJ (n:Nat) (a0:List Int) (a1:Int):Option (Bool×Unit):=(rounds (fun L1 (v1:(List Int)×Int×Int×Unit)=>(if decide (v1.2.2.1<(v1.1.length:Int))=true then (if aI v1.2.2.1 v1.1.length then (if decide ((v1.1.getD v1.2.2.1.toNat (0:Int))=v1.2.1)=true then some (true,()) else L1 (v1.1,v1.2.1,IntKind.i64.wrap (v1.2.2.1+(1:Int)),())) else none) else some (false,()))) n (a0,a1,(0:Int),()))
def Qr:Entry:=⟨205,[.val (.sl 2 (.int .i64)) [], .val (.int .i64) []],[.val .bool [] []],fun n c=>mJ n c.1 c.2.1⟩
def V5:Hint:=⟨0,[],[(0,[0,1,5],[])],[],[],[],[],[],[]⟩
theorem aa9:iA T V5 Tryz.f205 Qr:=by intro n c; kernel_rfl
theorem ach [Fr] (n:Nat):aj Tryz.prog n Qr:=ak mixed aL Tryz.func205 (by kernel_rfl) (hi:=V5) aD aa9
def sP (n:Nat) (a0:Int) (a1:Int) (a2:Int):Option (Int×Unit):=(if decide (a1=(2:Int))=true then some (IntKind.i64.wrap ((BitVec.ofInt (IntKind.bits .i64) a0 ||| BitVec.ofInt (IntKind.bits .i64) a2).toNat),()) else (if decide (a1=(3:Int))=true then some (IntKind.i64.wrap ((BitVec.ofInt (IntKind.bits .i64) a0 &&& ~~~ BitVec.ofInt (IntKind.bits .i64) a2).toNat),()) else some (a2,())))
def abo:Entry:=⟨206,[.val (.int .i64) [], .val (.int .i64) [], .val (.int .i64) []],[.val (.int .i64) [] []],fun n c=>sP n c.1 c.2.1 c.2.2.1⟩
def aer:Hint:=⟨0,[],[],[],[],[],[],[],[]⟩
theorem ahV:iA T aer Tryz.f206 abo:=by intro n c; kernel_rfl
theorem ajh [Fr] (n:Nat):aj Tryz.prog n abo:=ak mixed aL Tryz.func206 (by kernel_rfl) (hi:=aer) aD ahV
def uW (n:Nat) (a0:dQ) (a1:iq):Option ((List Int)×dQ×Unit):=(rounds (fun L1 (v1:iq×Int×dQ×(List Int)×Unit)=>(if decide (v1.2.1<(v1.2.2.1.2.2.2.1.length:Int))=true then (if aI v1.2.1 v1.2.2.1.2.2.2.1.length then ((mJ n v1.1.2.2.2.1 ((v1.2.2.1.2.2.2.1.getD v1.2.1.toNat kD).1)).bind fun r2=>(if r2.1=true then ((sP n (((v1.2.2.1.2.2.2.1.getD v1.2.1.toNat kD).2).1) v1.1.2.2.2.2.1 v1.1.2.2.2.2.2.1).bind fun r3=>(if (v1.2.2.2.1.length+[((iR v1.2.2.1.2.2.2.1 v1.2.1.toNat kD fun z1=>(z1.1,r3.1,z1.2.2)).getD v1.2.1.toNat kD).1].length) * 8≤140737488355328 then L1 (v1.1,IntKind.i64.wrap (v1.2.1+(1:Int)),(v1.2.2.1.1,v1.2.2.1.2.1,v1.2.2.1.2.2.1,(iR v1.2.2.1.2.2.2.1 v1.2.1.toNat kD fun z1=>(z1.1,r3.1,z1.2.2)),v1.2.2.1.2.2.2.2),v1.2.2.2.1++[((iR v1.2.2.1.2.2.2.1 v1.2.1.toNat kD fun z1=>(z1.1,r3.1,z1.2.2)).getD v1.2.1.toNat kD).1],()) else none)) else L1 (v1.1,IntKind.i64.wrap (v1.2.1+(1:Int)),v1.2.2.1,v1.2.2.2.1,()))) else none) else some (v1.2.2.2.1,v1.2.2.1,()))) n (a1,(0:Int),a0,([]:List Int),()))
def abp:Entry:=⟨185,[.rw nJ [5,103] [103] [], .ro iG],[.own (.sl 2 (.int .i64)) [2] [] []],fun n c=>uW n c.1 c.2.1⟩
def aes:Hint:=⟨0,[21],[(0,[0,1,5,6],[0,258])],[],[(205,some 32,Qr),(206,some 46,abo)],[],[],[],[]⟩
theorem ahW:iA T aes Tryz.f185 abp:=by intro n c; kernel_rfl
theorem aji [Fr] (n:Nat):aj Tryz.prog n abp:=ak mixed aL Tryz.func185 (by kernel_rfl) (hi:=aes) (aa (ach n) (aa (ajh n) aD)) ahW
namespace IdT
def YM:VG:={ ty:=[(2,(.int .i64)),(3,(.int .i64)),(4, .bool),(5,(.int .u8)),(6,(.int .u8)),(7,YR),(8,YR),(9, .str),(10, .str),(11, .str),(12,(.int .u64)),(13,YP),(14,YP),(21,(.int .i32)),(22,(.sl 5 (.int .u8))),(23,(.sl 134 YS)),(24,QD),(25,QD),(26,Ue),(27,Ue),(29,(.sl 2 (.int .i64))),(30,(.sl 100 Hq)),(31,OC),(32,OC),(33,QF),(34,QF),(35,Uf),(36,Uf),(47,iG),(48,iG),(52,Ud),(53,Ud),(55,(.sl 48 iG)),(56,KV),(57,KV),(65,iG),(98,(.sl 103 KW)),(99,Hq),(100,Hq),(102,KW),(103,KW),(109,(.sl 22 (.sl 5 (.int .u8)))),(132,(.sl 199 KW)),(133,YS),(134,YS),(141,I1),(142,I1),(145,YQ),(146,YQ),(150,(.sl 9 .str)),(167,Uc),(168,Uc),(199,KW),(203,Ug),(204,Ug),(226,(.int .u32)),(227,(.int .u8)),(228,(.int .u8)),(231,(.int .i32)),(232,(.int .i32))],bytes:=[(2,8),(3,8),(4,1),(5,1),(6,1),(7,24),(8,24),(9,16),(10,16),(11,16),(12,8),(13,24),(14,24),(21,4),(22,24),(23,24),(24,32),(25,32),(26,88),(27,88),(29,24),(30,24),(31,32),(32,32),(33,88),(34,88),(35,120),(36,120),(47,112),(48,112),(52,64),(53,64),(55,24),(56,40),(57,40),(65,112),(98,24),(99,56),(100,56),(102,48),(103,48),(109,24),(132,24),(133,56),(134,56),(141,128),(142,128),(145,32),(146,32),(150,24),(167,32),(168,32),(199,48),(203,40),(204,40),(226,4),(227,1),(228,1),(231,4),(232,4)],ptr:=[15,16,17,74,87,118,136,161,166,187,206,230],ids:=true }
def T:jd:=YM.tab
theorem aL:Cu Tryz.prog YM=true:=by kernel_rfl
theorem mixed:Tryz.prog.follows .mixedOrders=true:=by kernel_rfl
def mJ (n:Nat) (a0:List Int) (a1:Int):Option (Bool×Unit):=(rounds (fun L1 (v1:(List Int)×Int×Int×Unit)=>(if decide (v1.2.2.1<(v1.1.length:Int))=true then (if aI v1.2.2.1 v1.1.length then (if decide ((v1.1.getD v1.2.2.1.toNat (0:Int))=v1.2.1)=true then some (true,()) else L1 (v1.1,v1.2.1,IntKind.i64.wrap (v1.2.2.1+(1:Int)),())) else none) else some (false,()))) n (a0,a1,(0:Int),()))
def Qr:Entry:=⟨205,[.val (.sl 2 (.int .i64)) [], .val (.int .i64) []],[.val .bool [] []],fun n c=>mJ n c.1 c.2.1⟩
def V5:Hint:=⟨0,[],[(0,[0,1,5],[])],[],[],[],[],[],[]⟩
theorem aa9:iA T V5 Tryz.f205 Qr:=by intro n c; kernel_rfl
theorem ach [Fr] (n:Nat):aj Tryz.prog n Qr:=ak mixed aL Tryz.func205 (by kernel_rfl) (hi:=V5) aD aa9
def fQ (n:Nat) (a0:Zt9) (a1:List Int) (a2:Int):Option ((List M5)×Zt9×Unit):=(rounds (fun L1 (v1:(List Int)×Int×Int×Zt9×(List M5)×(List M5)×Unit)=>(if decide (v1.2.2.1<(v1.2.2.2.1.2.2.2.1.length:Int))=true then (if aI v1.2.2.1 v1.2.2.2.1.2.2.2.1.length then ((mJ n v1.1 ((v1.2.2.2.1.2.2.2.1.getD v1.2.2.1.toNat M6).1)).bind fun r2=>(if r2.1=true then (if (v1.2.2.2.2.1.length+[v1.2.2.2.1.2.2.2.1.getD v1.2.2.1.toNat M6].length) * 48≤140737488355328 then L1 (v1.1,v1.2.1,IntKind.i64.wrap (v1.2.2.1+(1:Int)),v1.2.2.2.1,v1.2.2.2.2.1++[v1.2.2.2.1.2.2.2.1.getD v1.2.2.1.toNat M6],v1.2.2.2.2.2.1,()) else none) else (if (!decide ((IntKind.i64.wrap ((BitVec.ofInt (IntKind.bits .i64) (((v1.2.2.2.1.2.2.2.1.getD v1.2.2.1.toNat M6).2).1) &&& BitVec.ofInt (IntKind.bits .i64) v1.2.1).toNat))=(0:Int)))=true then (if (v1.2.2.2.2.1.length+[v1.2.2.2.1.2.2.2.1.getD v1.2.2.1.toNat M6].length) * 48≤140737488355328 then L1 (v1.1,v1.2.1,IntKind.i64.wrap (v1.2.2.1+(1:Int)),v1.2.2.2.1,v1.2.2.2.2.1++[v1.2.2.2.1.2.2.2.1.getD v1.2.2.1.toNat M6],v1.2.2.2.2.2.1,()) else none) else (if (v1.2.2.2.2.2.1.length+[v1.2.2.2.1.2.2.2.1.getD v1.2.2.1.toNat M6].length) * 48≤140737488355328 then L1 (v1.1,v1.2.1,IntKind.i64.wrap (v1.2.2.1+(1:Int)),v1.2.2.2.1,v1.2.2.2.2.1,v1.2.2.2.2.2.1++[v1.2.2.2.1.2.2.2.1.getD v1.2.2.1.toNat M6],()) else none)))) else none) else some (v1.2.2.2.2.1,(v1.2.2.2.1.1,v1.2.2.2.1.2.1,v1.2.2.2.1.2.2.1,v1.2.2.2.2.2.1,v1.2.2.2.1.2.2.2.2),()))) n (a1,a2,(0:Int),a0,([]:List M5),([]:List M5),()))
def TU:Entry:=⟨186,[.rw Hq [5,103] [4294967295] [103], .val (.sl 2 (.int .i64)) [], .val (.int .i64) []],[.own (.sl 103 KW) [103] [] []],fun n c=>fQ n c.1 c.2.1 c.2.2.1⟩
def aet:Hint:=⟨0,[],[(0,[0,1,2,7,8,9],[0,354,386])],[],[(205,some 32,Qr)],[],[],[],[]⟩
theorem ahX:iA T aet Tryz.f186 TU:=by intro n c; kernel_rfl
theorem Zb [Fr] (n:Nat):aj Tryz.prog n TU:=ak mixed aL Tryz.func186 (by kernel_rfl) (hi:=aet) (aa (ach n) aD) ahX
end IdT
def fQ (n:Nat) (a0:List Int×Int×Int×List jY.Ad×Unit) (a1:List Int) (a2:Int):Option (List jY.Ad×(List Int×Int×Int×List jY.Ad×Unit)×Unit):=jI.Bz jI.pick n a0 a1 a2
def aaW:List dD:=[.rw nJ [5,103] [4294967295,5] [103,4294967294], .val (.sl 2 (.int .i64)) [], .val (.int .i64) []]
def ahf:List mU:=[.own (.sl 103 zo) [5,103] [] []]
def TU:Entry:=⟨186,aaW,ahf,fun n (c:Cont (kin aaW))=>fQ n c.1 c.2.1 c.2.2.1⟩
theorem ai4 {n:Nat} {nm:List Int} {w h:Int} {xs:List M5} {us:List Int} {fl:Int} (hc:xs.length * 48≤140737488355328) (hn:xs.length<n) (hb:us.length≤1048576) (hu:us.length<n) :
  IdT.fQ n (nm,w,h,xs,()) us fl=some (xs.filter (fun x=>jI.pick us fl x.1 x.2.1),(nm,w,h,xs.filter (fun x=>!jI.pick us fl x.1 x.2.1),()),()):=
 jI.Vz (has:=IdT.mJ n) (fun _ _=>rfl) (fun x=>jI.Pg (fun _ _=>rfl) hb hu) hc hn
theorem Zb [Fr] (n:Nat):aj Tryz.prog n TU:=jI.Sl (p:=jI.pick) (e:=5) (m:=103) (i:=2) (ow:=[103]) (FI:=fun n c=>IdT.fQ n c.1 c.2.1 c.2.2.1) rfl (fun fr=>IdT.Zb n) (fun _ _ _ _ _ _ hc hn hb hu=>ai4 hc hn hb hu)
def sO (n:Nat) (a0:fI) (a1:Int) (a2:iq):Option ((List Int)×Int×fI×Unit):=((rF n a0 a2.2.2.1).bind fun r1=>(if decide (r1.1<(0:Int))=true then some (([]:List Int),(4:Int),a0,()) else (if decide (a2.1=(6:Int))=true then (if decide (r1.1=a1)=true then some (([]:List Int),(9:Int),a0,()) else (if aI a1 a0.2.1.length then ((ji n (a0.2.1.getD a1.toNat dF)).bind fun r2=>((fQ n r2.1 a2.2.2.2.1 (0:Int)).bind fun r3=>(if aI r1.1 a0.2.1.length then (if decide ((IntKind.i64.wrap (((((((a0.2.1.getD r1.1.toNat dF).2).2).2).1).length:Int)+(r3.1.length:Int)))>(6:Int))=true then some (([]:List Int),(10:Int),a0,()) else (if decide ((IntKind.i64.wrap (((((a0.2.1.getD r1.1.toNat dF).2).2).1)+(r3.1.length:Int)))>(1000:Int))=true then some (([]:List Int),(10:Int),a0,()) else (rounds (fun L4 (v4:Int×iq×Int×Int×fI×dQ×(List rz)×(List Int)×Unit)=>(if decide (v4.2.2.2.1<(v4.2.2.2.2.2.2.1.length:Int))=true then (if aI v4.2.2.2.1 v4.2.2.2.2.2.2.1.length then ((mK n (v4.2.2.2.2.1.2.1.getD v4.2.2.1.toNat dF) (v4.2.2.2.2.2.2.1.getD v4.2.2.2.1.toNat kD)).bind fun r5=>(if (v4.2.2.2.2.2.2.2.1.length+[r5.1].length) * 8≤140737488355328 then L4 (v4.1,v4.2.1,v4.2.2.1,IntKind.i64.wrap (v4.2.2.2.1+(1:Int)),(v4.2.2.2.2.1.1,v4.2.2.2.2.1.2.1.set v4.2.2.1.toNat r5.2.1,v4.2.2.2.2.1.2.2),v4.2.2.2.2.2.1,v4.2.2.2.2.2.2.1,v4.2.2.2.2.2.2.2.1++[r5.1],()) else none)) else none) else (if decide (v4.2.1.1=(6:Int))=true then (if aI v4.1 v4.2.2.2.2.1.2.1.length then some (v4.2.2.2.2.2.2.2.1,(0:Int),(v4.2.2.2.2.1.1,v4.2.2.2.2.1.2.1.set v4.1.toNat v4.2.2.2.2.2.1,v4.2.2.2.2.1.2.2),()) else none) else some (v4.2.2.2.2.2.2.2.1,(0:Int),v4.2.2.2.2.1,())))) n (a1,a2,r1.1,(0:Int),a0,r3.2.1,r3.1,([]:List Int),())))) else none))) else none)) else (if aI a1 a0.2.1.length then ((ji n (a0.2.1.getD a1.toNat dF)).bind fun r6=>((fQ n r6.1 a2.2.2.2.1 (0:Int)).bind fun r7=>(if aI r1.1 a0.2.1.length then (if decide ((IntKind.i64.wrap (((((((a0.2.1.getD r1.1.toNat dF).2).2).2).1).length:Int)+(r7.1.length:Int)))>(6:Int))=true then some (([]:List Int),(10:Int),a0,()) else (if decide ((IntKind.i64.wrap (((((a0.2.1.getD r1.1.toNat dF).2).2).1)+(r7.1.length:Int)))>(1000:Int))=true then some (([]:List Int),(10:Int),a0,()) else (rounds (fun L8 (v8:Int×iq×Int×Int×fI×dQ×(List rz)×(List Int)×Unit)=>(if decide (v8.2.2.2.1<(v8.2.2.2.2.2.2.1.length:Int))=true then (if aI v8.2.2.2.1 v8.2.2.2.2.2.2.1.length then ((mK n (v8.2.2.2.2.1.2.1.getD v8.2.2.1.toNat dF) (v8.2.2.2.2.2.2.1.getD v8.2.2.2.1.toNat kD)).bind fun r9=>(if (v8.2.2.2.2.2.2.2.1.length+[r9.1].length) * 8≤140737488355328 then L8 (v8.1,v8.2.1,v8.2.2.1,IntKind.i64.wrap (v8.2.2.2.1+(1:Int)),(v8.2.2.2.2.1.1,v8.2.2.2.2.1.2.1.set v8.2.2.1.toNat r9.2.1,v8.2.2.2.2.1.2.2),v8.2.2.2.2.2.1,v8.2.2.2.2.2.2.1,v8.2.2.2.2.2.2.2.1++[r9.1],()) else none)) else none) else (if decide (v8.2.1.1=(6:Int))=true then (if aI v8.1 v8.2.2.2.2.1.2.1.length then some (v8.2.2.2.2.2.2.2.1,(0:Int),(v8.2.2.2.2.1.1,v8.2.2.2.2.1.2.1.set v8.1.toNat v8.2.2.2.2.2.1,v8.2.2.2.2.1.2.2),()) else none) else some (v8.2.2.2.2.2.2.2.1,(0:Int),v8.2.2.2.2.1,())))) n (a1,a2,r1.1,(0:Int),a0,r7.2.1,r7.1,([]:List Int),())))) else none))) else none))))
def abq:Entry:=⟨187,[.rw qy [5,100,103] [5,100,103,4294967295] [5,103], .val (.int .i64) [], .ro iG],[.own (.sl 2 (.int .i64)) [2] [] [], .val (.int .i64) [] []],fun n c=>sO n c.1 c.2.1 c.2.2.1⟩
def aeu:Hint:=⟨0,[48,94,96],[(0,[0,1,2,9,10,11,12,13],[0,290,1410,2242])],[],[(183,some 19,VQ),(93,some 39,Y0),(186,some 44,TU),(184,some 83,Y1)],[],[],[],[]⟩
theorem ahY:iA T aeu Tryz.f187 abq:=by intro n c; kernel_rfl
theorem ajj [Fr] (n:Nat):aj Tryz.prog n abq:=ak mixed aL Tryz.func187 (by kernel_rfl) (hi:=aeu) (aa (acg n) (aa (afF n) (aa (Zb n) (aa (afG n) aD)))) ahY
def sN (n:Nat) (a0:fI) (a1:iq):Option (FQ×Unit):=(if decide (a1.1=(1:Int))=true then ((uY n a0 a1).bind fun r1=>some (r1.1,())) else ((rF n a0 a1.2.1).bind fun r2=>(if decide (r2.1<(0:Int))=true then ((dU n (4:Int)).bind fun r3=>some (r3.1,())) else ((nP n a0).bind fun r4=>(if aI r2.1 r4.1.2.1.length then (if decide (a1.1=(2:Int))=true then (if 0≤r2.1∧r2.1≤(r4.1.2.1.length:Int) then (if (([]:List dQ).length+(r4.1.2.1.take r2.1.toNat).length) * 56≤140737488355328 then (if 0≤(IntKind.i64.wrap (r2.1+(1:Int)))∧(IntKind.i64.wrap (r2.1+(1:Int)))≤(r4.1.2.1.length:Int) then (if ((([]:List dQ)++(r4.1.2.1.take r2.1.toNat)).length+(r4.1.2.1.drop (IntKind.i64.wrap (r2.1+(1:Int))).toNat).length) * 56≤140737488355328 then some (((0:Int),([]:List Int),(r4.1.1,(([]:List dQ)++(r4.1.2.1.take r2.1.toNat))++(r4.1.2.1.drop (IntKind.i64.wrap (r2.1+(1:Int))).toNat),r4.1.2.2),()),()) else none) else none) else none) else none) else (if decide (a1.1=(3:Int))=true then (if decide (((((((r4.1.2.1.getD r2.1.toNat dF).2).2).2).1).length:Int)≥(6:Int))=true then ((dU n (10:Int)).bind fun r5=>some (r5.1,())) else (if decide (((((r4.1.2.1.getD r2.1.toNat dF).2).2).1)≥(1000:Int))=true then ((dU n (10:Int)).bind fun r6=>some (r6.1,())) else ((mK n (r4.1.2.1.getD r2.1.toNat dF) ((0:Int),a1.2.2.2.2.2.1,a1.2.2.2.2.2.2.1,a1.2.2.2.2.2.2.2.1,())).bind fun r7=>some (((0:Int),[r7.1],(r4.1.1,r4.1.2.1.set r2.1.toNat r7.2.1,r4.1.2.2),()),())))) else (if decide (a1.1=(4:Int))=true then ((uW n (r4.1.2.1.getD r2.1.toNat dF) a1).bind fun r8=>some (((0:Int),r8.1,(r4.1.1,r4.1.2.1.set r2.1.toNat r8.2.1,r4.1.2.2),()),())) else (if decide (a1.1=(7:Int))=true then ((fQ n (r4.1.2.1.getD r2.1.toNat dF) ([]:List Int) (8:Int)).bind fun r9=>(rounds (fun L10 (v10:Int×FQ×FQ×(List rz)×Unit)=>(if decide (v10.1<(v10.2.2.2.1.length:Int))=true then (if aI v10.1 v10.2.2.2.1.length then (if (v10.2.2.1.2.1.length+[(v10.2.2.2.1.getD v10.1.toNat kD).1].length) * 8≤140737488355328 then L10 (IntKind.i64.wrap (v10.1+(1:Int)),v10.2.1,(v10.2.2.1.1,v10.2.2.1.2.1++[(v10.2.2.2.1.getD v10.1.toNat kD).1],v10.2.2.1.2.2),v10.2.2.2.1,()) else none) else none) else some (v10.2.2.1,()))) n ((0:Int),acw,((0:Int),([]:List Int),(r4.1.1,r4.1.2.1.set r2.1.toNat r9.2.1,r4.1.2.2),()),r9.1,()))) else ((sO n r4.1 r2.1 a1).bind fun Io=>(if (!decide (Io.2.1=(0:Int)))=true then ((dU n Io.2.1).bind fun Kj=>some (Kj.1,())) else some (((0:Int),Io.1,Io.2.2.1,()),()))))))) else none)))))
def abr:Entry:=⟨155,[.val qy [], .ro iG],[.val M3 [] []],fun n c=>sN n c.1 c.2.1⟩
def aev:Hint:=⟨0,[34,123,132],[(1,[4,6,9,10],[130,194,3682])],[],[(182,some 20,abn),(183,some 25,VQ),(153,some 28,G9),(61,some 30,VP),(153,some 88,G9),(184,some 103,Y1),(185,some 110,abp),(186,some 115,TU),(187,some 45,abq),(153,some 51,G9)],[],[],[],[]⟩
theorem ahZ:iA T aev Tryz.f155 abr:=by intro n c; kernel_rfl
theorem ajk [Fr] (n:Nat):aj Tryz.prog n abr:=ak mixed aL Tryz.func155 (by kernel_rfl) (hi:=aev) (aa (ajg n) (aa (acg n) (aa (KP n) (aa (acf n) (aa (KP n) (aa (afG n) (aa (aji n) (aa (Zb n) (aa (ajj n) (aa (KP n) aD)))))))))) ahZ
def sM (n:Nat) (a0:fI) (a1:iq):Option (FQ×Unit):=((jy n a0).bind fun r1=>(if (!decide (r1.1=(0:Int)))=true then ((dU n r1.1).bind fun r2=>some (r2.1,())) else ((o8 n a1).bind fun r3=>(if (!decide (r3.1=(0:Int)))=true then ((dU n r3.1).bind fun r4=>some (r4.1,())) else ((sN n a0 a1).bind fun r5=>some (r5.1,()))))))
def abt:Entry:=⟨112,[.val qy [], .val iG []],[.val M3 [] []],fun n c=>sM n c.1 c.2.1⟩
def aew:Hint:=⟨0,[],[],[],[(114,some 7,E_4),(153,some 11,G9),(154,some 12,YY),(153,some 16,G9),(155,some 18,abr)],[],[],[],[]⟩
theorem ah0:iA T aew Tryz.f112 abt:=by intro n c; kernel_rfl
theorem ajl [Fr] (n:Nat):aj Tryz.prog n abt:=ak mixed aL Tryz.func112 (by kernel_rfl) (hi:=aew) (aa (K_4 n) (aa (KP n) (aa (afD n) (aa (KP n) (aa (ajk n) aD))))) ah0
def nI (n:Nat) (a0:fI) (a1:List iq):Option (FQ×Unit):=(if decide ((a1.length:Int)>(60:Int))=true then ((dU n (2:Int)).bind fun r1=>some (r1.1,())) else ((jy n a0).bind fun r2=>(if (!decide (r2.1=(0:Int)))=true then ((dU n r2.1).bind fun r3=>some (r3.1,())) else ((nP n a0).bind fun r4=>(rounds (fun L5 (v5:(List iq)×Int×FQ×FQ×Unit)=>(if decide (v5.2.1<(v5.1.length:Int))=true then (if aI v5.2.1 v5.1.length then ((sM n v5.2.2.2.1.2.2.1 (v5.1.getD v5.2.1.toNat Es)).bind fun r6=>(if (!decide (r6.1.1=(0:Int)))=true then ((dU n r6.1.1).bind fun r7=>some (r7.1,())) else L5 (v5.1,IntKind.i64.wrap (v5.2.1+(1:Int)),v5.2.2.1,(v5.2.2.2.1.1,v5.2.2.2.1.2.1,r6.1.2.2.1,v5.2.2.2.1.2.2.2),()))) else none) else some (v5.2.2.2.1,()))) n (a1,(0:Int),acw,((0:Int),([]:List Int),r4.1,()),()))))))
def abu:Entry:=⟨115,[.val qy [], .val (.sl 48 iG) []],[.val M3 [] []],fun n c=>nI n c.1 c.2.1⟩
def aex:Hint:=⟨0,[43],[(0,[1,4,6,7],[130,194])],[(1000194,[5,100,103])],[(153,some 12,G9),(114,some 13,E_4),(153,some 17,G9),(61,some 19,VP),(112,some 33,abt),(153,some 39,G9)],[],[],[],[]⟩
theorem ah1:iA T aex Tryz.f115 abu:=by intro n c; kernel_rfl
theorem ajm [Fr] (n:Nat):aj Tryz.prog n abu:=ak mixed aL Tryz.func115 (by kernel_rfl) (hi:=aex) (aa (KP n) (aa (K_4 n) (aa (KP n) (aa (acf n) (aa (ajl n) (aa (KP n) aD)))))) ah1
def jX (n:Nat) (a0:rz) (a1:rz):Option (Bool×Unit):=(if decide (a0.1=a1.1)=true then (if decide (a0.2.1=a1.2.1)=true then (if decide (a0.2.2.1=a1.2.2.1)=true then some (decide (a0.2.2.2.1=a1.2.2.2.1),()) else some (false,())) else some (false,())) else some (false,()))
def abv:Entry:=⟨190,[.ro zo, .ro zo],[.val .bool [] []],fun n c=>jX n c.1 c.2.1⟩
def aey:Hint:=⟨0,[],[],[],[],[],[],[],[]⟩
theorem ah2:iA T aey Tryz.f190 abv:=by intro n c; kernel_rfl
theorem ajn [Fr] (n:Nat):aj Tryz.prog n abv:=ak mixed aL Tryz.func190 (by kernel_rfl) (hi:=aey) aD ah2
def pX (n:Nat) (a0:dQ) (a1:dQ):Option (Bool×Unit):=(if (!decide (a0.1=a1.1))=true then some (false,()) else (if (!decide (a0.2.1=a1.2.1))=true then some (false,()) else (if (!decide (a0.2.2.1=a1.2.2.1))=true then some (false,()) else (if (!decide ((a0.2.2.2.1.length:Int)=(a1.2.2.2.1.length:Int)))=true then some (false,()) else (rounds (fun L1 (v1:dQ×dQ×Int×Unit)=>(if decide (v1.2.2.1<(v1.1.2.2.2.1.length:Int))=true then (if aI v1.2.2.1 v1.1.2.2.2.1.length then (if aI v1.2.2.1 v1.2.1.2.2.2.1.length then ((jX n (v1.1.2.2.2.1.getD v1.2.2.1.toNat kD) (v1.2.1.2.2.2.1.getD v1.2.2.1.toNat kD)).bind fun r2=>(if (!r2.1)=true then some (false,()) else L1 (v1.1,v1.2.1,IntKind.i64.wrap (v1.2.2.1+(1:Int)),()))) else none) else none) else some (true,()))) n (a0,a1,(0:Int),()))))))
def abw:Entry:=⟨158,[.ro nJ, .ro nJ],[.val .bool [] []],fun n c=>pX n c.1 c.2.1⟩
def aez:Hint:=⟨0,[],[(0,[0,1,5],[])],[],[(190,some 71,abv)],[],[],[],[]⟩
theorem ah3:iA T aez Tryz.f158 abw:=by intro n c; kernel_rfl
theorem ajo [Fr] (n:Nat):aj Tryz.prog n abw:=ak mixed aL Tryz.func158 (by kernel_rfl) (hi:=aez) (aa (ajn n) aD) ah3
def uV (n:Nat) (a0:fI) (a1:fI):Option (Bool×Unit):=(if (!decide (a0.1=a1.1))=true then some (false,()) else (if (!decide ((a0.2.1.length:Int)=(a1.2.1.length:Int)))=true then some (false,()) else (rounds (fun L1 (v1:fI×fI×Int×Unit)=>(if decide (v1.2.2.1<(v1.1.2.1.length:Int))=true then (if aI v1.2.2.1 v1.1.2.1.length then (if aI v1.2.2.1 v1.2.1.2.1.length then ((pX n (v1.1.2.1.getD v1.2.2.1.toNat dF) (v1.2.1.2.1.getD v1.2.2.1.toNat dF)).bind fun r2=>(if (!r2.1)=true then some (false,()) else L1 (v1.1,v1.2.1,IntKind.i64.wrap (v1.2.2.1+(1:Int)),()))) else none) else none) else some (true,()))) n (a0,a1,(0:Int),()))))
def abx:Entry:=⟨117,[.ro qy, .ro qy],[.val .bool [] []],fun n c=>uV n c.1 c.2.1⟩
def aeA:Hint:=⟨0,[],[(0,[0,1,5],[])],[],[(158,some 49,abw)],[],[],[],[]⟩
theorem ah4:iA T aeA Tryz.f117 abx:=by intro n c; kernel_rfl
theorem ajp [Fr] (n:Nat):aj Tryz.prog n abx:=ak mixed aL Tryz.func117 (by kernel_rfl) (hi:=aeA) (aa (ajo n) aD) ah4
def qO (n:Nat) (a0:Ae):Option (Int×Unit):=(if decide ((IntKind.i64.wrap ((a0.2.1.length:Int)+(a0.2.2.1.length:Int)))>(8000:Int))=true then some ((2:Int),()) else (if (!a0.1)=true then (if decide ((a0.2.2.1.length:Int)>(0:Int))=true then some ((1:Int),()) else (if (!decide (a0.2.2.2.1.1=(0:Int)))=true then some ((1:Int),()) else (if decide ((a0.2.2.2.1.2.1.length:Int)>(0:Int))=true then some ((1:Int),()) else some ((0:Int),())))) else ((jy n a0.2.2.2.1).bind fun r1=>(if (!decide (r1.1=(0:Int)))=true then some (r1.1,()) else ((uU n a0).bind fun r2=>(if (!r2.2.1)=true then some ((5:Int),()) else ((vS n).bind fun r3=>((nI n r3.1 r2.1).bind fun r4=>(if (!decide (r4.1.1=(0:Int)))=true then some ((9:Int),()) else ((uV n r4.1.2.2.1 a0.2.2.2.1).bind fun r5=>(if (!r5.1)=true then some ((9:Int),()) else some ((0:Int),()))))))))))))
def aby:Entry:=⟨85,[.ro C8],[.val (.int .i64) [] []],fun n c=>qO n c.1⟩
def aeB:Hint:=⟨0,[],[],[],[(114,some 50,E_4),(60,some 56,abk),(116,some 61,abl),(115,some 63,abu),(117,some 72,abx)],[],[],[],[]⟩
theorem ah5:iA T aeB Tryz.f85 aby:=by intro n c; kernel_rfl
theorem ajr [Fr] (n:Nat):aj Tryz.prog n aby:=ak mixed aL Tryz.func85 (by kernel_rfl) (hi:=aeB) (aa (K_4 n) (aa (ajd n) (aa (aje n) (aa (ajm n) (aa (ajp n) aD))))) ah5
def wD (n:Nat) (a0:Ae):Option (Int×Unit):=((qO n a0).bind fun r1=>(if (!decide (r1.1=(0:Int)))=true then some (r1.1,()) else (if (!a0.1)=true then some ((9:Int),()) else some ((0:Int),()))))
def abz:Entry:=⟨42,[.ro C8],[.val (.int .i64) [] []],fun n c=>wD n c.1⟩
def aeC:Hint:=⟨0,[],[],[],[(85,some 5,aby)],[],[],[],[]⟩
theorem ah6:iA T aeC Tryz.f42 abz:=by intro n c; kernel_rfl
theorem ajs [Fr] (n:Nat):aj Tryz.prog n abz:=ak mixed aL Tryz.func42 (by kernel_rfl) (hi:=aeC) (aa (ajr n) aD) ah6
def uT (n:Nat) (a0:Int):Option (OD×Unit):=some ((a0,([]:List Int),acy,()),())
def Y2:Entry:=⟨43,[.val (.int .i64) []],[.own M4 [2,5,100,103] [] []],fun n c=>uT n c.1⟩
def aeD:Hint:=⟨0,[],[],[],[],[],[],[],[]⟩
theorem ah7:iA T aeD Tryz.f43 Y2:=by intro n c; kernel_rfl
theorem afH [Fr] (n:Nat):aj Tryz.prog n Y2:=ak mixed aL Tryz.func43 (by kernel_rfl) (hi:=aeD) aD ah7
def og (n:Nat) (a0:Ae) (a1:Int):Option (OD×Unit):=((wD n a0).bind fun r1=>(if (!decide (r1.1=(0:Int)))=true then ((uT n r1.1).bind fun r2=>some (r2.1,())) else ((bM n a1 (0:Int) (a0.2.2.1.length:Int)).bind fun r3=>(if (!r3.1)=true then ((uT n (3:Int)).bind fun r4=>some (r4.1,())) else ((nO n a0.2.1).bind fun r5=>(if 0≤a1∧a1≤(a0.2.2.1.length:Int) then (if (r5.1.length+(a0.2.2.1.take a1.toNat).length) * 1≤140737488355328 then some (((0:Int),([]:List Int),(false,r5.1++(a0.2.2.1.take a1.toNat),([]:List Int),KX,()),()),()) else none) else none))))))
def abA:Entry:=⟨10,[.val C8 [], .val (.int .i64) []],[.own M4 [2,5,100,103] [] []],fun n c=>og n c.1 c.2.1⟩
def aeE:Hint:=⟨0,[],[],[],[(42,some 6,abz),(43,some 10,Y2),(44,some 15,Qp),(43,some 17,Y2),(45,some 20,VO)],[],[],[],[]⟩
theorem ah8:iA T aeE Tryz.f10 abA:=by intro n c; kernel_rfl
theorem ajt [Fr] (n:Nat):aj Tryz.prog n abA:=ak mixed aL Tryz.func10 (by kernel_rfl) (hi:=aeE) (aa (ajs n) (aa (afH n) (aa (TY n) (aa (afH n) (aa (ace n) aD))))) ah8
def eT (n:Nat) (a0:Int) (a1:Int) (a2:Int):Option (Bool×Unit):=(if decide (a0≥a1)=true then some (decide (a0≤a2),()) else some (false,()))
def IE:Entry:=⟨49,[.val (.int .i64) [], .val (.int .i64) [], .val (.int .i64) []],[.val .bool [] []],fun n c=>eT n c.1 c.2.1 c.2.2.1⟩
def aeF:Hint:=⟨0,[],[],[],[],[],[],[],[]⟩
theorem ah9:iA T aeF Tryz.f49 IE:=by intro n c; kernel_rfl
theorem MR [Fr] (n:Nat):aj Tryz.prog n IE:=ak mixed aL Tryz.func49 (by kernel_rfl) (hi:=aeF) aD ah9
def mG (n:Nat) (a0:List Int) (a1:Int):Option (Bool×Unit):=(rounds (fun L1 (v1:(List Int)×Int×Int×Int×Unit)=>(if decide (v1.2.2.2.1<v1.2.2.1)=true then (if aI v1.2.2.2.1 v1.1.length then (if decide ((v1.1.getD v1.2.2.2.1.toNat 0)<(97:Int))=true then some (false,()) else (if aI v1.2.2.2.1 v1.1.length then (if decide ((v1.1.getD v1.2.2.2.1.toNat 0)>(122:Int))=true then some (false,()) else L1 (v1.1,v1.2.1,v1.2.2.1,IntKind.i64.wrap (v1.2.2.2.1+(1:Int)),())) else none)) else none) else (if decide ((v1.1.length:Int)≥(1:Int))=true then some (decide ((v1.1.length:Int)≤v1.2.1),()) else some (false,())))) n (a0,a1,(a0.length:Int),(0:Int),()))
def abB:Entry:=⟨171,[.val .str [], .val (.int .i64) []],[.val .bool [] []],fun n c=>mG n c.1 c.2.1⟩
def aeG:Hint:=⟨0,[],[(0,[0,1,7,8],[])],[],[],[],[],[],[]⟩
theorem aia:iA T aeG Tryz.f171 abB:=by intro n c; kernel_rfl
theorem aju [Fr] (n:Nat):aj Tryz.prog n abB:=ak mixed aL Tryz.func171 (by kernel_rfl) (hi:=aeG) aD aia
def nN (n:Nat) (a0:List Int):Option (Bool×Unit):=((mG n a0 (8:Int)).bind fun r1=>some (r1.1,()))
def VS:Entry:=⟨134,[.val .str []],[.val .bool [] []],fun n c=>nN n c.1⟩
def aeH:Hint:=⟨0,[],[],[],[(171,some 4,abB)],[],[],[],[]⟩
theorem aib:iA T aeH Tryz.f134 VS:=by intro n c; kernel_rfl
theorem aci [Fr] (n:Nat):aj Tryz.prog n VS:=ak mixed aL Tryz.func134 (by kernel_rfl) (hi:=aeH) (aa (aju n) aD) aib
def pV (n:Nat) (a0:Int):Option (Bool×Unit):=((eT n a0 (1:Int) (999:Int)).bind fun r1=>some (r1.1,()))
def Y3:Entry:=⟨172,[.val (.int .i64) []],[.val .bool [] []],fun n c=>pV n c.1⟩
def aeI:Hint:=⟨0,[],[],[],[(49,some 4,IE)],[],[],[],[]⟩
theorem aic:iA T aeI Tryz.f172 Y3:=by intro n c; kernel_rfl
theorem afI [Fr] (n:Nat):aj Tryz.prog n Y3:=ak mixed aL Tryz.func172 (by kernel_rfl) (hi:=aeI) (aa (MR n) aD) aic
def fB (n:Nat) (a0:Int):Option (Bool×Unit):=((eT n a0 (0:Int) (15:Int)).bind fun r1=>some (r1.1,()))
def Y4:Entry:=⟨140,[.val (.int .i64) []],[.val .bool [] []],fun n c=>fB n c.1⟩
def aeJ:Hint:=⟨0,[],[],[],[(49,some 4,IE)],[],[],[],[]⟩
theorem aid:iA T aeJ Tryz.f140 Y4:=by intro n c; kernel_rfl
theorem afJ [Fr] (n:Nat):aj Tryz.prog n Y4:=ak mixed aL Tryz.func140 (by kernel_rfl) (hi:=aeJ) (aa (MR n) aD) aid
def gT (n:Nat) (a0:Int):Option (Bool×Unit):=((eT n a0 (0:Int) (9999:Int)).bind fun r1=>some (r1.1,()))
def Y5:Entry:=⟨141,[.val (.int .i64) []],[.val .bool [] []],fun n c=>gT n c.1⟩
def aeK:Hint:=⟨0,[],[],[],[(49,some 4,IE)],[],[],[],[]⟩
theorem aie:iA T aeK Tryz.f141 Y5:=by intro n c; kernel_rfl
theorem afK [Fr] (n:Nat):aj Tryz.prog n Y5:=ak mixed aL Tryz.func141 (by kernel_rfl) (hi:=aeK) (aa (MR n) aD) aie
def iP (n:Nat) (a0:rz):Option (Int×Unit):=((pV n a0.1).bind fun r1=>(if (!r1.1)=true then some ((3:Int),()) else ((fB n a0.2.1).bind fun r2=>(if (!r2.1)=true then some ((3:Int),()) else ((gT n a0.2.2.1).bind fun r3=>(if (!r3.1)=true then some ((3:Int),()) else (if decide ((a0.2.2.2.1.length:Int)>(400:Int))=true then some ((2:Int),()) else some ((0:Int),()))))))))
def abC:Entry:=⟨135,[.val zo []],[.val (.int .i64) [] []],fun n c=>iP n c.1⟩
def aeL:Hint:=⟨0,[],[],[],[(172,some 6,Y3),(140,some 11,Y4),(141,some 17,Y5)],[],[],[],[]⟩
theorem aif:iA T aeL Tryz.f135 abC:=by intro n c; kernel_rfl
theorem ajv [Fr] (n:Nat):aj Tryz.prog n abC:=ak mixed aL Tryz.func135 (by kernel_rfl) (hi:=aeL) (aa (afI n) (aa (afJ n) (aa (afK n) aD))) aif
def nE (n:Nat) (a0:dQ):Option (Int×Unit):=((nN n a0.1).bind fun r1=>(if (!r1.1)=true then some ((5:Int),()) else ((eT n a0.2.1 (1:Int) (999:Int)).bind fun r2=>(if (!r2.1)=true then some ((3:Int),()) else ((eT n a0.2.2.1 (1:Int) (1000:Int)).bind fun r3=>(if (!r3.1)=true then some ((3:Int),()) else (if decide ((a0.2.2.2.1.length:Int)>(6:Int))=true then some ((2:Int),()) else (rounds (fun L4 (v4:Int×(List rz)×Int×Int×dQ×Unit)=>(if decide (v4.2.2.2.1<v4.2.2.1)=true then (if aI v4.2.2.2.1 v4.2.1.length then ((iP n (v4.2.1.getD v4.2.2.2.1.toNat kD)).bind fun r5=>(if (!decide (r5.1=(0:Int)))=true then some (r5.1,()) else (if decide (((v4.2.1.getD v4.2.2.2.1.toNat kD).1)≤v4.1)=true then some ((1:Int),()) else (if decide (((v4.2.1.getD v4.2.2.2.1.toNat kD).1)≥v4.2.2.2.2.1.2.2.1)=true then some ((1:Int),()) else L4 ((v4.2.1.getD v4.2.2.2.1.toNat kD).1,v4.2.1,v4.2.2.1,IntKind.i64.wrap (v4.2.2.2.1+(1:Int)),v4.2.2.2.2.1,()))))) else none) else some ((0:Int),()))) n ((0:Int),a0.2.2.2.1,(a0.2.2.2.1.length:Int),(0:Int),a0,())))))))))
def abD:Entry:=⟨105,[.val nJ []],[.val (.int .i64) [] []],fun n c=>nE n c.1⟩
def aeM:Hint:=⟨0,[],[(1,[1,3,29,30,31],[34])],[],[(134,some 10,VS),(49,some 15,IE),(49,some 20,IE),(135,some 36,abC)],[],[],[],[]⟩
theorem aih:iA T aeM Tryz.f105 abD:=by intro n c; kernel_rfl
theorem ajw [Fr] (n:Nat):aj Tryz.prog n abD:=ak mixed aL Tryz.func105 (by kernel_rfl) (hi:=aeM) (aa (aci n) (aa (MR n) (aa (MR n) (aa (ajv n) aD)))) aih
def kG (n:Nat) (a0:dQ) (a1:dQ):Option (Bool×Unit):=(if decide (a0.1=a1.1)=true then some (true,()) else some (decide (a0.2.1=a1.2.1),()))
def abE:Entry:=⟨107,[.val nJ [], .ro nJ],[.val .bool [] []],fun n c=>kG n c.1 c.2.1⟩
def aeN:Hint:=⟨0,[],[],[],[],[],[],[],[]⟩
theorem aii:iA T aeN Tryz.f107 abE:=by intro n c; kernel_rfl
theorem ajx [Fr] (n:Nat):aj Tryz.prog n abE:=ak mixed aL Tryz.func107 (by kernel_rfl) (hi:=aeN) aD aii
def aY (n:Nat) (a0:List dQ) (Hr:dQ):Option (Int×Unit):=(rounds (fun L1 (v1:(List dQ)×dQ×Int×Int×Unit)=>(if decide (v1.2.2.2.1<v1.2.2.1)=true then (if aI v1.2.2.2.1 v1.1.length then ((kG n (v1.1.getD v1.2.2.2.1.toNat dF) v1.2.1).bind fun r2=>(if r2.1=true then some (v1.2.2.2.1,()) else L1 (v1.1,v1.2.1,v1.2.2.1,IntKind.i64.wrap (v1.2.2.2.1+(1:Int)),()))) else none) else some ((-1:Int),()))) n (a0,Hr,(a0.length:Int),(0:Int),()))
def abF:Entry:=⟨136,[.val (.sl 100 nJ) [], .fn 107 [nJ]],[.val (.int .i64) [] []],fun n c=>aY n c.1 c.2.1⟩
def aeO:Hint:=⟨0,[],[(0,[0,1,7,8],[])],[],[(107,some 16,abE)],[],[],[],[]⟩
theorem aij:iA T aeO Tryz.f136 abF:=by intro n c; kernel_rfl
theorem ajy [Fr] (n:Nat):aj Tryz.prog n abF:=ak mixed aL Tryz.func136 (by kernel_rfl) (hi:=aeO) (aa (ajx n) aD) aij
def bB (n:Nat) (a0:List dQ) (Hr:dQ):Option (Bool×Unit):=((aY n a0 Hr).bind fun r1=>some (decide (r1.1≥(0:Int)),()))
def abG:Entry:=⟨106,[.val (.sl 100 nJ) [], .fn 107 [nJ]],[.val .bool [] []],fun n c=>bB n c.1 c.2.1⟩
def aeP:Hint:=⟨0,[],[],[],[(136,some 7,abF)],[],[],[],[]⟩
theorem aik:iA T aeP Tryz.f106 abG:=by intro n c; kernel_rfl
theorem ajz [Fr] (n:Nat):aj Tryz.prog n abG:=ak mixed aL Tryz.func106 (by kernel_rfl) (hi:=aeP) (aa (ajy n) aD) aik
def iB (n:Nat) (a0:fI):Option (Int×Unit):=((eT n a0.1 (1:Int) (1000:Int)).bind fun r1=>(if (!r1.1)=true then some ((3:Int),()) else (if decide ((a0.2.1.length:Int)>(3:Int))=true then some ((2:Int),()) else (rounds (fun L2 (v2:(List dQ)×Int×Int×fI×Unit)=>(if decide (v2.2.2.1<v2.2.1)=true then (if aI v2.2.2.1 v2.1.length then ((nE n (v2.1.getD v2.2.2.1.toNat dF)).bind fun r3=>(if (!decide (r3.1=(0:Int)))=true then some (r3.1,()) else (if decide ((((v2.1.getD v2.2.2.1.toNat dF).2).1)≥v2.2.2.2.1.1)=true then some ((9:Int),()) else (if 0≤v2.2.2.1∧v2.2.2.1≤(v2.2.2.2.1.2.1.length:Int) then ((bB n (v2.2.2.2.1.2.1.take v2.2.2.1.toNat) (v2.1.getD v2.2.2.1.toNat dF)).bind fun r4=>(if r4.1=true then some ((6:Int),()) else L2 (v2.1,v2.2.1,IntKind.i64.wrap (v2.2.2.1+(1:Int)),v2.2.2.2.1,()))) else none)))) else none) else some ((0:Int),()))) n (a0.2.1,(a0.2.1.length:Int),(0:Int),a0,())))))
def Y6:Entry:=⟨73,[.val qy []],[.val (.int .i64) [] []],fun n c=>iB n c.1⟩
def aeQ:Hint:=⟨0,[],[(1,[1,17,18,19],[34])],[],[(49,some 9,IE),(105,some 25,abD),(106,some 41,abG)],[],[],[],[]⟩
theorem ail:iA T aeQ Tryz.f73 Y6:=by intro n c; kernel_rfl
theorem afL [Fr] (n:Nat):aj Tryz.prog n Y6:=ak mixed aL Tryz.func73 (by kernel_rfl) (hi:=aeQ) (aa (MR n) (aa (ajw n) (aa (ajz n) aD))) ail
def bN (n:Nat) (a0:List Int):Option (Int×Unit):=some ((a0.length:Int),())
def MQ:Entry:=⟨50,[.val (.sl 5 (.int .u8)) []],[.val (.int .i64) [] []],fun n c=>bN n c.1⟩
def aeR:Hint:=⟨0,[],[],[],[],[],[],[],[]⟩
theorem aim:iA T aeR Tryz.f50 MQ:=by intro n c; kernel_rfl
theorem Qy [Fr] (n:Nat):aj Tryz.prog n MQ:=ak mixed aL Tryz.func50 (by kernel_rfl) (hi:=aeR) aD aim
def eY (n:Nat) (a0:Zt1) (a1:Int):Option ((List Int)×Zt1×Unit):=(if a0.2.1=true then (if a1=a1∧0≤a1∧a1 * 1≤140737488355328 then some (List.replicate a1.toNat (0:Int),(a0.1,true,a0.2.2),()) else none) else ((bN n a0.1).bind fun r1=>(if decide (a1>r1.1)=true then (if a1=a1∧0≤a1∧a1 * 1≤140737488355328 then some (List.replicate a1.toNat (0:Int),(a0.1,true,a0.2.2),()) else none) else (if 0≤a1∧a1≤(a0.1.length:Int) then (if 0≤a1∧a1≤(a0.1.length:Int) then some (a0.1.take a1.toNat,(a0.1.drop a1.toNat,a0.2),()) else none) else none))))
def Qs:Entry:=⟨151,[.rw Uc [] [4294967295] [5], .val (.int .i64) []],[.val (.sl 5 (.int .u8)) [0] []],fun n c=>eY n c.1 c.2.1⟩
def aeS:Hint:=⟨0,[],[],[],[(50,some 16,MQ)],[],[],[],[]⟩
theorem ain:iA T aeS Tryz.f151 Qs:=by intro n c; kernel_rfl
theorem Wd [Fr] (n:Nat):aj Tryz.prog n Qs:=ak mixed aL Tryz.func151 (by kernel_rfl) (hi:=aeS) (aa (Qy n) aD) ain
def gK (n:Nat) (a0:Zt1):Option (Int×Zt1×Unit):=((eY n a0 (2:Int)).bind fun r1=>(if aI (0:Int) r1.1.length then (if aI (1:Int) r1.1.length then some (IntKind.i64.wrap ((IntKind.i64.wrap ((IntKind.i64.wrap (r1.1.getD (0:Int).toNat (0:Int))) * (256:Int)))+(IntKind.i64.wrap (r1.1.getD (1:Int).toNat (0:Int)))),r1.2.1,()) else none) else none))
def TV:Entry:=⟨149,[.rw Uc [] [4294967295] [5]],[.val (.int .i64) [] []],fun n c=>gK n c.1⟩
def aeT:Hint:=⟨0,[],[],[],[(151,some 5,Qs)],[],[],[],[]⟩
theorem aio:iA T aeT Tryz.f149 TV:=by intro n c; kernel_rfl
theorem Zd [Fr] (n:Nat):aj Tryz.prog n TV:=ak mixed aL Tryz.func149 (by kernel_rfl) (hi:=aeT) (aa (Wd n) aD) aio
def eU (n:Nat) (a0:Zt1):Option (Int×Zt1×Unit):=((eY n a0 (1:Int)).bind fun r1=>(if aI (0:Int) r1.1.length then some (IntKind.i64.wrap (r1.1.getD (0:Int).toNat (0:Int)),r1.2.1,()) else none))
def Om:Entry:=⟨150,[.rw Uc [] [4294967295] [5]],[.val (.int .i64) [] []],fun n c=>eU n c.1⟩
def aeU:Hint:=⟨0,[],[],[],[(151,some 4,Qs)],[],[],[],[]⟩
theorem aip:iA T aeU Tryz.f150 Om:=by intro n c; kernel_rfl
theorem TZ [Fr] (n:Nat):aj Tryz.prog n Om:=ak mixed aL Tryz.func150 (by kernel_rfl) (hi:=aeU) (aa (Wd n) aD) aip
def nG (n:Nat) (a0:iq):Option (Bool×Unit):=(if decide (a0.1=(5:Int))=true then some (true,()) else some (decide (a0.1=(6:Int)),()))
def VU:Entry:=⟨138,[.val iG []],[.val .bool [] []],fun n c=>nG n c.1⟩
def aeV:Hint:=⟨0,[],[],[],[],[],[],[],[]⟩
theorem aiq:iA T aeV Tryz.f138 VU:=by intro n c; kernel_rfl
theorem acj [Fr] (n:Nat):aj Tryz.prog n VU:=ak mixed aL Tryz.func138 (by kernel_rfl) (hi:=aeV) aD aiq
def jU (n:Nat) (a0:iq):Option (Bool×Unit):=((nG n a0).bind fun r1=>(if r1.1=true then some (true,()) else some (decide (a0.1=(4:Int)),())))
def abH:Entry:=⟨173,[.val iG []],[.val .bool [] []],fun n c=>jU n c.1⟩
def aeW:Hint:=⟨0,[],[],[],[(138,some 4,VU)],[],[],[],[]⟩
theorem air:iA T aeW Tryz.f173 abH:=by intro n c; kernel_rfl
theorem ajB [Fr] (n:Nat):aj Tryz.prog n abH:=ak mixed aL Tryz.func173 (by kernel_rfl) (hi:=aeW) (aa (acj n) aD) air
def pU (n:Nat) (a0:iq):Option (Bool×Unit):=((nG n a0).bind fun r1=>(if r1.1=true then ((jU n a0).bind fun r2=>(if r2.1=true then (if decide (a0.1=(4:Int))=true then (if decide (a0.1=(4:Int))=true then (if decide (a0.1=(3:Int))=true then some (true,()) else (if decide (a0.2.2.2.2.2.2.1=(0:Int))=true then some (decide ((a0.2.2.2.2.2.2.2.1.length:Int)=(0:Int)),()) else some (false,()))) else (if decide (a0.1=(3:Int))=true then (if decide (a0.1=(3:Int))=true then some (true,()) else (if decide (a0.2.2.2.2.2.2.1=(0:Int))=true then some (decide ((a0.2.2.2.2.2.2.2.1.length:Int)=(0:Int)),()) else some (false,()))) else (if decide (a0.2.2.2.2.2.1=(0:Int))=true then (if decide (a0.1=(3:Int))=true then some (true,()) else (if decide (a0.2.2.2.2.2.2.1=(0:Int))=true then some (decide ((a0.2.2.2.2.2.2.2.1.length:Int)=(0:Int)),()) else some (false,()))) else some (false,())))) else (if decide (a0.2.2.2.2.1=(0:Int))=true then (if decide (a0.1=(4:Int))=true then (if decide (a0.1=(3:Int))=true then some (true,()) else (if decide (a0.2.2.2.2.2.2.1=(0:Int))=true then some (decide ((a0.2.2.2.2.2.2.2.1.length:Int)=(0:Int)),()) else some (false,()))) else (if decide (a0.1=(3:Int))=true then (if decide (a0.1=(3:Int))=true then some (true,()) else (if decide (a0.2.2.2.2.2.2.1=(0:Int))=true then some (decide ((a0.2.2.2.2.2.2.2.1.length:Int)=(0:Int)),()) else some (false,()))) else (if decide (a0.2.2.2.2.2.1=(0:Int))=true then (if decide (a0.1=(3:Int))=true then some (true,()) else (if decide (a0.2.2.2.2.2.2.1=(0:Int))=true then some (decide ((a0.2.2.2.2.2.2.2.1.length:Int)=(0:Int)),()) else some (false,()))) else some (false,())))) else some (false,()))) else (if decide ((a0.2.2.2.1.length:Int)=(0:Int))=true then (if decide (a0.1=(4:Int))=true then (if decide (a0.1=(4:Int))=true then (if decide (a0.1=(3:Int))=true then some (true,()) else (if decide (a0.2.2.2.2.2.2.1=(0:Int))=true then some (decide ((a0.2.2.2.2.2.2.2.1.length:Int)=(0:Int)),()) else some (false,()))) else (if decide (a0.1=(3:Int))=true then (if decide (a0.1=(3:Int))=true then some (true,()) else (if decide (a0.2.2.2.2.2.2.1=(0:Int))=true then some (decide ((a0.2.2.2.2.2.2.2.1.length:Int)=(0:Int)),()) else some (false,()))) else (if decide (a0.2.2.2.2.2.1=(0:Int))=true then (if decide (a0.1=(3:Int))=true then some (true,()) else (if decide (a0.2.2.2.2.2.2.1=(0:Int))=true then some (decide ((a0.2.2.2.2.2.2.2.1.length:Int)=(0:Int)),()) else some (false,()))) else some (false,())))) else (if decide (a0.2.2.2.2.1=(0:Int))=true then (if decide (a0.1=(4:Int))=true then (if decide (a0.1=(3:Int))=true then some (true,()) else (if decide (a0.2.2.2.2.2.2.1=(0:Int))=true then some (decide ((a0.2.2.2.2.2.2.2.1.length:Int)=(0:Int)),()) else some (false,()))) else (if decide (a0.1=(3:Int))=true then (if decide (a0.1=(3:Int))=true then some (true,()) else (if decide (a0.2.2.2.2.2.2.1=(0:Int))=true then some (decide ((a0.2.2.2.2.2.2.2.1.length:Int)=(0:Int)),()) else some (false,()))) else (if decide (a0.2.2.2.2.2.1=(0:Int))=true then (if decide (a0.1=(3:Int))=true then some (true,()) else (if decide (a0.2.2.2.2.2.2.1=(0:Int))=true then some (decide ((a0.2.2.2.2.2.2.2.1.length:Int)=(0:Int)),()) else some (false,()))) else some (false,())))) else some (false,()))) else some (false,())))) else (if decide (a0.2.2.1=([]:List Int))=true then ((jU n a0).bind fun r3=>(if r3.1=true then (if decide (a0.1=(4:Int))=true then (if decide (a0.1=(4:Int))=true then (if decide (a0.1=(3:Int))=true then some (true,()) else (if decide (a0.2.2.2.2.2.2.1=(0:Int))=true then some (decide ((a0.2.2.2.2.2.2.2.1.length:Int)=(0:Int)),()) else some (false,()))) else (if decide (a0.1=(3:Int))=true then (if decide (a0.1=(3:Int))=true then some (true,()) else (if decide (a0.2.2.2.2.2.2.1=(0:Int))=true then some (decide ((a0.2.2.2.2.2.2.2.1.length:Int)=(0:Int)),()) else some (false,()))) else (if decide (a0.2.2.2.2.2.1=(0:Int))=true then (if decide (a0.1=(3:Int))=true then some (true,()) else (if decide (a0.2.2.2.2.2.2.1=(0:Int))=true then some (decide ((a0.2.2.2.2.2.2.2.1.length:Int)=(0:Int)),()) else some (false,()))) else some (false,())))) else (if decide (a0.2.2.2.2.1=(0:Int))=true then (if decide (a0.1=(4:Int))=true then (if decide (a0.1=(3:Int))=true then some (true,()) else (if decide (a0.2.2.2.2.2.2.1=(0:Int))=true then some (decide ((a0.2.2.2.2.2.2.2.1.length:Int)=(0:Int)),()) else some (false,()))) else (if decide (a0.1=(3:Int))=true then (if decide (a0.1=(3:Int))=true then some (true,()) else (if decide (a0.2.2.2.2.2.2.1=(0:Int))=true then some (decide ((a0.2.2.2.2.2.2.2.1.length:Int)=(0:Int)),()) else some (false,()))) else (if decide (a0.2.2.2.2.2.1=(0:Int))=true then (if decide (a0.1=(3:Int))=true then some (true,()) else (if decide (a0.2.2.2.2.2.2.1=(0:Int))=true then some (decide ((a0.2.2.2.2.2.2.2.1.length:Int)=(0:Int)),()) else some (false,()))) else some (false,())))) else some (false,()))) else (if decide ((a0.2.2.2.1.length:Int)=(0:Int))=true then (if decide (a0.1=(4:Int))=true then (if decide (a0.1=(4:Int))=true then (if decide (a0.1=(3:Int))=true then some (true,()) else (if decide (a0.2.2.2.2.2.2.1=(0:Int))=true then some (decide ((a0.2.2.2.2.2.2.2.1.length:Int)=(0:Int)),()) else some (false,()))) else (if decide (a0.1=(3:Int))=true then (if decide (a0.1=(3:Int))=true then some (true,()) else (if decide (a0.2.2.2.2.2.2.1=(0:Int))=true then some (decide ((a0.2.2.2.2.2.2.2.1.length:Int)=(0:Int)),()) else some (false,()))) else (if decide (a0.2.2.2.2.2.1=(0:Int))=true then (if decide (a0.1=(3:Int))=true then some (true,()) else (if decide (a0.2.2.2.2.2.2.1=(0:Int))=true then some (decide ((a0.2.2.2.2.2.2.2.1.length:Int)=(0:Int)),()) else some (false,()))) else some (false,())))) else (if decide (a0.2.2.2.2.1=(0:Int))=true then (if decide (a0.1=(4:Int))=true then (if decide (a0.1=(3:Int))=true then some (true,()) else (if decide (a0.2.2.2.2.2.2.1=(0:Int))=true then some (decide ((a0.2.2.2.2.2.2.2.1.length:Int)=(0:Int)),()) else some (false,()))) else (if decide (a0.1=(3:Int))=true then (if decide (a0.1=(3:Int))=true then some (true,()) else (if decide (a0.2.2.2.2.2.2.1=(0:Int))=true then some (decide ((a0.2.2.2.2.2.2.2.1.length:Int)=(0:Int)),()) else some (false,()))) else (if decide (a0.2.2.2.2.2.1=(0:Int))=true then (if decide (a0.1=(3:Int))=true then some (true,()) else (if decide (a0.2.2.2.2.2.2.1=(0:Int))=true then some (decide ((a0.2.2.2.2.2.2.2.1.length:Int)=(0:Int)),()) else some (false,()))) else some (false,())))) else some (false,()))) else some (false,())))) else some (false,()))))
def abI:Entry:=⟨137,[.val iG []],[.val .bool [] []],fun n c=>pU n c.1⟩
def aeX:Hint:=⟨0,[],[],[],[(138,some 12,VU),(173,some 20,abH)],[],[],[],[]⟩
theorem ais:iA T aeX Tryz.f137 abI:=by intro n c; kernel_rfl
theorem ajC [Fr] (n:Nat):aj Tryz.prog n abI:=ak mixed aL Tryz.func137 (by kernel_rfl) (hi:=aeX) (aa (acj n) (aa (ajB n) aD)) ais
def oV (n:Nat) (a0:List Int):Option (Bool×Unit):=(rounds (fun L1 (v1:(List Int)×(List Int)×Int×Int×Unit)=>(if decide (v1.2.2.2.1<v1.2.2.1)=true then (if aI v1.2.2.2.1 v1.2.1.length then ((pV n (v1.2.1.getD v1.2.2.2.1.toNat (0:Int))).bind fun r2=>(if (!r2.1)=true then some (false,()) else (if decide (v1.2.2.2.1>(0:Int))=true then (if aI (IntKind.i64.wrap (v1.2.2.2.1 - (1:Int))) v1.1.length then (if decide ((v1.1.getD (IntKind.i64.wrap (v1.2.2.2.1 - (1:Int))).toNat (0:Int))≥(v1.2.1.getD v1.2.2.2.1.toNat (0:Int)))=true then some (false,()) else L1 (v1.1,v1.2.1,v1.2.2.1,IntKind.i64.wrap (v1.2.2.2.1+(1:Int)),())) else none) else L1 (v1.1,v1.2.1,v1.2.2.1,IntKind.i64.wrap (v1.2.2.2.1+(1:Int)),())))) else none) else some (true,()))) n (a0,a0,(a0.length:Int),(0:Int),()))
def abJ:Entry:=⟨139,[.val (.sl 2 (.int .i64)) []],[.val .bool [] []],fun n c=>oV n c.1⟩
def aeY:Hint:=⟨0,[],[(0,[0,5,6,7],[])],[],[(172,some 13,Y3)],[],[],[],[]⟩
theorem ait:iA T aeY Tryz.f139 abJ:=by intro n c; kernel_rfl
theorem ajD [Fr] (n:Nat):aj Tryz.prog n abJ:=ak mixed aL Tryz.func139 (by kernel_rfl) (hi:=aeY) (aa (afI n) aD) ait
def oU (n:Nat) (a0:iq):Option (Int×Unit):=((eT n a0.1 (1:Int) (7:Int)).bind fun r1=>(if (!r1.1)=true then some ((1:Int),()) else ((pU n a0).bind fun r2=>(if (!r2.1)=true then some ((1:Int),()) else ((nN n a0.2.1).bind fun r3=>(if (!r3.1)=true then some ((5:Int),()) else ((nG n a0).bind fun r4=>(if r4.1=true then ((nN n a0.2.2.1).bind fun r5=>(if (!r5.1)=true then some ((5:Int),()) else (if decide ((a0.2.2.2.1.length:Int)>(6:Int))=true then some ((2:Int),()) else ((oV n a0.2.2.2.1).bind fun r6=>(if (!r6.1)=true then some ((3:Int),()) else (if decide (a0.1=(4:Int))=true then ((eT n a0.2.2.2.2.1 (1:Int) (3:Int)).bind fun r7=>(if (!r7.1)=true then some ((3:Int),()) else ((fB n a0.2.2.2.2.2.1).bind fun r8=>(if (!r8.1)=true then some ((3:Int),()) else ((gT n a0.2.2.2.2.2.2.1).bind fun r9=>(if (!r9.1)=true then some ((3:Int),()) else (if decide ((a0.2.2.2.2.2.2.2.1.length:Int)>(400:Int))=true then some ((2:Int),()) else some ((0:Int),())))))))) else ((fB n a0.2.2.2.2.2.1).bind fun NR=>(if (!NR.1)=true then some ((3:Int),()) else ((gT n a0.2.2.2.2.2.2.1).bind fun Io=>(if (!Io.1)=true then some ((3:Int),()) else (if decide ((a0.2.2.2.2.2.2.2.1.length:Int)>(400:Int))=true then some ((2:Int),()) else some ((0:Int),())))))))))))) else (if decide ((a0.2.2.2.1.length:Int)>(6:Int))=true then some ((2:Int),()) else ((oV n a0.2.2.2.1).bind fun Kj=>(if (!Kj.1)=true then some ((3:Int),()) else (if decide (a0.1=(4:Int))=true then ((eT n a0.2.2.2.2.1 (1:Int) (3:Int)).bind fun Og=>(if (!Og.1)=true then some ((3:Int),()) else ((fB n a0.2.2.2.2.2.1).bind fun Yr=>(if (!Yr.1)=true then some ((3:Int),()) else ((gT n a0.2.2.2.2.2.2.1).bind fun TG=>(if (!TG.1)=true then some ((3:Int),()) else (if decide ((a0.2.2.2.2.2.2.2.1.length:Int)>(400:Int))=true then some ((2:Int),()) else some ((0:Int),())))))))) else ((fB n a0.2.2.2.2.2.1).bind fun r16=>(if (!r16.1)=true then some ((3:Int),()) else ((gT n a0.2.2.2.2.2.2.1).bind fun r17=>(if (!r17.1)=true then some ((3:Int),()) else (if decide ((a0.2.2.2.2.2.2.2.1.length:Int)>(400:Int))=true then some ((2:Int),()) else some ((0:Int),()))))))))))))))))))
def Y7:Entry:=⟨108,[.val iG []],[.val (.int .i64) [] []],fun n c=>oU n c.1⟩
def aeZ:Hint:=⟨0,[],[],[],[(49,some 6,IE),(137,some 10,abI),(134,some 16,VS),(138,some 20,VU),(134,some 24,VS),(139,some 36,abJ),(49,some 45,IE),(140,some 52,Y4),(141,some 58,Y5)],[],[],[],[]⟩
theorem aiu:iA T aeZ Tryz.f108 Y7:=by intro n c; kernel_rfl
theorem afM [Fr] (n:Nat):aj Tryz.prog n Y7:=ak mixed aL Tryz.func108 (by kernel_rfl) (hi:=aeZ) (aa (MR n) (aa (ajC n) (aa (aci n) (aa (acj n) (aa (aci n) (aa (ajD n) (aa (MR n) (aa (afJ n) (aa (afK n) aD))))))))) aiu
def oZ (n:Nat) (a0:Int):Option ((List Int)×Unit):=(if (256:Int)≠0 then (if (256:Int)≠0 then some ([IntKind.u8.wrap (IntKind.i64.wrap (a0.tdiv (256:Int))),IntKind.u8.wrap (a0.tmod (256:Int))],()) else none) else none)
def Qt:Entry:=⟨125,[.val (.int .i64) []],[.own (.sl 5 (.int .u8)) [5] [] []],fun n c=>oZ n c.1⟩
def ae0:Hint:=⟨0,[],[],[],[],[],[],[],[]⟩
theorem aiv:iA T ae0 Tryz.f125 Qt:=by intro n c; kernel_rfl
theorem We [Fr] (n:Nat):aj Tryz.prog n Qt:=ak mixed aL Tryz.func125 (by kernel_rfl) (hi:=ae0) aD aiv
def wC (n:Nat) (a0:List Int):Option (Int×Unit):=(rounds (fun L1 (v1:Int×(List Int)×Int×Int×Unit)=>(if decide (v1.2.2.2.1<v1.2.2.1)=true then (if aI v1.2.2.2.1 v1.2.1.length then (if (65521:Int)≠0 then L1 ((IntKind.i64.wrap ((IntKind.i64.wrap (v1.1 * (31:Int)))+(IntKind.i64.wrap (v1.2.1.getD v1.2.2.2.1.toNat (0:Int))))).tmod (65521:Int),v1.2.1,v1.2.2.1,IntKind.i64.wrap (v1.2.2.2.1+(1:Int)),()) else none) else none) else some (v1.1,()))) n ((1:Int),a0,(a0.length:Int),(0:Int),()))
def abK:Entry:=⟨126,[.val (.sl 5 (.int .u8)) []],[.val (.int .i64) [] []],fun n c=>wC n c.1⟩
def ae1:Hint:=⟨0,[],[(0,[3,6,7,8],[])],[],[],[],[],[],[]⟩
theorem aiw:iA T ae1 Tryz.f126 abK:=by intro n c; kernel_rfl
theorem ajE [Fr] (n:Nat):aj Tryz.prog n abK:=ak mixed aL Tryz.func126 (by kernel_rfl) (hi:=ae1) aD aiw
def uN (n:Nat) (a0:iq):Option ((List Int)×Unit):=(if ([IntKind.u8.wrap a0.1,IntKind.u8.wrap (a0.2.1.length:Int)].length+a0.2.1.length) * 1≤140737488355328 then (if (([IntKind.u8.wrap a0.1,IntKind.u8.wrap (a0.2.1.length:Int)]++a0.2.1).length+[IntKind.u8.wrap (a0.2.2.1.length:Int)].length) * 1≤140737488355328 then (if ((([IntKind.u8.wrap a0.1,IntKind.u8.wrap (a0.2.1.length:Int)]++a0.2.1)++[IntKind.u8.wrap (a0.2.2.1.length:Int)]).length+a0.2.2.1.length) * 1≤140737488355328 then (if (((([IntKind.u8.wrap a0.1,IntKind.u8.wrap (a0.2.1.length:Int)]++a0.2.1)++[IntKind.u8.wrap (a0.2.2.1.length:Int)])++a0.2.2.1).length+[IntKind.u8.wrap (a0.2.2.2.1.length:Int)].length) * 1≤140737488355328 then (rounds (fun L1 (v1:(List Int)×Int×Int×iq×(List Int)×Unit)=>(if decide (v1.2.2.1<v1.2.1)=true then (if aI v1.2.2.1 v1.1.length then ((oZ n (v1.1.getD v1.2.2.1.toNat (0:Int))).bind fun r2=>(if (v1.2.2.2.2.1.length+r2.1.length) * 1≤140737488355328 then L1 (v1.1,v1.2.1,IntKind.i64.wrap (v1.2.2.1+(1:Int)),v1.2.2.2.1,v1.2.2.2.2.1++r2.1,()) else none)) else none) else (if (v1.2.2.2.2.1.length+[IntKind.u8.wrap v1.2.2.2.1.2.2.2.2.1,IntKind.u8.wrap v1.2.2.2.1.2.2.2.2.2.1].length) * 1≤140737488355328 then ((oZ n v1.2.2.2.1.2.2.2.2.2.2.1).bind fun r3=>(if ((v1.2.2.2.2.1++[IntKind.u8.wrap v1.2.2.2.1.2.2.2.2.1,IntKind.u8.wrap v1.2.2.2.1.2.2.2.2.2.1]).length+r3.1.length) * 1≤140737488355328 then ((bN n v1.2.2.2.1.2.2.2.2.2.2.2.1).bind fun r4=>((oZ n r4.1).bind fun r5=>(if (((v1.2.2.2.2.1++[IntKind.u8.wrap v1.2.2.2.1.2.2.2.2.1,IntKind.u8.wrap v1.2.2.2.1.2.2.2.2.2.1])++r3.1).length+r5.1.length) * 1≤140737488355328 then (if ((((v1.2.2.2.2.1++[IntKind.u8.wrap v1.2.2.2.1.2.2.2.2.1,IntKind.u8.wrap v1.2.2.2.1.2.2.2.2.2.1])++r3.1)++r5.1).length+v1.2.2.2.1.2.2.2.2.2.2.2.1.length) * 1≤140737488355328 then ((bN n ((((v1.2.2.2.2.1++[IntKind.u8.wrap v1.2.2.2.1.2.2.2.2.1,IntKind.u8.wrap v1.2.2.2.1.2.2.2.2.2.1])++r3.1)++r5.1)++v1.2.2.2.1.2.2.2.2.2.2.2.1)).bind fun r6=>((oZ n (IntKind.i64.wrap (r6.1+(4:Int)))).bind fun r7=>(if (r7.1.length+((((v1.2.2.2.2.1++[IntKind.u8.wrap v1.2.2.2.1.2.2.2.2.1,IntKind.u8.wrap v1.2.2.2.1.2.2.2.2.2.1])++r3.1)++r5.1)++v1.2.2.2.1.2.2.2.2.2.2.2.1).length) * 1≤140737488355328 then ((wC n (r7.1++((((v1.2.2.2.2.1++[IntKind.u8.wrap v1.2.2.2.1.2.2.2.2.1,IntKind.u8.wrap v1.2.2.2.1.2.2.2.2.2.1])++r3.1)++r5.1)++v1.2.2.2.1.2.2.2.2.2.2.2.1))).bind fun r8=>((oZ n r8.1).bind fun r9=>(if ((r7.1++((((v1.2.2.2.2.1++[IntKind.u8.wrap v1.2.2.2.1.2.2.2.2.1,IntKind.u8.wrap v1.2.2.2.1.2.2.2.2.2.1])++r3.1)++r5.1)++v1.2.2.2.1.2.2.2.2.2.2.2.1)).length+r9.1.length) * 1≤140737488355328 then some ((r7.1++((((v1.2.2.2.2.1++[IntKind.u8.wrap v1.2.2.2.1.2.2.2.2.1,IntKind.u8.wrap v1.2.2.2.1.2.2.2.2.2.1])++r3.1)++r5.1)++v1.2.2.2.1.2.2.2.2.2.2.2.1))++r9.1,()) else none))) else none))) else none) else none))) else none)) else none))) n (a0.2.2.2.1,(a0.2.2.2.1.length:Int),(0:Int),a0,((([IntKind.u8.wrap a0.1,IntKind.u8.wrap (a0.2.1.length:Int)]++a0.2.1)++[IntKind.u8.wrap (a0.2.2.1.length:Int)])++a0.2.2.1)++[IntKind.u8.wrap (a0.2.2.2.1.length:Int)],())) else none) else none) else none) else none)
def abL:Entry:=⟨97,[.val iG []],[.own (.sl 5 (.int .u8)) [5] [] []],fun n c=>uN n c.1⟩
def ae2:Hint:=⟨0,[],[(0,[1,3,37,38,39],[34,450])],[],[(125,some 45,Qt),(125,some 60,Qt),(50,some 64,MQ),(125,some 65,Qt),(50,some 72,MQ),(125,some 74,Qt),(126,some 79,abK),(125,some 80,Qt)],[],[],[],[]⟩
theorem aix:iA T ae2 Tryz.f97 abL:=by intro n c; kernel_rfl
theorem ajF [Fr] (n:Nat):aj Tryz.prog n abL:=ak mixed aL Tryz.func97 (by kernel_rfl) (hi:=ae2) (aa (We n) (aa (We n) (aa (Qy n) (aa (We n) (aa (Qy n) (aa (We n) (aa (ajE n) (aa (We n) aD)))))))) aix
def yO (n:Nat) (a0:List Int) (a1:List Int):Option (Bool×Unit):=some (decide (a0=a1),())
def abM:Entry:=⟨152,[.val (.sl 5 (.int .u8)) [], .val (.sl 5 (.int .u8)) []],[.val .bool [] []],fun n c=>yO n c.1 c.2.1⟩
def ae3:Hint:=⟨0,[],[],[],[],[],[],[],[]⟩
theorem aiy:iA T ae3 Tryz.f152 abM:=by intro n c; kernel_rfl
theorem ajG [Fr] (n:Nat):aj Tryz.prog n abM:=ak mixed aL Tryz.func152 (by kernel_rfl) (hi:=ae3) aD aiy
def qD (n:Nat) (a0:List Int):Option (iq×Int×Unit):=((gK n (a0,false,())).bind fun r1=>(if r1.2.1.2.1=true then some (Es,(0:Int),()) else ((bN n a0).bind fun r2=>(if decide (r1.1>r2.1)=true then some (Es,(0:Int),()) else (if 0≤(2:Int)∧(2:Int)≤(if r1.1>(2:Int) then r1.1 else (2:Int))∧(if r1.1>(2:Int) then r1.1 else (2:Int))≤(a0.length:Int) then ((eU n ((a0.take (if r1.1>(2:Int) then r1.1 else (2:Int)).toNat).drop (2:Int).toNat,r1.2.1.2)).bind fun r3=>((eU n r3.2.1).bind fun r4=>((eY n r4.2.1 r4.1).bind fun r5=>((eU n r5.2.1).bind fun r6=>((eY n r6.2.1 r6.1).bind fun r7=>((eU n r7.2.1).bind fun r8=>(rounds (fun L9 (v9:(List Int)×Int×Int×Int×iq×iq×Zt1×Unit)=>(if decide (v9.2.2.2.1<v9.2.2.1)=true then ((gK n v9.2.2.2.2.2.2.1).bind fun NR=>(if (v9.2.2.2.2.2.1.2.2.2.1.length+[NR.1].length) * 8≤140737488355328 then L9 (v9.1,v9.2.1,v9.2.2.1,IntKind.i64.wrap (v9.2.2.2.1+(1:Int)),v9.2.2.2.2.1,(v9.2.2.2.2.2.1.1,v9.2.2.2.2.2.1.2.1,v9.2.2.2.2.2.1.2.2.1,v9.2.2.2.2.2.1.2.2.2.1++[NR.1],v9.2.2.2.2.2.1.2.2.2.2),NR.2.1,()) else none)) else ((eU n v9.2.2.2.2.2.2.1).bind fun Io=>((eU n Io.2.1).bind fun Kj=>((gK n Kj.2.1).bind fun Og=>((gK n Og.2.1).bind fun Yr=>((eY n Yr.2.1 Yr.1).bind fun TG=>(if (([]:List Int).length+TG.1.length) * 1≤140737488355328 then (if TG.2.1.2.1=true then some (Es,(0:Int),()) else ((oU n (v9.2.2.2.2.2.1.1,v9.2.2.2.2.2.1.2.1,v9.2.2.2.2.2.1.2.2.1,v9.2.2.2.2.2.1.2.2.2.1,Io.1,Kj.1,Og.1,([]:List Int)++TG.1,v9.2.2.2.2.2.1.2.2.2.2.2.2.2.2)).bind fun r16=>(if (!decide (r16.1=(0:Int)))=true then some (Es,(0:Int),()) else ((uN n (v9.2.2.2.2.2.1.1,v9.2.2.2.2.2.1.2.1,v9.2.2.2.2.2.1.2.2.1,v9.2.2.2.2.2.1.2.2.2.1,Io.1,Kj.1,Og.1,([]:List Int)++TG.1,v9.2.2.2.2.2.1.2.2.2.2.2.2.2.2)).bind fun r17=>(if 0≤v9.2.1∧v9.2.1≤(v9.1.length:Int) then ((yO n r17.1 (v9.1.take v9.2.1.toNat)).bind fun r18=>(if (!r18.1)=true then some (Es,(0:Int),()) else some ((v9.2.2.2.2.2.1.1,v9.2.2.2.2.2.1.2.1,v9.2.2.2.2.2.1.2.2.1,v9.2.2.2.2.2.1.2.2.2.1,Io.1,Kj.1,Og.1,([]:List Int)++TG.1,v9.2.2.2.2.2.1.2.2.2.2.2.2.2.2),v9.2.1,()))) else none))))) else none)))))))) n (a0,r1.1,r8.1,(0:Int),Es,(r3.1,r5.1,r7.1,([]:List Int),(0:Int),(0:Int),(0:Int),([]:List Int),()),r8.2.1,())))))))) else none)))))
def abN:Entry:=⟨110,[.val (.sl 5 (.int .u8)) []],[.own iG [2,5] [] [], .val (.int .i64) [] []],fun n c=>qD n c.1⟩
def ae4:Hint:=⟨0,[50,92],[(0,[0,2,4,5,6,46,47],[66,194,290])],[],[(149,some 11,TV),(50,some 19,MQ),(150,some 31,Om),(150,some 35,Om),(151,some 36,Qs),(150,some 41,Om),(151,some 42,Qs),(150,some 46,Om),(149,some 52,TV),(150,some 58,Om),(150,some 61,Om),(149,some 64,TV),(149,some 69,TV),(151,some 70,Qs),(108,some 79,Y7),(97,some 84,abL),(152,some 88,abM)],[],[],[],[]⟩
theorem aiz:iA T ae4 Tryz.f110 abN:=by intro n c; kernel_rfl
theorem ajH [Fr] (n:Nat):aj Tryz.prog n abN:=ak mixed aL Tryz.func110 (by kernel_rfl) (hi:=ae4) (aa (Zd n) (aa (Qy n) (aa (TZ n) (aa (TZ n) (aa (Wd n) (aa (TZ n) (aa (Wd n) (aa (TZ n) (aa (Zd n) (aa (TZ n) (aa (TZ n) (aa (Zd n) (aa (Zd n) (aa (Wd n) (aa (afM n) (aa (ajF n) (aa (ajG n) aD))))))))))))))))) aiz
def oW (n:Nat) (a0:List Int):Option ((List iq)×Int×Unit):=(rounds (fun L1 (v1:(List Int)×Int×(List iq)×Unit)=>(if 0≤v1.2.1∧v1.2.1≤(v1.1.length:Int) then ((qD n (v1.1.drop v1.2.1.toNat)).bind fun r2=>(if decide (r2.2.1=(0:Int))=true then some (v1.2.2.1,v1.2.1,()) else (if (v1.2.2.1.length+[r2.1].length) * 112≤140737488355328 then L1 (v1.1,IntKind.i64.wrap (v1.2.1+r2.2.1),v1.2.2.1++[r2.1],()) else none))) else none)) n (a0,(0:Int),([]:List iq),()))
def Y8:Entry:=⟨75,[.val (.sl 5 (.int .u8)) []],[.own (.sl 48 iG) [2,5,48] [] [], .val (.int .i64) [] []],fun n c=>oW n c.1⟩
def ae5:Hint:=⟨0,[21],[(0,[0,4,5],[258])],[],[(110,some 13,abN)],[],[],[],[]⟩
theorem aiA:iA T ae5 Tryz.f75 Y8:=by intro n c; kernel_rfl
theorem afN [Fr] (n:Nat):aj Tryz.prog n Y8:=ak mixed aL Tryz.func75 (by kernel_rfl) (hi:=ae5) (aa (ajH n) aD) aiA
def kU (n:Nat) (a0:Ae):Option ((List iq)×Bool×Unit):=((oW n a0.2.1).bind fun r1=>((oW n a0.2.2.1).bind fun r2=>(if (r1.1.length+r2.1.length) * 112≤140737488355328 then ((bN n a0.2.1).bind fun r3=>(if decide (r1.2.1=r3.1)=true then ((bN n a0.2.2.1).bind fun r4=>some (r1.1++r2.1,decide (r2.2.1=r4.1),())) else some (r1.1++r2.1,false,()))) else none)))
def abO:Entry:=⟨64,[.val C8 []],[.own (.sl 48 iG) [2,5,48] [] [], .val .bool [] []],fun n c=>kU n c.1⟩
def ae6:Hint:=⟨0,[],[],[],[(75,some 11,Y8),(75,some 17,Y8),(50,some 26,MQ),(50,some 32,MQ)],[],[],[],[]⟩
theorem aiB:iA T ae6 Tryz.f64 abO:=by intro n c; kernel_rfl
theorem ajJ [Fr] (n:Nat):aj Tryz.prog n abO:=ak mixed aL Tryz.func64 (by kernel_rfl) (hi:=ae6) (aa (afN n) (aa (afN n) (aa (Qy n) (aa (Qy n) aD)))) aiB
def wB (n:Nat)  : Option (fI×Unit):=some (((1:Int),([]:List dQ),()),())
def abP:Entry:=⟨76,[],[.own qy [5,100,103] [] []],fun n c=>wB n⟩
def ae7:Hint:=⟨0,[],[],[],[],[],[],[],[]⟩
theorem aiC:iA T ae7 Tryz.f76 abP:=by intro n c; kernel_rfl
theorem ajK [Fr] (n:Nat):aj Tryz.prog n abP:=ak mixed aL Tryz.func76 (by kernel_rfl) (hi:=ae7) aD aiC
def dP (n:Nat) (a0:List Int):Option ((List Int)×Unit):=(if a0.isEmpty=true then (agC [(.sl 5 (.int .u8))] (some (([]:List Int),())) (if (([]:List Int).length+a0.length) * 1≤140737488355328 then some (([]:List Int)++a0,()) else none)) else (if (([]:List Int).length+a0.length) * 1≤140737488355328 then some (([]:List Int)++a0,()) else none))
def VV:Entry:=⟨98,[.val (.sl 5 (.int .u8)) []],[.own (.sl 5 (.int .u8)) [5] [] []],fun n c=>dP n c.1⟩
def ae8:Hint:=⟨0,[],[],[],[],[],[],[],[]⟩
theorem aiD:iA T ae8 Tryz.f98 VV:=by intro n c; kernel_rfl
theorem ack [Fr] (n:Nat):aj Tryz.prog n VV:=ak mixed aL Tryz.func98 (by kernel_rfl) (hi:=ae8) aD aiD
def kT (n:Nat) (a0:fI):Option (fI×Unit):=(rounds (fun L1 (v1:(List dQ)×Int×Int×fI×fI×Unit)=>(if decide (v1.2.2.1<v1.2.1)=true then (if aI v1.2.2.1 v1.1.length then (rounds (fun L2 (v2:(List dQ)×Int×Int×(List rz)×Int×Int×fI×fI×dQ×Unit)=>(if decide (v2.2.2.2.2.2.1<v2.2.2.2.2.1)=true then (if aI v2.2.2.2.2.2.1 v2.2.2.2.1.length then ((dP n (((((v2.2.2.2.1.getD v2.2.2.2.2.2.1.toNat kD).2).2).2).1)).bind fun r3=>(if (v2.2.2.2.2.2.2.2.2.1.2.2.2.1.length+[((v2.2.2.2.1.getD v2.2.2.2.2.2.1.toNat kD).1,((v2.2.2.2.1.getD v2.2.2.2.2.2.1.toNat kD).2).1,(((v2.2.2.2.1.getD v2.2.2.2.2.2.1.toNat kD).2).2).1,r3.1,((((v2.2.2.2.1.getD v2.2.2.2.2.2.1.toNat kD).2).2).2).2)].length) * 48≤140737488355328 then L2 (v2.1,v2.2.1,v2.2.2.1,v2.2.2.2.1,v2.2.2.2.2.1,IntKind.i64.wrap (v2.2.2.2.2.2.1+(1:Int)),v2.2.2.2.2.2.2.1,v2.2.2.2.2.2.2.2.1,(v2.2.2.2.2.2.2.2.2.1.1,v2.2.2.2.2.2.2.2.2.1.2.1,v2.2.2.2.2.2.2.2.2.1.2.2.1,v2.2.2.2.2.2.2.2.2.1.2.2.2.1++[((v2.2.2.2.1.getD v2.2.2.2.2.2.1.toNat kD).1,((v2.2.2.2.1.getD v2.2.2.2.2.2.1.toNat kD).2).1,(((v2.2.2.2.1.getD v2.2.2.2.2.2.1.toNat kD).2).2).1,r3.1,((((v2.2.2.2.1.getD v2.2.2.2.2.2.1.toNat kD).2).2).2).2)],v2.2.2.2.2.2.2.2.2.1.2.2.2.2),()) else none)) else none) else (if (v2.2.2.2.2.2.2.2.1.2.1.length+[v2.2.2.2.2.2.2.2.2.1].length) * 56≤140737488355328 then L1 (v2.1,v2.2.1,IntKind.i64.wrap (v2.2.2.1+(1:Int)),v2.2.2.2.2.2.2.1,(v2.2.2.2.2.2.2.2.1.1,v2.2.2.2.2.2.2.2.1.2.1++[v2.2.2.2.2.2.2.2.2.1],v2.2.2.2.2.2.2.2.1.2.2),()) else none))) n (v1.1,v1.2.1,v1.2.2.1,((((v1.1.getD v1.2.2.1.toNat dF).2).2).2).1,((((((v1.1.getD v1.2.2.1.toNat dF).2).2).2).1).length:Int),(0:Int),v1.2.2.2.1,v1.2.2.2.2.1,((v1.1.getD v1.2.2.1.toNat dF).1,((v1.1.getD v1.2.2.1.toNat dF).2).1,(((v1.1.getD v1.2.2.1.toNat dF).2).2).1,([]:List rz),()),())) else none) else some (v1.2.2.2.2.1,()))) n (a0.2.1,(a0.2.1.length:Int),(0:Int),KX,(a0.1,([]:List dQ),()),()))
def Y9:Entry:=⟨67,[.val qy []],[.own qy [5,100,103] [] []],fun n c=>kT n c.1⟩
def ae9:Hint:=⟨0,[38,39,45,46,51],[(0,[2,3,13,14,15],[66,98]),(2,[2,3,6,13,14,15,27,28,29],[66,98,194])],[],[(98,some 35,VV)],[],[],[],[]⟩
theorem aiE:iA T ae9 Tryz.f67 Y9:=by intro n c; kernel_rfl
theorem afO [Fr] (n:Nat):aj Tryz.prog n Y9:=ak mixed aL Tryz.func67 (by kernel_rfl) (hi:=ae9) (aa (ack n) aD) aiE
def ru (n:Nat) (a0:dQ) (a1:List Int):Option (Bool×Unit):=some (decide (a0.1=a1),())
def abQ:Entry:=⟨174,[.val nJ [], .ro .str],[.val .bool [] []],fun n c=>ru n c.1 c.2.1⟩
def afa:Hint:=⟨0,[],[],[],[],[],[],[],[]⟩
theorem aiF:iA T afa Tryz.f174 abQ:=by intro n c; kernel_rfl
theorem ajL [Fr] (n:Nat):aj Tryz.prog n abQ:=ak mixed aL Tryz.func174 (by kernel_rfl) (hi:=afa) aD aiF
def bX (n:Nat) (a0:List dQ) (Hr:List Int):Option (Int×Unit):=(rounds (fun L1 (v1:(List dQ)×(List Int)×Int×Int×Unit)=>(if decide (v1.2.2.2.1<v1.2.2.1)=true then (if aI v1.2.2.2.1 v1.1.length then ((ru n (v1.1.getD v1.2.2.2.1.toNat dF) v1.2.1).bind fun r2=>(if r2.1=true then some (v1.2.2.2.1,()) else L1 (v1.1,v1.2.1,v1.2.2.1,IntKind.i64.wrap (v1.2.2.2.1+(1:Int)),()))) else none) else some ((-1:Int),()))) n (a0,Hr,(a0.length:Int),(0:Int),()))
def abR:Entry:=⟨136,[.val (.sl 100 nJ) [], .fn 174 [.str]],[.val (.int .i64) [] []],fun n c=>bX n c.1 c.2.1⟩
def afb:Hint:=⟨0,[],[(0,[0,1,7,8],[])],[],[(174,some 16,abQ)],[],[],[],[]⟩
theorem aiG:iA T afb Tryz.f136 abR:=by intro n c; kernel_rfl
theorem ajM [Fr] (n:Nat):aj Tryz.prog n abR:=ak mixed aL Tryz.func136 (by kernel_rfl) (hi:=afb) (aa (ajL n) aD) aiG
def jg (n:Nat) (a0:fI) (a1:List Int):Option (Int×Unit):=((bX n a0.2.1 a1).bind fun r1=>some (r1.1,()))
def VW:Entry:=⟨143,[.val qy [], .val .str []],[.val (.int .i64) [] []],fun n c=>jg n c.1 c.2.1⟩
def afc:Hint:=⟨0,[],[],[],[(136,some 8,abR)],[],[],[],[]⟩
theorem aiH:iA T afc Tryz.f143 VW:=by intro n c; kernel_rfl
theorem acm [Fr] (n:Nat):aj Tryz.prog n VW:=ak mixed aL Tryz.func143 (by kernel_rfl) (hi:=afc) (aa (ajM n) aD) aiH
def nU (n:Nat) (a0:fI) (a1:List Int):Option (Int×fI×Unit):=((jg n a0 a1).bind fun r1=>(if decide (r1.1≥(0:Int))=true then some ((6:Int),a0,()) else (if decide ((a0.2.1.length:Int)=(3:Int))=true then some ((10:Int),a0,()) else (if decide (a0.1=(1000:Int))=true then some ((10:Int),a0,()) else (if (a0.2.1.length+[(a1,a0.1,(1:Int),([]:List rz),())].length) * 56≤140737488355328 then some ((0:Int),(IntKind.i64.wrap (a0.1+(1:Int)),a0.2.1++[(a1,a0.1,(1:Int),([]:List rz),())],a0.2.2),()) else none)))))
def abS:Entry:=⟨142,[.rw qy [5,100,103] [5,100,103,4294967295] [5,100,103], .val .str []],[.val (.int .i64) [] []],fun n c=>nU n c.1 c.2.1⟩
def afd:Hint:=⟨0,[30],[],[],[(143,some 10,VW)],[],[],[],[]⟩
theorem aiI:iA T afd Tryz.f142 abS:=by intro n c; kernel_rfl
theorem ajN [Fr] (n:Nat):aj Tryz.prog n abS:=ak mixed aL Tryz.func142 (by kernel_rfl) (hi:=afd) (aa (acm n) aD) aiI
namespace Qw
def YM:VG:={ ty:=[(2,(.int .i64)),(3,(.int .i64)),(4, .bool),(5,(.int .u8)),(6,(.int .u8)),(7,YR),(8,YR),(9, .str),(10, .str),(11, .str),(12,(.int .u64)),(13,YP),(14,YP),(21,(.int .i32)),(22,(.sl 5 (.int .u8))),(23,(.sl 134 IZ)),(24,QE),(25,QE),(26,QG),(27,QG),(29,(.sl 2 (.int .i64))),(30,(.sl 100 Zk4)),(31,Zk8),(32,Zk8),(33,acu),(34,acu),(35,afX),(36,afX),(47,iG),(48,iG),(52,afW),(53,afW),(55,(.sl 48 iG)),(56,KV),(57,KV),(65,iG),(98,(.sl 103 zo)),(99,Zk4),(100,Zk4),(102,zo),(103,zo),(109,(.sl 22 (.sl 5 (.int .u8)))),(132,(.sl 199 zo)),(133,IZ),(134,IZ),(141,I1),(142,I1),(145,YQ),(146,YQ),(150,(.sl 9 .str)),(167,Uc),(168,Uc),(199,zo),(203,Ug),(204,Ug),(226,(.int .u32)),(227,(.int .u8)),(228,(.int .u8)),(231,(.int .i32)),(232,(.int .i32))],bytes:=[(2,8),(3,8),(4,1),(5,1),(6,1),(7,24),(8,24),(9,16),(10,16),(11,16),(12,8),(13,24),(14,24),(21,4),(22,24),(23,24),(24,32),(25,32),(26,88),(27,88),(29,24),(30,24),(31,32),(32,32),(33,88),(34,88),(35,120),(36,120),(47,112),(48,112),(52,64),(53,64),(55,24),(56,40),(57,40),(65,112),(98,24),(99,56),(100,56),(102,48),(103,48),(109,24),(132,24),(133,56),(134,56),(141,128),(142,128),(145,32),(146,32),(150,24),(167,32),(168,32),(199,48),(203,40),(204,40),(226,4),(227,1),(228,1),(231,4),(232,4)],ptr:=[15,16,17,74,87,118,136,161,166,187,206,230],ids:=true }
def T:jd:=YM.tab
theorem aL:Cu Tryz.prog YM=true:=by kernel_rfl
theorem mixed:Tryz.prog.follows .mixedOrders=true:=by kernel_rfl
def bQ (n:Nat) (a0:List Zt4) (a1:Int) (a2:Int):Option Zt8:=(if 0≤a1∧a1≤a2∧a2≤(a0.length:Int)∧(a0.length:Int)≤(a0.length:Int) then (if decide (a1=a2)=true then some (((a0.length:Nat):Int),a0,()) else (if 0≤(0:Int)∧(0:Int)≤a1∧a1≤(a0.length:Int) then (if 0≤a2∧a2≤(a0.length:Int)∧(a0.length:Int)≤(a0.length:Int) then (if a1.toNat≤a2.toNat then (if 0≤(((a1.toNat+((a0.length:Int).toNat - a2.toNat)) - 0:Nat):Int)∧(((a1.toNat+((a0.length:Int).toNat - a2.toNat)) - 0:Nat):Int)≤(a0.length:Int)∧((0:Nat):Int)+(a0.length:Int)≤((a0.take a1.toNat++(a0.take ((a0.length:Int).toNat)).drop a2.toNat++a0.drop (a1.toNat+((a0.length:Int).toNat - a2.toNat))).length:Int) then some ((((a1.toNat+((a0.length:Int).toNat - a2.toNat)):Nat):Int),(a0.take a1.toNat++(a0.take ((a0.length:Int).toNat)).drop a2.toNat++a0.drop (a1.toNat+((a0.length:Int).toNat - a2.toNat))).take (0+(((a1.toNat+((a0.length:Int).toNat - a2.toNat)) - 0:Nat):Int).toNat)++List.replicate ((0+(a0.length:Int).toNat) - (0+(((a1.toNat+((a0.length:Int).toNat - a2.toNat)) - 0:Nat):Int).toNat)) (([]:List Int),(0:Int),(0:Int),(0:Nat),())++(a0.take a1.toNat++(a0.take ((a0.length:Int).toNat)).drop a2.toNat++a0.drop (a1.toNat+((a0.length:Int).toNat - a2.toNat))).drop (0+(a0.length:Int).toNat),()) else none) else none) else none) else none)) else none)
def VX:Entry:=⟨144,[.jB (.sl 100 Zk4) [5,100,103] [100], .val (.int .i64) [], .val (.int .i64) []],[.into 0 []],fun n c=>bQ n c.1 c.2.1 c.2.2.1⟩
def afe:Hint:=⟨0,[],[],[],[],[],[],[13,22,25,26,29,31],[]⟩
theorem aiJ:iA T afe Tryz.f144 VX:=by intro n c; kernel_rfl
theorem acn [Fr] (n:Nat):aj Tryz.prog n VX:=ak mixed aL Tryz.func144 (by kernel_rfl) (hi:=afe) aD aiJ
end Qw
def aaX:List dD:=[.jB (.sl 100 nJ) [5,100,103] [100], .val (.int .i64) [], .val (.int .i64) []]
def ahg:List mU:=[.into 0 []]
def bQ (n:Nat) (a0:List dQ) (a1:Int) (a2:Int):Option (Int×List dQ×Unit):=mq.Jn dF a0 a1 a2
def VX:Entry:=⟨144,aaX,ahg,fun n (c:Cont (kin aaX))=>bQ n c.1 c.2.1 c.2.2.1⟩
theorem acn [Fr] (n:Nat):aj Tryz.prog n VX:=mq.Nk (k0:=.str) (kk:=zo) (e:=103) (t:=100) (ow:=[5,100,103]) (wt:=[100]) (tV:=[100]) (d0:=([]:List Int)) (FI:=Qw.bQ) (by simp [K.tys,aK]) (by simp [K.tys,aK]) (by simp [K.tys,aK]) (fun fr=>Qw.acn n) (by simp [nC,aK]) (fun _ _ _=>⟨rfl,rfl⟩) (fun xs i j h=>mq.Q8 _ xs i j h)
def sw (n:Nat) (a0:dQ) (a1:rz):Option (Int×dQ×Unit):=((dP n a1.2.2.2.1).bind fun r1=>(if [(a0.2.2.1,a1.2.1,a1.2.2.1,r1.1,())].length=1∧(a0.2.2.2.1.length+1) * 48≤140737488355328 then some (IntKind.i64.wrap ((IntKind.i64.wrap (a0.2.2.1+(1:Int))) - (1:Int)),(a0.1,a0.2.1,IntKind.i64.wrap (a0.2.2.1+(1:Int)),a0.2.2.2.1++[[(a0.2.2.1,a1.2.1,a1.2.2.1,r1.1,())].getD 0 kD],a0.2.2.2.2),()) else none))
def abT:Entry:=⟨145,[.rw nJ [5,103] [103,4294967295] [5,103], .val zo []],[.val (.int .i64) [] []],fun n c=>sw n c.1 c.2.1⟩
def aff:Hint:=⟨0,[9],[],[],[(98,some 20,VV)],[],[],[],[23]⟩
theorem aiK:iA T aff Tryz.f145 abT:=by intro n c; kernel_rfl
theorem ajO [Fr] (n:Nat):aj Tryz.prog n abT:=ak mixed aL Tryz.func145 (by kernel_rfl) (hi:=aff) (aa (ack n) aD) aiK
def eB (n:Nat) (a0:List Int) (a1:Int):Option (Int×Unit):=(rounds (fun L1 (v1:(List Int)×Int×Int×Int×Unit)=>(if decide (v1.2.2.2.1<v1.2.2.1)=true then (if aI v1.2.2.2.1 v1.1.length then (if decide (v1.2.1=(v1.1.getD v1.2.2.2.1.toNat (0:Int)))=true then some (v1.2.2.2.1,()) else L1 (v1.1,v1.2.1,v1.2.2.1,IntKind.i64.wrap (v1.2.2.2.1+(1:Int)),())) else none) else some ((-1:Int),()))) n (a0,a1,(a0.length:Int),(0:Int),()))
def Qu:Entry:=⟨203,[.val (.sl 2 (.int .i64)) [], .val (.int .i64) []],[.val (.int .i64) [] []],fun n c=>eB n c.1 c.2.1⟩
def V6:Hint:=⟨0,[],[(0,[0,1,7,8],[])],[],[],[],[],[],[]⟩
theorem aba:iA T V6 Tryz.f203 Qu:=by intro n c; kernel_rfl
theorem aco [Fr] (n:Nat):aj Tryz.prog n Qu:=ak mixed aL Tryz.func203 (by kernel_rfl) (hi:=V6) aD aba
def aV (n:Nat) (a0:List Int) (a1:Int):Option (Bool×Unit):=((eB n a0 a1).bind fun r1=>some (decide (r1.1≥(0:Int)),()))
def Oo:Entry:=⟨175,[.val (.sl 2 (.int .i64)) [], .val (.int .i64) []],[.val .bool [] []],fun n c=>aV n c.1 c.2.1⟩
def V7:Hint:=⟨0,[],[],[],[(203,some 7,Qu)],[],[],[],[]⟩
theorem abb:iA T V7 Tryz.f175 Oo:=by intro n c; kernel_rfl
theorem Ze [Fr] (n:Nat):aj Tryz.prog n Oo:=ak mixed aL Tryz.func175 (by kernel_rfl) (hi:=V7) (aa (aco n) aD) abb
def mE (n:Nat) (a0:dQ) (a1:iq):Option ((List Int)×dQ×Unit):=(rounds (fun L1 (v1:Int×Int×dQ×iq×(List Int)×Unit)=>(if decide (v1.2.1<v1.1)=true then (if aI v1.2.1 v1.2.2.1.2.2.2.1.length then ((aV n v1.2.2.2.1.2.2.2.1 ((v1.2.2.1.2.2.2.1.getD v1.2.1.toNat kD).1)).bind fun r2=>(if (!r2.1)=true then L1 (v1.1,IntKind.i64.wrap (v1.2.1+(1:Int)),v1.2.2.1,v1.2.2.2.1,v1.2.2.2.2.1,()) else (if (v1.2.2.2.2.1.length+[(v1.2.2.1.2.2.2.1.getD v1.2.1.toNat kD).1].length) * 8≤140737488355328 then (if decide (v1.2.2.2.1.2.2.2.2.1=(1:Int))=true then L1 (v1.1,IntKind.i64.wrap (v1.2.1+(1:Int)),(v1.2.2.1.1,v1.2.2.1.2.1,v1.2.2.1.2.2.1,(iR v1.2.2.1.2.2.2.1 v1.2.1.toNat kD fun z1=>(z1.1,v1.2.2.2.1.2.2.2.2.2.1,z1.2.2)),v1.2.2.1.2.2.2.2),v1.2.2.2.1,v1.2.2.2.2.1++[(v1.2.2.1.2.2.2.1.getD v1.2.1.toNat kD).1],()) else (if decide (v1.2.2.2.1.2.2.2.2.1=(2:Int))=true then L1 (v1.1,IntKind.i64.wrap (v1.2.1+(1:Int)),(v1.2.2.1.1,v1.2.2.1.2.1,v1.2.2.1.2.2.1,(iR v1.2.2.1.2.2.2.1 v1.2.1.toNat kD fun z1=>(z1.1,IntKind.i64.wrap ((BitVec.ofInt (IntKind.bits .i64) (((v1.2.2.1.2.2.2.1.getD v1.2.1.toNat kD).2).1) ||| BitVec.ofInt (IntKind.bits .i64) v1.2.2.2.1.2.2.2.2.2.1).toNat),z1.2.2)),v1.2.2.1.2.2.2.2),v1.2.2.2.1,v1.2.2.2.2.1++[(v1.2.2.1.2.2.2.1.getD v1.2.1.toNat kD).1],()) else L1 (v1.1,IntKind.i64.wrap (v1.2.1+(1:Int)),(v1.2.2.1.1,v1.2.2.1.2.1,v1.2.2.1.2.2.1,(iR v1.2.2.1.2.2.2.1 v1.2.1.toNat kD fun z1=>(z1.1,IntKind.i64.wrap ((BitVec.ofInt (IntKind.bits .i64) (((v1.2.2.1.2.2.2.1.getD v1.2.1.toNat kD).2).1) &&& ~~~ BitVec.ofInt (IntKind.bits .i64) v1.2.2.2.1.2.2.2.2.2.1).toNat),z1.2.2)),v1.2.2.1.2.2.2.2),v1.2.2.2.1,v1.2.2.2.2.1++[(v1.2.2.1.2.2.2.1.getD v1.2.1.toNat kD).1],()))) else none))) else none) else some (v1.2.2.2.2.1,v1.2.2.1,()))) n ((a0.2.2.2.1.length:Int),(0:Int),a0,a1,([]:List Int),()))
def abU:Entry:=⟨146,[.rw nJ [5,103] [103] [], .val iG []],[.own (.sl 2 (.int .i64)) [2] [] []],fun n c=>mE n c.1 c.2.1⟩
def afg:Hint:=⟨0,[20],[(0,[0,3,5,13,14],[0,98,258])],[],[(175,some 29,Oo)],[],[],[],[]⟩
theorem aiL:iA T afg Tryz.f146 abU:=by intro n c; kernel_rfl
theorem ajP [Fr] (n:Nat):aj Tryz.prog n abU:=ak mixed aL Tryz.func146 (by kernel_rfl) (hi:=afg) (aa (Ze n) aD) aiL
namespace IdP
def YM:VG:={ ty:=[(2,(.int .i64)),(3,(.int .i64)),(4, .bool),(5,(.int .u8)),(6,(.int .u8)),(7,YR),(8,YR),(9, .str),(10, .str),(11, .str),(12,(.int .u64)),(13,YP),(14,YP),(21,(.int .i32)),(22,(.sl 5 (.int .u8))),(23,(.sl 134 YS)),(24,QD),(25,QD),(26,Ue),(27,Ue),(29,(.sl 2 (.int .i64))),(30,(.sl 100 Hq)),(31,OC),(32,OC),(33,QF),(34,QF),(35,Uf),(36,Uf),(47,iG),(48,iG),(52,Ud),(53,Ud),(55,(.sl 48 iG)),(56,KV),(57,KV),(65,iG),(98,(.sl 103 KW)),(99,Hq),(100,Hq),(102,KW),(103,KW),(109,(.sl 22 (.sl 5 (.int .u8)))),(132,(.sl 199 KW)),(133,YS),(134,YS),(141,I1),(142,I1),(145,YQ),(146,YQ),(150,(.sl 9 .str)),(167,Uc),(168,Uc),(199,KW),(203,Ug),(204,Ug),(226,(.int .u32)),(227,(.int .u8)),(228,(.int .u8)),(231,(.int .i32)),(232,(.int .i32))],bytes:=[(2,8),(3,8),(4,1),(5,1),(6,1),(7,24),(8,24),(9,16),(10,16),(11,16),(12,8),(13,24),(14,24),(21,4),(22,24),(23,24),(24,32),(25,32),(26,88),(27,88),(29,24),(30,24),(31,32),(32,32),(33,88),(34,88),(35,120),(36,120),(47,112),(48,112),(52,64),(53,64),(55,24),(56,40),(57,40),(65,112),(98,24),(99,56),(100,56),(102,48),(103,48),(109,24),(132,24),(133,56),(134,56),(141,128),(142,128),(145,32),(146,32),(150,24),(167,32),(168,32),(199,48),(203,40),(204,40),(226,4),(227,1),(228,1),(231,4),(232,4)],ptr:=[15,16,17,74,87,118,136,161,166,187,206,230],ids:=true }
def T:jd:=YM.tab
theorem aL:Cu Tryz.prog YM=true:=by kernel_rfl
theorem mixed:Tryz.prog.follows .mixedOrders=true:=by kernel_rfl
def fV (n:Nat) (a0:Zt9):Option ((List Int)×Zt9×Unit):=(rounds (fun L1 (v1:(List M5)×Int×Int×Zt9×(List Int)×(List M5)×Unit)=>(if decide (v1.2.2.1<v1.2.1)=true then (if aI v1.2.2.1 v1.1.length then (if (!decide ((IntKind.i64.wrap ((BitVec.ofInt (IntKind.bits .i64) (((v1.1.getD v1.2.2.1.toNat M6).2).1) &&& BitVec.ofInt (IntKind.bits .i64) (8:Int)).toNat))=(0:Int)))=true then (if (v1.2.2.2.2.1.length+[(v1.1.getD v1.2.2.1.toNat M6).1].length) * 8≤140737488355328 then L1 (v1.1,v1.2.1,IntKind.i64.wrap (v1.2.2.1+(1:Int)),v1.2.2.2.1,v1.2.2.2.2.1++[(v1.1.getD v1.2.2.1.toNat M6).1],v1.2.2.2.2.2.1,()) else none) else (if (v1.2.2.2.2.2.1.length+[v1.1.getD v1.2.2.1.toNat M6].length) * 48≤140737488355328 then L1 (v1.1,v1.2.1,IntKind.i64.wrap (v1.2.2.1+(1:Int)),v1.2.2.2.1,v1.2.2.2.2.1,v1.2.2.2.2.2.1++[v1.1.getD v1.2.2.1.toNat M6],()) else none)) else none) else some (v1.2.2.2.2.1,(v1.2.2.2.1.1,v1.2.2.2.1.2.1,v1.2.2.2.1.2.2.1,v1.2.2.2.2.2.1,v1.2.2.2.1.2.2.2.2),()))) n (a0.2.2.2.1,(a0.2.2.2.1.length:Int),(0:Int),a0,([]:List Int),([]:List M5),()))
def VY:Entry:=⟨147,[.rw Hq [5,103] [4294967295] [103]],[.own (.sl 2 (.int .i64)) [2] [] []],fun n c=>fV n c.1⟩
def afh:Hint:=⟨0,[],[(0,[0,3,4,12,13,14],[0,226,258])],[],[],[],[],[],[]⟩
theorem aiM:iA T afh Tryz.f147 VY:=by intro n c; kernel_rfl
theorem acp [Fr] (n:Nat):aj Tryz.prog n VY:=ak mixed aL Tryz.func147 (by kernel_rfl) (hi:=afh) aD aiM
end IdP
def fV (n:Nat) (a0:List Int×Int×Int×List jY.Ad×Unit):Option (List Int×(List Int×Int×Int×List jY.Ad×Unit)×Unit):=jY.y7 n a0
def aaY:List dD:=[.rw nJ [5,103] [4294967295,5] [103,4294967294]]
def ahh:List mU:=[.own (.sl 2 (.int .i64)) [2] [] []]
def VY:Entry:=⟨147,aaY,ahh,fun n (c:Cont (kin aaY))=>fV n c.1⟩
def ab8 (x:M5):Bool:=!decide ((IntKind.i64.wrap ((BitVec.ofInt (IntKind.bits .i64) (x.2.1) &&& BitVec.ofInt (IntKind.bits .i64) (8:Int)).toNat))=(0:Int))
theorem ai5 {n:Nat} {nm:List Int} {w h:Int} {xs:List M5} (hc:xs.length * 48≤140737488355328) (hn:xs.length<n):IdP.fV n (nm,w,h,xs,())=some ((xs.filter ab8).map (·.1),(nm,w,h,xs.filter (fun x=>!ab8 x),()),()):=
 SH.Vm (xs:=xs) (p:=ab8) (g:=(·.1)) (d:=M6) (sc:=8) (sa:=48) (a0:=(nm,w,h,xs,()))
  (fin:=fun a cs ks=>(cs,(a.1,a.2.1,a.2.2.1,ks,a.2.2.2.2),())) (fun _ _=>rfl) (by have:=hc; omega) (by have:=hc; omega) hc hn
theorem acp [Fr] (n:Nat):aj Tryz.prog n VY:=jY.NQ (e:=5) (m:=103) (i:=2) (FI:=fun n c=>IdP.fV n c.1) (fun fr=>IdP.acp n) (fun nm w h xs hc hn=>ai5 hc hn)
def dZ (n:Nat) (a0:List rz):Option (Int×Unit):=some ((a0.length:Int),())
def abV:Entry:=⟨176,[.val (.sl 103 zo) []],[.val (.int .i64) [] []],fun n c=>dZ n c.1⟩
def afi:Hint:=⟨0,[],[],[],[],[],[],[],[]⟩
theorem aiN:iA T afi Tryz.f176 abV:=by intro n c; kernel_rfl
theorem ajQ [Fr] (n:Nat):aj Tryz.prog n abV:=ak mixed aL Tryz.func176 (by kernel_rfl) (hi:=afi) aD aiN
def jS (n:Nat) (a0:dQ) (a1:rz):Option (Int×dQ×Unit):=((dP n a1.2.2.2.1).bind fun r1=>(if [(a0.2.2.1,a1.2.1,a1.2.2.1,r1.1,())].length=1∧(a0.2.2.2.1.length+1) * 48≤140737488355328 then some (IntKind.i64.wrap ((IntKind.i64.wrap (a0.2.2.1+(1:Int))) - (1:Int)),(a0.1,a0.2.1,IntKind.i64.wrap (a0.2.2.1+(1:Int)),a0.2.2.2.1++[[(a0.2.2.1,a1.2.1,a1.2.2.1,r1.1,())].getD 0 kD],a0.2.2.2.2),()) else none))
def abW:Entry:=⟨145,[.rw nJ [5,103] [103,4294967295] [5,103], .val zo [0]],[.val (.int .i64) [] []],fun n c=>jS n c.1 c.2.1⟩
def afj:Hint:=⟨0,[9],[],[],[(98,some 20,VV)],[],[],[],[23]⟩
theorem aiO:iA T afj Tryz.f145 abW:=by intro n c; kernel_rfl
theorem ajR [Fr] (n:Nat):aj Tryz.prog n abW:=ak mixed aL Tryz.func145 (by kernel_rfl) (hi:=afj) (aa (ack n) aD) aiO
namespace xe
def YM:VG:={ ty:=[(2,(.int .i64)),(3,(.int .i64)),(4, .bool),(5,(.int .u8)),(6,(.int .u8)),(7,YR),(8,YR),(9, .str),(10, .str),(11, .str),(12,(.int .u64)),(13,YP),(14,YP),(21,(.int .i32)),(22,(.sl 5 (.int .u8))),(23,(.sl 134 YS)),(24,QD),(25,QD),(26,Ue),(27,Ue),(29,(.sl 2 (.int .i64))),(30,(.sl 100 Hq)),(31,OC),(32,OC),(33,QF),(34,QF),(35,Uf),(36,Uf),(47,iG),(48,iG),(52,Ud),(53,Ud),(55,(.sl 48 iG)),(56,KV),(57,KV),(65,iG),(98,(.sl 103 KW)),(99,Hq),(100,Hq),(102,KW),(103,KW),(109,(.sl 22 (.sl 5 (.int .u8)))),(132,(.sl 199 KW)),(133,YS),(134,YS),(141,I1),(142,I1),(145,YQ),(146,YQ),(150,(.sl 9 .str)),(167,Uc),(168,Uc),(199,KW),(203,Ug),(204,Ug),(226,(.int .u32)),(227,(.int .u8)),(228,(.int .u8)),(231,(.int .i32)),(232,(.int .i32))],bytes:=[(2,8),(3,8),(4,1),(5,1),(6,1),(7,24),(8,24),(9,16),(10,16),(11,16),(12,8),(13,24),(14,24),(21,4),(22,24),(23,24),(24,32),(25,32),(26,88),(27,88),(29,24),(30,24),(31,32),(32,32),(33,88),(34,88),(35,120),(36,120),(47,112),(48,112),(52,64),(53,64),(55,24),(56,40),(57,40),(65,112),(98,24),(99,56),(100,56),(102,48),(103,48),(109,24),(132,24),(133,56),(134,56),(141,128),(142,128),(145,32),(146,32),(150,24),(167,32),(168,32),(199,48),(203,40),(204,40),(226,4),(227,1),(228,1),(231,4),(232,4)],ptr:=[15,16,17,74,87,118,136,161,166,187,206,230],ids:=true }
def T:jd:=YM.tab
theorem aL:Cu Tryz.prog YM=true:=by kernel_rfl
theorem mixed:Tryz.prog.follows .mixedOrders=true:=by kernel_rfl
def eB (n:Nat) (a0:List Int) (a1:Int):Option (Int×Unit):=(rounds (fun L1 (v1:(List Int)×Int×Int×Int×Unit)=>(if decide (v1.2.2.2.1<v1.2.2.1)=true then (if aI v1.2.2.2.1 v1.1.length then (if decide (v1.2.1=(v1.1.getD v1.2.2.2.1.toNat (0:Int)))=true then some (v1.2.2.2.1,()) else L1 (v1.1,v1.2.1,v1.2.2.1,IntKind.i64.wrap (v1.2.2.2.1+(1:Int)),())) else none) else some ((-1:Int),()))) n (a0,a1,(a0.length:Int),(0:Int),()))
def Qu:Entry:=⟨203,[.val (.sl 2 (.int .i64)) [], .val (.int .i64) []],[.val (.int .i64) [] []],fun n c=>eB n c.1 c.2.1⟩
def V6:Hint:=⟨0,[],[(0,[0,1,7,8],[])],[],[],[],[],[],[]⟩
theorem aba:iA T V6 Tryz.f203 Qu:=by intro n c; kernel_rfl
theorem aco [Fr] (n:Nat):aj Tryz.prog n Qu:=ak mixed aL Tryz.func203 (by kernel_rfl) (hi:=V6) aD aba
def aV (n:Nat) (a0:List Int) (a1:Int):Option (Bool×Unit):=((eB n a0 a1).bind fun r1=>some (decide (r1.1≥(0:Int)),()))
def Oo:Entry:=⟨175,[.val (.sl 2 (.int .i64)) [], .val (.int .i64) []],[.val .bool [] []],fun n c=>aV n c.1 c.2.1⟩
def V7:Hint:=⟨0,[],[],[],[(203,some 7,Qu)],[],[],[],[]⟩
theorem abb:iA T V7 Tryz.f175 Oo:=by intro n c; kernel_rfl
theorem Ze [Fr] (n:Nat):aj Tryz.prog n Oo:=ak mixed aL Tryz.func175 (by kernel_rfl) (hi:=V7) (aa (aco n) aD) abb
def fq (n:Nat) (a0:M5) (a1:iq):Option (Bool×Unit):=((aV n a1.2.2.2.1 a0.1).bind fun r1=>some (r1.1,()))
def Za:Entry:=⟨178,[.val KW [], .ro iG],[.val .bool [] []],fun n c=>fq n c.1 c.2.1⟩
def afk:Hint:=⟨0,[],[],[],[(175,some 8,Oo)],[],[],[],[]⟩
theorem aiP:iA T afk Tryz.f178 Za:=by intro n c; kernel_rfl
theorem afP [Fr] (n:Nat):aj Tryz.prog n Za:=ak mixed aL Tryz.func178 (by kernel_rfl) (hi:=afk) (aa (Ze n) aD) aiP
def aZ (n:Nat) (a0:List M5) (Hr:iq):Option (Int×Unit):=(rounds (fun L1 (v1:(List M5)×iq×Int×Int×Unit)=>(if decide (v1.2.2.2.1<v1.2.2.1)=true then (if aI v1.2.2.2.1 v1.1.length then ((fq n (v1.1.getD v1.2.2.2.1.toNat M6) v1.2.1).bind fun r2=>(if r2.1=true then some (v1.2.2.2.1,()) else L1 (v1.1,v1.2.1,v1.2.2.1,IntKind.i64.wrap (v1.2.2.2.1+(1:Int)),()))) else none) else some ((-1:Int),()))) n (a0,Hr,(a0.length:Int),(0:Int),()))
def abX:Entry:=⟨204,[.val (.sl 103 KW) [], .fn 178 [iG]],[.val (.int .i64) [] []],fun n c=>aZ n c.1 c.2.1⟩
def afl:Hint:=⟨0,[],[(0,[0,1,7,8],[])],[],[(178,some 16,Za)],[],[],[],[]⟩
theorem aiQ:iA T afl Tryz.f204 abX:=by intro n c; kernel_rfl
theorem ajS [Fr] (n:Nat):aj Tryz.prog n abX:=ak mixed aL Tryz.func204 (by kernel_rfl) (hi:=afl) (aa (afP n) aD) aiQ
def aF (n:Nat) (a0:List M5) (Hr:iq):Option (Int×(List M5)×Unit):=((aZ n a0 Hr).bind fun r1=>(if decide (r1.1=(-1:Int))=true then some (((a0.length:Nat):Int),a0,()) else (rounds (fun L2 (v2:iq×Int×Int×(List M5)×Unit)=>(if decide (v2.2.2.1<(v2.2.2.2.1.length:Int))=true then (if aI v2.2.2.1 v2.2.2.2.1.length then ((fq n (v2.2.2.2.1.getD v2.2.2.1.toNat M6) v2.1).bind fun r3=>(if (!r3.1)=true then (if aI v2.2.1 v2.2.2.2.1.length then L2 (v2.1,IntKind.i64.wrap (v2.2.1+(1:Int)),IntKind.i64.wrap (v2.2.2.1+(1:Int)),v2.2.2.2.1.set v2.2.1.toNat (v2.2.2.2.1.getD v2.2.2.1.toNat M6),()) else none) else L2 (v2.1,v2.2.1,IntKind.i64.wrap (v2.2.2.1+(1:Int)),v2.2.2.2.1,()))) else none) else (if 0≤v2.2.1∧v2.2.1≤(v2.2.2.2.1.length:Int)∧(v2.2.2.2.1.length:Int)≤(v2.2.2.2.1.length:Int) then (if 0≤(0:Int)∧(0:Int)≤v2.2.1∧v2.2.1≤((v2.2.2.2.1.take v2.2.1.toNat++List.replicate ((v2.2.2.2.1.length:Int).toNat - v2.2.1.toNat) M6++v2.2.2.2.1.drop ((v2.2.2.2.1.length:Int).toNat)).length:Int) then some (((v2.2.1.toNat:Nat):Int),v2.2.2.2.1.take v2.2.1.toNat++List.replicate ((v2.2.2.2.1.length:Int).toNat - v2.2.1.toNat) M6++v2.2.2.2.1.drop ((v2.2.2.2.1.length:Int).toNat),()) else none) else none))) n (Hr,r1.1,IntKind.i64.wrap (r1.1+(1:Int)),a0,()))))
def VZ:Entry:=⟨177,[.jB (.sl 103 KW) [5,103] [103], .fn 178 [iG]],[.into 0 []],fun n c=>aF n c.1 c.2.1⟩
def afm:Hint:=⟨0,[],[(0,[0,1,5,6],[0])],[],[(204,some 10,abX),(178,some 28,Za)],[],[],[38,41],[]⟩
theorem aiR:iA T afm Tryz.f177 VZ:=by intro n c; kernel_rfl
theorem acr [Fr] (n:Nat):aj Tryz.prog n VZ:=ak mixed aL Tryz.func177 (by kernel_rfl) (hi:=afm) (aa (ajS n) (aa (afP n) aD)) aiR
end xe
def aaZ:List dD:=[.jB (.sl 103 zo) [5,103] [103], .fn 178 [iG]]
def ahi:List mU:=[.into 0 []]
def aF (n:Nat) (a0:List rz) (Hr:iq):Option (Int×List rz×Unit):=mq.FD n a0 Hr
def VZ:Entry:=⟨177,aaZ,ahi,fun n (c:Cont (kin aaZ))=>aF n c.1 c.2.1⟩
theorem ai6 {n:Nat} {xs:List mq.Zf} {op:mq.OpC} (hx:xs.length≤140737488355328) (hn:xs.length<n) (hb:op.2.2.2.1.length≤140737488355328) (hu:op.2.2.2.1.length<n):xe.aF n xs op=some (mq.Gz (0,0,0,0,()) (fun x=>op.2.2.2.1.contains x.1) xs):=by
 have hc:∀x,xe.fq n x op=some (op.2.2.2.1.contains x.1,()):=fun x=>by
  have h:xe.aV n op.2.2.2.1 x.1=some (op.2.2.2.1.contains x.1,()):=mq.Ns (fun _ _=>rfl) hb hu
  show (xe.aV n op.2.2.2.1 x.1).bind _=_
  rw [h]; rfl
 have hi:xe.aZ n xs op=some (_,()):=mq.JU (p:=fun x=>op.2.2.2.1.contains x.1) (q:=fun c x=>xe.fq n x c) (d:=(0,0,0,0,())) (fun _ _=>rfl) hc hx hn
 show (xe.aZ n xs op).bind _=_
 rw [hi]
 exact mq.Uw (p:=fun x=>op.2.2.2.1.contains x.1) (q:=fun c x=>xe.fq n x c) (d:=(0,0,0,0,())) (fun _ _=>rfl) hc hx hn
theorem acr [Fr] (n:Nat):aj Tryz.prog n VZ:=mq.K3 (e:=5) (t:=103) (i:=2) (b:=5) (cl:=178) (ow:=[5,103]) (wt:=[103]) (tV:=[103]) (FI:=xe.aF) (by simp [K.tys,aK]) (by simp [K.tys,aK]) (by simp [K.tys,aK]) (fun fr=>xe.acr n) (by simp [nC,aK]) (fun xs op h1 h2 h3 h4=>ai6 h1 h2 h3 h4)
def kH (n:Nat) (a0:fI) (a1:Int) (a2:iq):Option ((List Int)×Int×fI×Unit):=((jg n a0 a2.2.2.1).bind fun r1=>(if decide (r1.1<(0:Int))=true then some (([]:List Int),(4:Int),a0,()) else (if decide (a2.1=(6:Int))=true then (if decide (r1.1=a1)=true then some (([]:List Int),(9:Int),a0,()) else (if aI a1 a0.2.1.length then (rounds (fun L2 (v2:Int×Int×(List rz)×Int×Int×fI×iq×(List rz)×Unit)=>(if decide (v2.2.2.2.2.1<v2.2.2.2.1)=true then (if aI v2.2.2.2.2.1 v2.2.2.1.length then ((aV n v2.2.2.2.2.2.2.1.2.2.2.1 ((v2.2.2.1.getD v2.2.2.2.2.1.toNat kD).1)).bind fun r3=>(if r3.1=true then (if (v2.2.2.2.2.2.2.2.1.length+[v2.2.2.1.getD v2.2.2.2.2.1.toNat kD].length) * 48≤140737488355328 then L2 (v2.1,v2.2.1,v2.2.2.1,v2.2.2.2.1,IntKind.i64.wrap (v2.2.2.2.2.1+(1:Int)),v2.2.2.2.2.2.1,v2.2.2.2.2.2.2.1,v2.2.2.2.2.2.2.2.1++[v2.2.2.1.getD v2.2.2.2.2.1.toNat kD],()) else none) else L2 (v2.1,v2.2.1,v2.2.2.1,v2.2.2.2.1,IntKind.i64.wrap (v2.2.2.2.2.1+(1:Int)),v2.2.2.2.2.2.1,v2.2.2.2.2.2.2.1,v2.2.2.2.2.2.2.2.1,()))) else none) else (if aI v2.2.1 v2.2.2.2.2.2.1.2.1.length then (if decide ((IntKind.i64.wrap (((((((v2.2.2.2.2.2.1.2.1.getD v2.2.1.toNat dF).2).2).2).1).length:Int)+(v2.2.2.2.2.2.2.2.1.length:Int)))>(6:Int))=true then some (([]:List Int),(10:Int),v2.2.2.2.2.2.1,()) else ((dZ n v2.2.2.2.2.2.2.2.1).bind fun r4=>(if decide ((IntKind.i64.wrap (((((v2.2.2.2.2.2.1.2.1.getD v2.2.1.toNat dF).2).2).1)+r4.1))>(1000:Int))=true then some (([]:List Int),(10:Int),v2.2.2.2.2.2.1,()) else (rounds (fun L5 (v5:Int×Int×Int×Int×fI×iq×(List rz)×(List Int)×Unit)=>(if decide (v5.2.2.2.1<v5.2.2.1)=true then (if aI v5.2.2.2.1 v5.2.2.2.2.2.2.1.length then ((jS n (v5.2.2.2.2.1.2.1.getD v5.2.1.toNat dF) (v5.2.2.2.2.2.2.1.getD v5.2.2.2.1.toNat kD)).bind fun r6=>(if (v5.2.2.2.2.2.2.2.1.length+[r6.1].length) * 8≤140737488355328 then L5 (v5.1,v5.2.1,v5.2.2.1,IntKind.i64.wrap (v5.2.2.2.1+(1:Int)),(v5.2.2.2.2.1.1,v5.2.2.2.2.1.2.1.set v5.2.1.toNat r6.2.1,v5.2.2.2.2.1.2.2),v5.2.2.2.2.2.1,v5.2.2.2.2.2.2.1,v5.2.2.2.2.2.2.2.1++[r6.1],()) else none)) else none) else (if decide (v5.2.2.2.2.2.1.1=(6:Int))=true then (if aI v5.1 v5.2.2.2.2.1.2.1.length then ((aF n (((((v5.2.2.2.2.1.2.1.getD v5.1.toNat dF).2).2).2).1) v5.2.2.2.2.2.1).bind fun r7=>(if ([v5.1]:List Int)=([v5.1]:List Int) then some (v5.2.2.2.2.2.2.2.1,(0:Int),(v5.2.2.2.2.1.1,(iR (iR v5.2.2.2.2.1.2.1 v5.1.toNat dF fun z1=>(z1.1,z1.2.1,z1.2.2.1,r7.2.1,z1.2.2.2.2)) v5.1.toNat dF fun z1=>(z1.1,z1.2.1,z1.2.2.1,((((((iR v5.2.2.2.2.1.2.1 v5.1.toNat dF fun z1=>(z1.1,z1.2.1,z1.2.2.1,r7.2.1,z1.2.2.2.2)).getD v5.1.toNat dF).2).2).2).1).take r7.1.toNat,z1.2.2.2.2)),v5.2.2.2.2.1.2.2),()) else none)) else none) else some (v5.2.2.2.2.2.2.2.1,(0:Int),v5.2.2.2.2.1,())))) n (v2.1,v2.2.1,(v2.2.2.2.2.2.2.2.1.length:Int),(0:Int),v2.2.2.2.2.2.1,v2.2.2.2.2.2.2.1,v2.2.2.2.2.2.2.2.1,([]:List Int),()))))) else none))) n (a1,r1.1,((((a0.2.1.getD a1.toNat dF).2).2).2).1,((((((a0.2.1.getD a1.toNat dF).2).2).2).1).length:Int),(0:Int),a0,a2,([]:List rz),())) else none)) else (if aI a1 a0.2.1.length then (rounds (fun L8 (v8:Int×Int×(List rz)×Int×Int×fI×iq×(List rz)×Unit)=>(if decide (v8.2.2.2.2.1<v8.2.2.2.1)=true then (if aI v8.2.2.2.2.1 v8.2.2.1.length then ((aV n v8.2.2.2.2.2.2.1.2.2.2.1 ((v8.2.2.1.getD v8.2.2.2.2.1.toNat kD).1)).bind fun r9=>(if r9.1=true then (if (v8.2.2.2.2.2.2.2.1.length+[v8.2.2.1.getD v8.2.2.2.2.1.toNat kD].length) * 48≤140737488355328 then L8 (v8.1,v8.2.1,v8.2.2.1,v8.2.2.2.1,IntKind.i64.wrap (v8.2.2.2.2.1+(1:Int)),v8.2.2.2.2.2.1,v8.2.2.2.2.2.2.1,v8.2.2.2.2.2.2.2.1++[v8.2.2.1.getD v8.2.2.2.2.1.toNat kD],()) else none) else L8 (v8.1,v8.2.1,v8.2.2.1,v8.2.2.2.1,IntKind.i64.wrap (v8.2.2.2.2.1+(1:Int)),v8.2.2.2.2.2.1,v8.2.2.2.2.2.2.1,v8.2.2.2.2.2.2.2.1,()))) else none) else (if aI v8.2.1 v8.2.2.2.2.2.1.2.1.length then (if decide ((IntKind.i64.wrap (((((((v8.2.2.2.2.2.1.2.1.getD v8.2.1.toNat dF).2).2).2).1).length:Int)+(v8.2.2.2.2.2.2.2.1.length:Int)))>(6:Int))=true then some (([]:List Int),(10:Int),v8.2.2.2.2.2.1,()) else ((dZ n v8.2.2.2.2.2.2.2.1).bind fun NR=>(if decide ((IntKind.i64.wrap (((((v8.2.2.2.2.2.1.2.1.getD v8.2.1.toNat dF).2).2).1)+NR.1))>(1000:Int))=true then some (([]:List Int),(10:Int),v8.2.2.2.2.2.1,()) else (rounds (fun L11 (v11:Int×Int×Int×Int×fI×iq×(List rz)×(List Int)×Unit)=>(if decide (v11.2.2.2.1<v11.2.2.1)=true then (if aI v11.2.2.2.1 v11.2.2.2.2.2.2.1.length then ((jS n (v11.2.2.2.2.1.2.1.getD v11.2.1.toNat dF) (v11.2.2.2.2.2.2.1.getD v11.2.2.2.1.toNat kD)).bind fun Kj=>(if (v11.2.2.2.2.2.2.2.1.length+[Kj.1].length) * 8≤140737488355328 then L11 (v11.1,v11.2.1,v11.2.2.1,IntKind.i64.wrap (v11.2.2.2.1+(1:Int)),(v11.2.2.2.2.1.1,v11.2.2.2.2.1.2.1.set v11.2.1.toNat Kj.2.1,v11.2.2.2.2.1.2.2),v11.2.2.2.2.2.1,v11.2.2.2.2.2.2.1,v11.2.2.2.2.2.2.2.1++[Kj.1],()) else none)) else none) else (if decide (v11.2.2.2.2.2.1.1=(6:Int))=true then (if aI v11.1 v11.2.2.2.2.1.2.1.length then ((aF n (((((v11.2.2.2.2.1.2.1.getD v11.1.toNat dF).2).2).2).1) v11.2.2.2.2.2.1).bind fun Og=>(if ([v11.1]:List Int)=([v11.1]:List Int) then some (v11.2.2.2.2.2.2.2.1,(0:Int),(v11.2.2.2.2.1.1,(iR (iR v11.2.2.2.2.1.2.1 v11.1.toNat dF fun z1=>(z1.1,z1.2.1,z1.2.2.1,Og.2.1,z1.2.2.2.2)) v11.1.toNat dF fun z1=>(z1.1,z1.2.1,z1.2.2.1,((((((iR v11.2.2.2.2.1.2.1 v11.1.toNat dF fun z1=>(z1.1,z1.2.1,z1.2.2.1,Og.2.1,z1.2.2.2.2)).getD v11.1.toNat dF).2).2).2).1).take Og.1.toNat,z1.2.2.2.2)),v11.2.2.2.2.1.2.2),()) else none)) else none) else some (v11.2.2.2.2.2.2.2.1,(0:Int),v11.2.2.2.2.1,())))) n (v8.1,v8.2.1,(v8.2.2.2.2.2.2.2.1.length:Int),(0:Int),v8.2.2.2.2.2.1,v8.2.2.2.2.2.2.1,v8.2.2.2.2.2.2.2.1,([]:List Int),()))))) else none))) n (a1,r1.1,((((a0.2.1.getD a1.toNat dF).2).2).2).1,((((((a0.2.1.getD a1.toNat dF).2).2).2).1).length:Int),(0:Int),a0,a2,([]:List rz),())) else none))))
def abY:Entry:=⟨148,[.rw qy [5,100,103] [5,100,103,4294967295] [5,103], .val (.int .i64) [], .val iG []],[.own (.sl 2 (.int .i64)) [2] [] [], .val (.int .i64) [] []],fun n c=>kH n c.1 c.2.1 c.2.2.1⟩
def afn:Hint:=⟨0,[62,104,111],[(1,[0,1,5,8,9,43,44,45],[0,162,1122]),(3,[0,1,5,12,13,85,86,87],[0,162,1122,2690])],[(35,[5])],[(143,some 22,VW),(175,some 53,Oo),(176,some 80,abV),(145,some 94,abW),(177,some 113,VZ)],[],[(2245,[0])],[],[]⟩
theorem aiS:iA T afn Tryz.f148 abY:=by intro n c; kernel_rfl
theorem ajU [Fr] (n:Nat):aj Tryz.prog n abY:=ak mixed aL Tryz.func148 (by kernel_rfl) (hi:=afn) (aa (acm n) (aa (Ze n) (aa (ajQ n) (aa (ajR n) (aa (acr n) aD))))) aiS
def mF (n:Nat) (a0:fI) (a1:iq):Option ((List Int)×Int×fI×Unit):=(if decide (a1.1=(1:Int))=true then ((nU n a0 a1.2.1).bind fun r1=>some (([]:List Int),r1.1,r1.2.1,())) else ((jg n a0 a1.2.1).bind fun r2=>(if decide (r2.1<(0:Int))=true then some (([]:List Int),(4:Int),a0,()) else (if aI r2.1 a0.2.1.length then (if decide (a1.1=(2:Int))=true then ((bQ n a0.2.1 r2.1 (IntKind.i64.wrap (r2.1+(1:Int)))).bind fun r3=>(if ([]:List Int)=([]:List Int) then some (([]:List Int),(0:Int),(a0.1,r3.2.1.take r3.1.toNat,a0.2.2),()) else none)) else (if decide (a1.1=(3:Int))=true then (if decide (((((((a0.2.1.getD r2.1.toNat dF).2).2).2).1).length:Int)=(6:Int))=true then some (([]:List Int),(10:Int),a0,()) else (if decide (((((a0.2.1.getD r2.1.toNat dF).2).2).1)=(1000:Int))=true then some (([]:List Int),(10:Int),a0,()) else ((sw n (a0.2.1.getD r2.1.toNat dF) ((0:Int),a1.2.2.2.2.2.1,a1.2.2.2.2.2.2.1,a1.2.2.2.2.2.2.2.1,())).bind fun r4=>some ([r4.1],(0:Int),(a0.1,a0.2.1.set r2.1.toNat r4.2.1,a0.2.2),())))) else (if decide (a1.1=(4:Int))=true then ((mE n (a0.2.1.getD r2.1.toNat dF) a1).bind fun r5=>some (r5.1,(0:Int),(a0.1,a0.2.1.set r2.1.toNat r5.2.1,a0.2.2),())) else (if decide (a1.1=(7:Int))=true then ((fV n (a0.2.1.getD r2.1.toNat dF)).bind fun r6=>some (r6.1,(0:Int),(a0.1,a0.2.1.set r2.1.toNat r6.2.1,a0.2.2),())) else ((kH n a0 r2.1 a1).bind fun r7=>some (r7.1,r7.2.1,r7.2.2.1,())))))) else none))))
def abZ:Entry:=⟨109,[.rw qy [5,100,103] [5,100,103,4294967295] [5,100,103,4294967294], .val iG []],[.own (.sl 2 (.int .i64)) [2] [] [], .val (.int .i64) [] []],fun n c=>mF n c.1 c.2.1⟩
def afo:Hint:=⟨0,[26,37],[],[],[(142,some 14,abS),(143,some 20,VW),(144,some 41,VX),(145,some 67,abT),(146,some 73,abU),(147,some 77,VY),(148,some 81,abY)],[],[],[],[]⟩
theorem aiT:iA T afo Tryz.f109 abZ:=by intro n c; kernel_rfl
theorem ajV [Fr] (n:Nat):aj Tryz.prog n abZ:=ak mixed aL Tryz.func109 (by kernel_rfl) (hi:=afo) (aa (ajN n) (aa (acm n) (aa (acn n) (aa (ajO n) (aa (ajP n) (aa (acp n) (aa (ajU n) aD))))))) aiT
def sD (n:Nat) (a0:fI) (a1:iq):Option (FQ×Unit):=((oU n a1).bind fun r1=>(if (!decide (r1.1=(0:Int)))=true then some ((r1.1,([]:List Int),KX,()),()) else ((kT n a0).bind fun r2=>((mF n r2.1 a1).bind fun r3=>(if (!decide (r3.2.1=(0:Int)))=true then some ((r3.2.1,([]:List Int),KX,()),()) else some (((0:Int),r3.1,r3.2.2.1,()),()))))))
def ab0:Entry:=⟨74,[.val qy [], .val iG []],[.own M3 [2,5,100,103] [] []],fun n c=>sD n c.1 c.2.1⟩
def afp:Hint:=⟨0,[27],[],[],[(108,some 10,Y7),(67,some 16,Y9),(109,some 19,abZ)],[],[],[],[]⟩
theorem aiU:iA T afp Tryz.f74 ab0:=by intro n c; kernel_rfl
theorem ajW [Fr] (n:Nat):aj Tryz.prog n ab0:=ak mixed aL Tryz.func74 (by kernel_rfl) (hi:=afp) (aa (afM n) (aa (afO n) (aa (ajV n) aD))) aiU
def nD (n:Nat) (a0:fI) (a1:List iq):Option (FQ×Unit):=(if decide ((a1.length:Int)>(60:Int))=true then some (((2:Int),([]:List Int),KX,()),()) else ((iB n a0).bind fun r1=>(if (!decide (r1.1=(0:Int)))=true then some ((r1.1,([]:List Int),KX,()),()) else ((kT n a0).bind fun r2=>(rounds (fun L3 (v3:(List iq)×Int×Int×FQ×fI×Unit)=>(if decide (v3.2.2.1<v3.2.1)=true then (if aI v3.2.2.1 v3.1.length then ((sD n v3.2.2.2.2.1 (v3.1.getD v3.2.2.1.toNat Es)).bind fun r4=>(if (!decide (r4.1.1=(0:Int)))=true then some ((r4.1.1,([]:List Int),KX,()),()) else L3 (v3.1,v3.2.1,IntKind.i64.wrap (v3.2.2.1+(1:Int)),v3.2.2.2.1,r4.1.2.2.1,()))) else none) else some (((0:Int),([]:List Int),v3.2.2.2.2.1,()),()))) n (a1,(a1.length:Int),(0:Int),acw,r2.1,()))))))
def ab1:Entry:=⟨29,[.val qy [], .val (.sl 48 iG) []],[.own M3 [2,5,100,103] [] []],fun n c=>nD n c.1 c.2.1⟩
def afq:Hint:=⟨0,[38,40],[(0,[4,6,22,23,24],[130,194])],[],[(73,some 15,Y6),(67,some 21,Y9),(74,some 30,ab0)],[],[],[],[]⟩
theorem aiV:iA T afq Tryz.f29 ab1:=by intro n c; kernel_rfl
theorem ajX [Fr] (n:Nat):aj Tryz.prog n ab1:=ak mixed aL Tryz.func29 (by kernel_rfl) (hi:=afq) (aa (afL n) (aa (afO n) (aa (ajW n) aD))) aiV
def gU (n:Nat) (a0:List Int) (a1:List Int):Option (Bool×Unit):=(if (!decide ((a0.length:Int)=(a1.length:Int)))=true then some (false,()) else (rounds (fun L1 (v1:(List Int)×(List Int)×Int×Int×Unit)=>(if decide (v1.2.2.2.1<v1.2.2.1)=true then (if aI v1.2.2.2.1 v1.1.length then (if aI v1.2.2.2.1 v1.2.1.length then (if (!decide ((v1.1.getD v1.2.2.2.1.toNat (0:Int))=(v1.2.1.getD v1.2.2.2.1.toNat (0:Int))))=true then some (false,()) else L1 (v1.1,v1.2.1,v1.2.2.1,IntKind.i64.wrap (v1.2.2.2.1+(1:Int)),())) else none) else none) else some (true,()))) n (a0,a1,(a0.length:Int),(0:Int),())))
def ab2:Entry:=⟨111,[.val (.sl 5 (.int .u8)) [], .val (.sl 5 (.int .u8)) []],[.val .bool [] []],fun n c=>gU n c.1 c.2.1⟩
def afr:Hint:=⟨0,[],[(0,[0,1,12,13],[])],[],[],[],[],[],[]⟩
theorem aiW:iA T afr Tryz.f111 ab2:=by intro n c; kernel_rfl
theorem ajY [Fr] (n:Nat):aj Tryz.prog n ab2:=ak mixed aL Tryz.func111 (by kernel_rfl) (hi:=afr) aD aiW
def kI (n:Nat) (a0:rz) (a1:rz):Option (Bool×Unit):=(if decide (a0.1=a1.1)=true then (if decide (a0.2.1=a1.2.1)=true then (if decide (a0.2.2.1=a1.2.2.1)=true then ((gU n a0.2.2.2.1 a1.2.2.2.1).bind fun r1=>some (r1.1,())) else some (false,())) else some (false,())) else some (false,()))
def ab3:Entry:=⟨80,[.val zo [], .val zo []],[.val .bool [] []],fun n c=>kI n c.1 c.2.1⟩
def afs:Hint:=⟨0,[],[],[],[(111,some 29,ab2)],[],[],[],[]⟩
theorem aiX:iA T afs Tryz.f80 ab3:=by intro n c; kernel_rfl
theorem ajZ [Fr] (n:Nat):aj Tryz.prog n ab3:=ak mixed aL Tryz.func80 (by kernel_rfl) (hi:=afs) (aa (ajY n) aD) aiX
def aM (n:Nat) (a0:List rz) (a1:List rz):Option (Bool×Unit):=(if (!decide ((a0.length:Int)=(a1.length:Int)))=true then some (false,()) else (rounds (fun L1 (v1:(List rz)×(List rz)×Int×Int×Unit)=>(if decide (v1.2.2.2.1<v1.2.2.1)=true then (if aI v1.2.2.2.1 v1.2.1.length then (if aI v1.2.2.2.1 v1.1.length then ((kI n (v1.2.1.getD v1.2.2.2.1.toNat kD) (v1.1.getD v1.2.2.2.1.toNat kD)).bind fun r2=>(if (!r2.1)=true then some (false,()) else L1 (v1.1,v1.2.1,v1.2.2.1,IntKind.i64.wrap (v1.2.2.2.1+(1:Int)),()))) else none) else none) else some (true,()))) n (a1,a0,(a0.length:Int),(0:Int),())))
def ab4:Entry:=⟨79,[.val (.sl 103 zo) [], .val (.sl 103 zo) [], .fn 80 []],[.val .bool [] []],fun n c=>aM n c.1 c.2.1⟩
def aft:Hint:=⟨0,[],[(0,[1,2,15,16,17],[])],[],[(80,some 29,ab3)],[],[],[],[]⟩
theorem aiY:iA T aft Tryz.f79 ab4:=by intro n c; kernel_rfl
theorem aj0 [Fr] (n:Nat):aj Tryz.prog n ab4:=ak mixed aL Tryz.func79 (by kernel_rfl) (hi:=aft) (aa (ajZ n) aD) aiY
def kF (n:Nat) (a0:dQ) (a1:dQ):Option (Bool×Unit):=(if decide (a0.1=a1.1)=true then (if decide (a0.2.1=a1.2.1)=true then (if decide (a0.2.2.1=a1.2.2.1)=true then ((aM n a0.2.2.2.1 a1.2.2.2.1).bind fun r1=>some (r1.1,())) else some (false,())) else some (false,())) else some (false,()))
def ab5:Entry:=⟨78,[.val nJ [], .val nJ []],[.val .bool [] []],fun n c=>kF n c.1 c.2.1⟩
def afu:Hint:=⟨0,[],[],[],[(79,some 29,ab4)],[],[],[],[]⟩
theorem aiZ:iA T afu Tryz.f78 ab5:=by intro n c; kernel_rfl
theorem aj1 [Fr] (n:Nat):aj Tryz.prog n ab5:=ak mixed aL Tryz.func78 (by kernel_rfl) (hi:=afu) (aa (aj0 n) aD) aiZ
def bu (n:Nat) (a0:List dQ) (a1:List dQ):Option (Bool×Unit):=(if (!decide ((a0.length:Int)=(a1.length:Int)))=true then some (false,()) else (rounds (fun L1 (v1:(List dQ)×(List dQ)×Int×Int×Unit)=>(if decide (v1.2.2.2.1<v1.2.2.1)=true then (if aI v1.2.2.2.1 v1.2.1.length then (if aI v1.2.2.2.1 v1.1.length then ((kF n (v1.2.1.getD v1.2.2.2.1.toNat dF) (v1.1.getD v1.2.2.2.1.toNat dF)).bind fun r2=>(if (!r2.1)=true then some (false,()) else L1 (v1.1,v1.2.1,v1.2.2.1,IntKind.i64.wrap (v1.2.2.2.1+(1:Int)),()))) else none) else none) else some (true,()))) n (a1,a0,(a0.length:Int),(0:Int),())))
def VJ:Entry:=⟨77,[.val (.sl 100 nJ) [], .val (.sl 100 nJ) [], .fn 78 []],[.val .bool [] []],fun n c=>bu n c.1 c.2.1⟩
def aal:Hint:=⟨0,[],[(0,[1,2,15,16,17],[])],[],[(78,some 29,ab5)],[],[],[],[]⟩
theorem adV:iA T aal Tryz.f77 VJ:=by intro n c; kernel_rfl
theorem afx [Fr] (n:Nat):aj Tryz.prog n VJ:=ak mixed aL Tryz.func77 (by kernel_rfl) (hi:=aal) (aa (aj1 n) aD) adV
def jV (n:Nat) (a0:fI) (a1:fI):Option (Bool×Unit):=(if decide (a0.1=a1.1)=true then ((bu n a0.2.1 a1.2.1).bind fun r1=>some (r1.1,())) else some (false,()))
def VK:Entry:=⟨32,[.val qy [], .val qy []],[.val .bool [] []],fun n c=>jV n c.1 c.2.1⟩
def aam:Hint:=⟨0,[],[],[],[(77,some 15,VJ)],[],[],[],[]⟩
theorem adW:iA T aam Tryz.f32 VK:=by intro n c; kernel_rfl
theorem afy [Fr] (n:Nat):aj Tryz.prog n VK:=ak mixed aL Tryz.func32 (by kernel_rfl) (hi:=aam) (aa (afx n) aD) adW
def nV (n:Nat) (a0:Ae):Option (Int×Unit):=(if decide ((IntKind.i64.wrap ((a0.2.1.length:Int)+(a0.2.2.1.length:Int)))>(8000:Int))=true then some ((2:Int),()) else (if (!a0.1)=true then (if decide ((a0.2.2.1.length:Int)>(0:Int))=true then some ((1:Int),()) else (if (!decide (a0.2.2.2.1.1=(0:Int)))=true then some ((1:Int),()) else (if decide ((a0.2.2.2.1.2.1.length:Int)>(0:Int))=true then some ((1:Int),()) else (if (!a0.1)=true then some ((0:Int),()) else ((iB n a0.2.2.2.1).bind fun r1=>(if (!decide (r1.1=(0:Int)))=true then some (r1.1,()) else ((kU n a0).bind fun r2=>(if (!r2.2.1)=true then some ((5:Int),()) else ((wB n).bind fun r3=>((nD n r3.1 r2.1).bind fun r4=>(if (!decide (r4.1.1=(0:Int)))=true then some ((9:Int),()) else ((jV n r4.1.2.2.1 a0.2.2.2.1).bind fun r5=>(if (!r5.1)=true then some ((9:Int),()) else some ((0:Int),())))))))))))))) else (if (!a0.1)=true then some ((0:Int),()) else ((iB n a0.2.2.2.1).bind fun r6=>(if (!decide (r6.1=(0:Int)))=true then some (r6.1,()) else ((kU n a0).bind fun r7=>(if (!r7.2.1)=true then some ((5:Int),()) else ((wB n).bind fun r8=>((nD n r8.1 r7.1).bind fun r9=>(if (!decide (r9.1.1=(0:Int)))=true then some ((9:Int),()) else ((jV n r9.1.2.2.1 a0.2.2.2.1).bind fun NR=>(if (!NR.1)=true then some ((9:Int),()) else some ((0:Int),())))))))))))))
def VL:Entry:=⟨31,[.val C8 []],[.val (.int .i64) [] []],fun n c=>nV n c.1⟩
def aan:Hint:=⟨0,[],[],[],[(73,some 45,Y6),(64,some 51,abO),(76,some 56,abP),(29,some 58,ab1),(32,some 67,VK)],[],[],[],[]⟩
theorem adX:iA T aan Tryz.f31 VL:=by intro n c; kernel_rfl
theorem afz [Fr] (n:Nat):aj Tryz.prog n VL:=ak mixed aL Tryz.func31 (by kernel_rfl) (hi:=aan) (aa (afL n) (aa (ajJ n) (aa (ajK n) (aa (ajX n) (aa (afy n) aD))))) adX
def uO (n:Nat) (a0:Ae):Option (Int×Unit):=((nV n a0).bind fun r1=>(if (!decide (r1.1=(0:Int)))=true then some (r1.1,()) else (if (!a0.1)=true then some ((9:Int),()) else some ((0:Int),()))))
def VM:Entry:=⟨48,[.val C8 []],[.val (.int .i64) [] []],fun n c=>uO n c.1⟩
def aao:Hint:=⟨0,[],[],[],[(31,some 5,VL)],[],[],[],[]⟩
theorem adY:iA T aao Tryz.f48 VM:=by intro n c; kernel_rfl
theorem afA [Fr] (n:Nat):aj Tryz.prog n VM:=ak mixed aL Tryz.func48 (by kernel_rfl) (hi:=aao) (aa (afz n) aD) adY
def UM:Go.Shelf.Ren:=⟨fun | 4=>87 | n=>n,fun | 22=>22 | 25=>5 | 3=>3 | 4=>4 | 9=>9 | 20=>20 | 0=>0 | n=>n,fun | n=>n⟩
theorem af7:Go.Proofs.Lays8.n4 Tryz.prog UM:={
 mixed:=by kernel_rfl
 f4:=⟨Tryz.f87.name,by decide,Tryz.func87.trans (congrArg some (by kernel_rfl))⟩
 t0:=Tryz.underlying0
 a0:=Tryz.isAgg0
 z0:=Tryz.sizeOf0
 v0:=Tryz.zeroValue0
 t3:=Tryz.underlying3
 a3:=Tryz.isAgg3
 z3:=Tryz.sizeOf3
 v3:=Tryz.zeroValue3
 t4:=Tryz.underlying4
 a4:=Tryz.isAgg4
 z4:=Tryz.sizeOf4
 v4:=Tryz.zeroValue4
 t9:=Tryz.underlying9
 a9:=Tryz.isAgg9
 z9:=Tryz.sizeOf9
 v9:=Tryz.zeroValue9
 t20:=Tryz.underlying20
 a20:=Tryz.isAgg20
 z20:=Tryz.sizeOf20
 v20:=Tryz.zeroValue20
 t22:=Tryz.underlying22
 a22:=Tryz.isAgg22
 z22:=Tryz.sizeOf22
 v22:=Tryz.zeroValue22 }
def sK (n:Nat) (a0:Int):Option (List Int×Unit):=if 0≤a0∧a0≤1073741824 then some ([],()) else none
def Yp:List dD:=[.into 0 [], .val (.int .i64) []]
def adB:List mU:=[.own (.sl 5 (.int .u8)) [5] [] []]
def aak:Entry:=⟨87,Yp,adB,fun n (c:Cont (kin Yp))=>sK n c.1⟩
theorem afB [Fr] (n:Nat):aj Tryz.prog n aak:=SE.Rv (t:=22) (T:=T) af7 rfl rfl ((Sk aL).ty 22 _ (by kernel_rfl)) (by kernel_rfl) (Go.MuLone.run_callFunc_enter Tryz.func87 (by kernel_rfl) rfl)
def gG (n:Nat) (a0:List (List Int)):Option ((List Int)×Unit):=(rounds (fun L1 (v1:(List (List Int))×Int×(List (List Int))×Int×Int×Unit)=>(if decide (v1.2.2.2.2.1<v1.2.2.2.1)=true then (if aI v1.2.2.2.2.1 v1.2.2.1.length then (if decide ((IntKind.i64.wrap (v1.2.1+((v1.2.2.1.getD v1.2.2.2.2.1.toNat ([]:List Int)).length:Int)))<(0:Int))=true then none else L1 (v1.1,IntKind.i64.wrap (v1.2.1+((v1.2.2.1.getD v1.2.2.2.2.1.toNat ([]:List Int)).length:Int)),v1.2.2.1,v1.2.2.2.1,IntKind.i64.wrap (v1.2.2.2.2.1+(1:Int)),())) else none) else ((sK n v1.2.1).bind fun r2=>(rounds (fun L3 (v3:(List (List Int))×Int×Int×(List Int)×Unit)=>(if decide (v3.2.2.1<v3.2.1)=true then (if aI v3.2.2.1 v3.1.length then (if (v3.2.2.2.1.length+(v3.1.getD v3.2.2.1.toNat ([]:List Int)).length) * 1≤140737488355328 then L3 (v3.1,v3.2.1,IntKind.i64.wrap (v3.2.2.1+(1:Int)),v3.2.2.2.1++(v3.1.getD v3.2.2.1.toNat ([]:List Int)),()) else none) else none) else some (v3.2.2.2.1,()))) n (v1.1,(v1.1.length:Int),(0:Int),r2.1,()))))) n (a0,(0:Int),a0,(a0.length:Int),(0:Int),()))
def VN:Entry:=⟨51,[.val (.sl 22 (.sl 5 (.int .u8))) []],[.own (.sl 5 (.int .u8)) [5] [] []],fun n c=>gG n c.1⟩
def aap:Hint:=⟨0,[],[(0,[0,3,9,10,11],[]),(2,[6,25,26,27],[770])],[],[(87,some 24,aak)],[],[],[],[]⟩
theorem adZ:iA T aap Tryz.f51 VN:=by intro n c; kernel_rfl
theorem afC [Fr] (n:Nat):aj Tryz.prog n VN:=ak mixed aL Tryz.func51 (by kernel_rfl) (hi:=aap) (aa (afB n) aD) adZ
def jT (n:Nat) (a0:Ae) (a1:Int):Option (OD×Unit):=((uO n a0).bind fun r1=>(if (!decide (r1.1=(0:Int)))=true then some ((r1.1,([]:List Int),acy,()),()) else ((bN n a0.2.2.1).bind fun r2=>((eT n a1 (0:Int) r2.1).bind fun r3=>(if (!r3.1)=true then some (((3:Int),([]:List Int),acy,()),()) else (if 0≤a1∧a1≤(a0.2.2.1.length:Int) then ((gG n [a0.2.1,a0.2.2.1.take a1.toNat]).bind fun r4=>some (((0:Int),([]:List Int),(false,r4.1,([]:List Int),KX,()),()),())) else none))))))
def SB:Entry:=⟨12,[.val C8 [], .val (.int .i64) []],[.own M4 [2,5,100,103] [] []],fun n c=>jT n c.1 c.2.1⟩
def aaq:Hint:=⟨0,[],[],[],[(48,some 7,VM),(50,some 15,MQ),(49,some 16,IE),(51,some 26,VN)],[],[],[],[]⟩
theorem ad1:iA T aaq Tryz.f12 SB:=by intro n c; kernel_rfl
theorem aar [Fr] (n:Nat):aj Tryz.prog n SB:=ak mixed aL Tryz.func12 (by kernel_rfl) (hi:=aaq) (aa (afA n) (aa (Qy n) (aa (MR n) (aa (afC n) aD)))) ad1
def qM (n:Nat) (a0:List Int) (a1:List Int):Option (Bool×Unit):=(if (!decide ((a0.length:Int)=(a1.length:Int)))=true then some (false,()) else (rounds (fun L1 (v1:(List Int)×Zt0)=>(if decide (v1.2.2.1<(v1.1.length:Int))=true then (if aI v1.2.2.1 v1.1.length then (if aI v1.2.2.1 v1.2.1.length then (if (!decide ((v1.1.getD v1.2.2.1.toNat (0:Int))=(v1.2.1.getD v1.2.2.1.toNat (0:Int))))=true then some (false,()) else L1 (v1.1,v1.2.1,IntKind.i64.wrap (v1.2.2.1+(1:Int)),())) else none) else none) else some (true,()))) n (a0,a1,(0:Int),())))
def qi:List dD:=[.val (.sl 2 (.int .i64)) [], .val (.sl 2 (.int .i64)) []]
def zL:List mU:=[.val .bool [] []]
def vP:Entry:=⟨52,qi,zL,fun n (c:Cont (kin qi))=>qM n c.1 c.2.1⟩
def AY:Hint:=⟨0,[],[(0,[0,1,5],[])],[],[],[],[],[],[]⟩
theorem G5:∀n (c:Cont (kin qi)),ku T AY Tryz.f52 qi zL n c=vP.F n c:=by intro n c; kernel_rfl
theorem He [Fr] (n:Nat):aj Tryz.prog n vP:=ak mixed aL Tryz.func52 (by kernel_rfl) (hi:=AY) aD G5
def kW (n:Nat) (a0:List Int) (a1:List Int):Option (Bool×Unit):=(if (!decide ((a0.length:Int)=(a1.length:Int)))=true then some (false,()) else (rounds (fun L1 (v1:(List Int)×Zt0)=>(if decide (v1.2.2.1<(v1.1.length:Int))=true then (if aI v1.2.2.1 v1.1.length then (if aI v1.2.2.1 v1.2.1.length then (if (!decide ((v1.1.getD v1.2.2.1.toNat (0:Int))=(v1.2.1.getD v1.2.2.1.toNat (0:Int))))=true then some (false,()) else L1 (v1.1,v1.2.1,IntKind.i64.wrap (v1.2.2.1+(1:Int)),())) else none) else none) else some (true,()))) n (a0,a1,(0:Int),())))
def qR:List dD:=[.val (.sl 5 (.int .u8)) [], .val (.sl 5 (.int .u8)) []]
def Bf:List mU:=[.val .bool [] []]
def oO:Entry:=⟨53,qR,Bf,fun n (c:Cont (kin qR))=>kW n c.1 c.2.1⟩
def BA:Hint:=⟨0,[],[(0,[0,1,5],[])],[],[],[],[],[],[]⟩
theorem Iq:∀n (c:Cont (kin qR)),ku T BA Tryz.f53 qR Bf n c=oO.F n c:=by intro n c; kernel_rfl
theorem xg [Fr] (n:Nat):aj Tryz.prog n oO:=ak mixed aL Tryz.func53 (by kernel_rfl) (hi:=BA) aD Iq
def kY (n:Nat) (a0:rz) (a1:rz):Option (Bool×Unit):=(if (!decide (a0.1=a1.1))=true then some (false,()) else (if (!decide (a0.2.1=a1.2.1))=true then some (false,()) else (if (!decide (a0.2.2.1=a1.2.2.1))=true then some (false,()) else ((kW n a0.2.2.2.1 a1.2.2.2.1).bind fun r1=>(if (!r1.1)=true then some (false,()) else some (true,()))))))
def oF:List dD:=[.val zo [], .val zo []]
def yw:List mU:=[.val .bool [] []]
def ug:Entry:=⟨192,oF,yw,fun n (c:Cont (kin oF))=>kY n c.1 c.2.1⟩
def y9:Hint:=⟨0,[],[],[],[(53,some 24,oO)],[],[],[],[]⟩
theorem Fq:∀n (c:Cont (kin oF)),ku T y9 Tryz.f192 oF yw n c=ug.F n c:=by intro n c; kernel_rfl
theorem FE [Fr] (n:Nat):aj Tryz.prog n ug:=ak mixed aL Tryz.func192 (by kernel_rfl) (hi:=y9) (aa (xg n) aD) Fq
def nW (n:Nat) (a0:List rz) (a1:List rz):Option (Bool×Unit):=(if (!decide ((a0.length:Int)=(a1.length:Int)))=true then some (false,()) else (rounds (fun L1 (v1:(List rz)×(List rz)×Int×Unit)=>(if decide (v1.2.2.1<(v1.1.length:Int))=true then (if aI v1.2.2.1 v1.1.length then (if aI v1.2.2.1 v1.2.1.length then ((kY n (v1.1.getD v1.2.2.1.toNat kD) (v1.2.1.getD v1.2.2.1.toNat kD)).bind fun r2=>(if (!r2.1)=true then some (false,()) else L1 (v1.1,v1.2.1,IntKind.i64.wrap (v1.2.2.1+(1:Int)),()))) else none) else none) else some (true,()))) n (a0,a1,(0:Int),())))
def mZ:List dD:=[.val (.sl 103 zo) [], .val (.sl 103 zo) []]
def xK:List mU:=[.val .bool [] []]
def rW:Entry:=⟨160,mZ,xK,fun n (c:Cont (kin mZ))=>nW n c.1 c.2.1⟩
def xZ:Hint:=⟨0,[],[(0,[0,1,5],[])],[],[(192,some 25,ug)],[],[],[],[]⟩
theorem D9:∀n (c:Cont (kin mZ)),ku T xZ Tryz.f160 mZ xK n c=rW.F n c:=by intro n c; kernel_rfl
theorem Eh [Fr] (n:Nat):aj Tryz.prog n rW:=ak mixed aL Tryz.func160 (by kernel_rfl) (hi:=xZ) (aa (FE n) aD) D9
def sF (n:Nat) (a0:dQ) (a1:dQ):Option (Bool×Unit):=(if (!decide (a0.1=a1.1))=true then some (false,()) else (if (!decide (a0.2.1=a1.2.1))=true then some (false,()) else (if (!decide (a0.2.2.1=a1.2.2.1))=true then some (false,()) else ((nW n a0.2.2.2.1 a1.2.2.2.1).bind fun r1=>(if (!r1.1)=true then some (false,()) else some (true,()))))))
def ve:List dD:=[.val nJ [], .val nJ []]
def Dn:List mU:=[.val .bool [] []]
def zX:Entry:=⟨119,ve,Dn,fun n (c:Cont (kin ve))=>sF n c.1 c.2.1⟩
def Ee:Hint:=⟨0,[],[],[],[(160,some 24,rW)],[],[],[],[]⟩
theorem MN:∀n (c:Cont (kin ve)),ku T Ee Tryz.f119 ve Dn n c=zX.F n c:=by intro n c; kernel_rfl
theorem MS [Fr] (n:Nat):aj Tryz.prog n zX:=ak mixed aL Tryz.func119 (by kernel_rfl) (hi:=Ee) (aa (Eh n) aD) MN
def uP (n:Nat) (a0:List dQ) (a1:List dQ):Option (Bool×Unit):=(if (!decide ((a0.length:Int)=(a1.length:Int)))=true then some (false,()) else (rounds (fun L1 (v1:(List dQ)×(List dQ)×Int×Unit)=>(if decide (v1.2.2.1<(v1.1.length:Int))=true then (if aI v1.2.2.1 v1.1.length then (if aI v1.2.2.1 v1.2.1.length then ((sF n (v1.1.getD v1.2.2.1.toNat dF) (v1.2.1.getD v1.2.2.1.toNat dF)).bind fun r2=>(if (!r2.1)=true then some (false,()) else L1 (v1.1,v1.2.1,IntKind.i64.wrap (v1.2.2.1+(1:Int)),()))) else none) else none) else some (true,()))) n (a0,a1,(0:Int),())))
def tK:List dD:=[.val (.sl 100 nJ) [], .val (.sl 100 nJ) []]
def Cj:List mU:=[.val .bool [] []]
def yL:Entry:=⟨88,tK,Cj,fun n (c:Cont (kin tK))=>uP n c.1 c.2.1⟩
def De:Hint:=⟨0,[],[(0,[0,1,5],[])],[],[(119,some 25,zX)],[],[],[],[]⟩
theorem KM:∀n (c:Cont (kin tK)),ku T De Tryz.f88 tK Cj n c=yL.F n c:=by intro n c; kernel_rfl
theorem KQ [Fr] (n:Nat):aj Tryz.prog n yL:=ak mixed aL Tryz.func88 (by kernel_rfl) (hi:=De) (aa (MS n) aD) KM
def sG (n:Nat) (a0:fI) (a1:fI):Option (Bool×Unit):=(if (!decide (a0.1=a1.1))=true then some (false,()) else ((uP n a0.2.1 a1.2.1).bind fun r1=>(if (!r1.1)=true then some (false,()) else some (true,()))))
def qU:List dD:=[.val qy [], .val qy []]
def Bg:List mU:=[.val .bool [] []]
def wV:Entry:=⟨54,qU,Bg,fun n (c:Cont (kin qU))=>sG n c.1 c.2.1⟩
def BB:Hint:=⟨0,[],[],[],[(88,some 14,yL)],[],[],[],[]⟩
theorem Ir:∀n (c:Cont (kin qU)),ku T BB Tryz.f54 qU Bg n c=wV.F n c:=by intro n c; kernel_rfl
theorem IJ [Fr] (n:Nat):aj Tryz.prog n wV:=ak mixed aL Tryz.func54 (by kernel_rfl) (hi:=BB) (aa (KQ n) aD) Ir
def kZ (n:Nat) (a0:Ae) (a1:Ae):Option (Bool×Unit):=(if (!(a0.1 == a1.1))=true then some (false,()) else ((kW n a0.2.1 a1.2.1).bind fun r1=>(if (!r1.1)=true then some (false,()) else ((kW n a0.2.2.1 a1.2.2.1).bind fun r2=>(if (!r2.1)=true then some (false,()) else ((sG n a0.2.2.2.1 a1.2.2.2.1).bind fun r3=>(if (!r3.1)=true then some (false,()) else some (true,()))))))))
def qV:List dD:=[.val C8 [], .val C8 []]
def Bh:List mU:=[.val .bool [] []]
def rX:Entry:=⟨14,qV,Bh,fun n (c:Cont (kin qV))=>kZ n c.1 c.2.1⟩
def BC:Hint:=⟨0,[],[],[],[(53,some 14,oO),(53,some 20,oO),(54,some 26,wV)],[],[],[],[]⟩
theorem Iu:∀n (c:Cont (kin qV)),ku T BC Tryz.f14 qV Bh n c=rX.F n c:=by intro n c; kernel_rfl
theorem BK [Fr] (n:Nat):aj Tryz.prog n rX:=ak mixed aL Tryz.func14 (by kernel_rfl) (hi:=BC) (aa (xg n) (aa (xg n) (aa (IJ n) aD))) Iu
def fF (n:Nat) (a0:OD) (a1:OD):Option (Bool×Unit):=(if (!decide (a0.1=a1.1))=true then some (false,()) else ((qM n a0.2.1 a1.2.1).bind fun r1=>(if (!r1.1)=true then some (false,()) else ((kZ n a0.2.2.1 a1.2.2.1).bind fun r2=>(if (!r2.1)=true then some (false,()) else some (true,()))))))
def jL:List dD:=[.val M4 [], .val M4 []]
def uf:List mU:=[.val .bool [] []]
def gZ:Entry:=⟨13,jL,uf,fun n (c:Cont (kin jL))=>fF n c.1 c.2.1⟩
def vv:Hint:=⟨0,[],[],[],[(52,some 14,vP),(14,some 20,rX)],[],[],[],[]⟩
theorem Bw:∀n (c:Cont (kin jL)),ku T vv Tryz.f13 jL uf n c=gZ.F n c:=by intro n c; kernel_rfl
theorem o9 [Fr] (n:Nat):aj Tryz.prog n gZ:=ak mixed aL Tryz.func13 (by kernel_rfl) (hi:=vv) (aa (He n) (aa (BK n) aD)) Bw
def jh (n:Nat) (a0:List Int) (a1:Int):Option (Int×(List Int)×Unit):=(rounds (fun L1 (v1:Int×Int×(List Int)×Unit)=>(if decide (v1.2.1<(v1.2.2.1.length:Int))=true then (if aI v1.2.1 v1.2.2.1.length then L1 (IntKind.i64.wrap (v1.1+(1:Int)),IntKind.i64.wrap (v1.2.1+(1:Int)),v1.2.2.1.set v1.2.1.toNat (IntKind.u8.wrap v1.1),()) else none) else some (v1.1,v1.2.2.1,()))) n (a1,(0:Int),a0,()))
def oJ:List dD:=[.jB (.sl 5 (.int .u8)) [5] [5], .val (.int .i64) []]
def yB:List mU:=[.val (.int .i64) [] []]
def kQ:Entry:=⟨55,oJ,yB,fun n (c:Cont (kin oJ))=>jh n c.1 c.2.1⟩
def zf:Hint:=⟨0,[],[(0,[0,1,5],[0])],[],[],[],[],[],[]⟩
theorem Fx:∀n (c:Cont (kin oJ)),ku T zf Tryz.f55 oJ yB n c=kQ.F n c:=by intro n c; kernel_rfl
theorem uz [Fr] (n:Nat):aj Tryz.prog n kQ:=ak mixed aL Tryz.func55 (by kernel_rfl) (hi:=zf) aD Fx
def iE (n:Nat) (a0:Int):Option ((List Int)×Unit):=(if decide (a0≤(0:Int))=true then some ([109,48],()) else (rounds (fun L1 (v1:Int×(List Int)×Unit)=>(if decide (v1.1>(0:Int))=true then (if (10:Int)≠0 then (if [IntKind.u8.wrap (IntKind.i64.wrap ((48:Int)+(v1.1.tmod (10:Int))))].length+v1.2.1.length≤9223372036854775807 then (if (10:Int)≠0 then L1 (IntKind.i64.wrap (v1.1.tdiv (10:Int)),[IntKind.u8.wrap (IntKind.i64.wrap ((48:Int)+(v1.1.tmod (10:Int))))]++v1.2.1,()) else none) else none) else none) else (if [109].length+v1.2.1.length≤9223372036854775807 then some ([109]++v1.2.1,()) else none))) n (a0,([]:List Int),())))
def qm:List dD:=[.val (.int .i64) []]
def zP:List mU:=[.val .str [] []]
def qL:Entry:=⟨120,qm,zP,fun n (c:Cont (kin qm))=>iE n c.1⟩
def A8:Hint:=⟨0,[],[(0,[0,3],[])],[],[],[],[],[],[]⟩
theorem G8:∀n (c:Cont (kin qm)),ku T A8 Tryz.f120 qm zP n c=qL.F n c:=by intro n c; kernel_rfl
theorem A9 [Fr] (n:Nat):aj Tryz.prog n qL:=ak mixed aL Tryz.func120 (by kernel_rfl) (hi:=A8) aD G8
def kK (n:Nat) (a0:List rz) (a1:Int):Option (Int×(List rz)×Unit):=(rounds (fun L1 (v1:Int×Int×(List rz)×Unit)=>(if decide (v1.2.1<(v1.2.2.1.length:Int))=true then (if aI v1.2.1 v1.2.2.1.length then (if aI v1.2.1 (iR v1.2.2.1 v1.2.1.toNat kD fun z1=>(v1.1,z1.2)).length then (if aI v1.2.1 (iR (iR v1.2.2.1 v1.2.1.toNat kD fun z1=>(v1.1,z1.2)) v1.2.1.toNat kD fun z1=>(z1.1,IntKind.i64.wrap (v1.1+(1:Int)),z1.2.2)).length then (if aI v1.2.1 (iR (iR (iR v1.2.2.1 v1.2.1.toNat kD fun z1=>(v1.1,z1.2)) v1.2.1.toNat kD fun z1=>(z1.1,IntKind.i64.wrap (v1.1+(1:Int)),z1.2.2)) v1.2.1.toNat kD fun z1=>(z1.1,z1.2.1,IntKind.i64.wrap ((IntKind.i64.wrap (v1.1+(1:Int)))+(1:Int)),z1.2.2.2)).length then ((jh n ((((((iR (iR (iR v1.2.2.1 v1.2.1.toNat kD fun z1=>(v1.1,z1.2)) v1.2.1.toNat kD fun z1=>(z1.1,IntKind.i64.wrap (v1.1+(1:Int)),z1.2.2)) v1.2.1.toNat kD fun z1=>(z1.1,z1.2.1,IntKind.i64.wrap ((IntKind.i64.wrap (v1.1+(1:Int)))+(1:Int)),z1.2.2.2)).getD v1.2.1.toNat kD).2).2).2).1) (IntKind.i64.wrap ((IntKind.i64.wrap ((IntKind.i64.wrap (v1.1+(1:Int)))+(1:Int)))+(1:Int)))).bind fun r2=>L1 (r2.1,IntKind.i64.wrap (v1.2.1+(1:Int)),(iR (iR (iR (iR v1.2.2.1 v1.2.1.toNat kD fun z1=>(v1.1,z1.2)) v1.2.1.toNat kD fun z1=>(z1.1,IntKind.i64.wrap (v1.1+(1:Int)),z1.2.2)) v1.2.1.toNat kD fun z1=>(z1.1,z1.2.1,IntKind.i64.wrap ((IntKind.i64.wrap (v1.1+(1:Int)))+(1:Int)),z1.2.2.2)) v1.2.1.toNat kD fun z1=>(z1.1,z1.2.1,z1.2.2.1,r2.2.1,z1.2.2.2.2)),())) else none) else none) else none) else none) else some (v1.1,v1.2.2.1,()))) n (a1,(0:Int),a0,()))
def j5:List dD:=[.jB (.sl 103 zo) [5,103] [5,103,4294967295], .val (.int .i64) []]
def vM:List mU:=[.val (.int .i64) [] []]
def qw:Entry:=⟨121,j5,vM,fun n (c:Cont (kin j5))=>kK n c.1 c.2.1⟩
def vY:Hint:=⟨0,[37],[(0,[0,1,5],[0])],[],[(55,some 39,kQ)],[],[],[],[]⟩
theorem CX:∀n (c:Cont (kin j5)),ku T vY Tryz.f121 j5 vM n c=qw.F n c:=by intro n c; kernel_rfl
theorem CZ [Fr] (n:Nat):aj Tryz.prog n qw:=ak mixed aL Tryz.func121 (by kernel_rfl) (hi:=vY) (aa (uz n) aD) CX
def qN (n:Nat) (a0:List dQ) (a1:Int):Option fI:=(rounds (fun L1 (v1:Int×fI)=>(if decide (v1.2.1<(v1.2.2.1.length:Int))=true then ((iE n v1.1).bind fun r2=>(if aI v1.2.1 v1.2.2.1.length then (if aI v1.2.1 (iR v1.2.2.1 v1.2.1.toNat dF fun z1=>(r2.1,z1.2)).length then (if aI v1.2.1 (iR (iR v1.2.2.1 v1.2.1.toNat dF fun z1=>(r2.1,z1.2)) v1.2.1.toNat dF fun z1=>(z1.1,IntKind.i64.wrap (v1.1+(1:Int)),z1.2.2)).length then (if aI v1.2.1 (iR (iR (iR v1.2.2.1 v1.2.1.toNat dF fun z1=>(r2.1,z1.2)) v1.2.1.toNat dF fun z1=>(z1.1,IntKind.i64.wrap (v1.1+(1:Int)),z1.2.2)) v1.2.1.toNat dF fun z1=>(z1.1,z1.2.1,IntKind.i64.wrap ((IntKind.i64.wrap (v1.1+(1:Int)))+(1:Int)),z1.2.2.2)).length then ((kK n ((((((iR (iR (iR v1.2.2.1 v1.2.1.toNat dF fun z1=>(r2.1,z1.2)) v1.2.1.toNat dF fun z1=>(z1.1,IntKind.i64.wrap (v1.1+(1:Int)),z1.2.2)) v1.2.1.toNat dF fun z1=>(z1.1,z1.2.1,IntKind.i64.wrap ((IntKind.i64.wrap (v1.1+(1:Int)))+(1:Int)),z1.2.2.2)).getD v1.2.1.toNat dF).2).2).2).1) (IntKind.i64.wrap ((IntKind.i64.wrap ((IntKind.i64.wrap (v1.1+(1:Int)))+(1:Int)))+(1:Int)))).bind fun r3=>L1 (r3.1,IntKind.i64.wrap (v1.2.1+(1:Int)),(iR (iR (iR (iR v1.2.2.1 v1.2.1.toNat dF fun z1=>(r2.1,z1.2)) v1.2.1.toNat dF fun z1=>(z1.1,IntKind.i64.wrap (v1.1+(1:Int)),z1.2.2)) v1.2.1.toNat dF fun z1=>(z1.1,z1.2.1,IntKind.i64.wrap ((IntKind.i64.wrap (v1.1+(1:Int)))+(1:Int)),z1.2.2.2)) v1.2.1.toNat dF fun z1=>(z1.1,z1.2.1,z1.2.2.1,r3.2.1,z1.2.2.2.2)),())) else none) else none) else none) else none)) else some (v1.1,v1.2.2.1,()))) n (a1,(0:Int),a0,()))
def ql:List dD:=[.jB (.sl 100 nJ) [5,100,103] [5,100,103,4294967295], .val (.int .i64) []]
def zN:List mU:=[.val (.int .i64) [] []]
def vR:Entry:=⟨89,ql,zN,fun n (c:Cont (kin ql))=>qN n c.1 c.2.1⟩
def A7:Hint:=⟨0,[38],[(0,[0,1,5],[0])],[],[(120,some 15,qL),(121,some 40,qw)],[],[],[],[]⟩
theorem G7:∀n (c:Cont (kin ql)),ku T A7 Tryz.f89 ql zN n c=vR.F n c:=by intro n c; kernel_rfl
theorem Ho [Fr] (n:Nat):aj Tryz.prog n vR:=ak mixed aL Tryz.func89 (by kernel_rfl) (hi:=A7) (aa (A9 n) (aa (CZ n) aD)) G7
def pW (n:Nat) (a0:fI) (a1:Int):Option (Int×fI×Unit):=((qN n a0.2.1 a1).bind fun r1=>some (r1.1,(a0.1,r1.2.1,a0.2.2),()))
def oK:List dD:=[.jB qy [5,100,103] [5,100,103,4294967295], .val (.int .i64) []]
def yC:List mU:=[.val (.int .i64) [] []]
def um:Entry:=⟨56,oK,yC,fun n (c:Cont (kin oK))=>pW n c.1 c.2.1⟩
def zh:Hint:=⟨0,[],[],[],[(89,some 8,vR)],[],[],[],[]⟩
theorem Fy:∀n (c:Cont (kin oK)),ku T zh Tryz.f56 oK yC n c=um.F n c:=by intro n c; kernel_rfl
theorem FK [Fr] (n:Nat):aj Tryz.prog n um:=ak mixed aL Tryz.func56 (by kernel_rfl) (hi:=zh) (aa (Ho n) aD) Fy
def lC (n:Nat) (a0:Ae) (a1:Int):Option (Int×Ae×Unit):=((jh n a0.2.1 a1).bind fun r1=>((jh n a0.2.2.1 r1.1).bind fun r2=>((pW n a0.2.2.2.1 r2.1).bind fun r3=>some (r3.1,(a0.1,r1.2.1,r2.2.1,r3.2.1,a0.2.2.2.2),()))))
def oL:List dD:=[.jB C8 [5,100,103] [5,100,103,4294967295], .val (.int .i64) []]
def yD:List mU:=[.val (.int .i64) [] []]
def pR:Entry:=⟨15,oL,yD,fun n (c:Cont (kin oL))=>lC n c.1 c.2.1⟩
def zi:Hint:=⟨0,[],[],[],[(55,some 8,kQ),(55,some 12,kQ),(56,some 16,um)],[],[],[],[]⟩
theorem Fz:∀n (c:Cont (kin oL)),ku T zi Tryz.f15 oL yD n c=pR.F n c:=by intro n c; kernel_rfl
theorem zn [Fr] (n:Nat):aj Tryz.prog n pR:=ak mixed aL Tryz.func15 (by kernel_rfl) (hi:=zi) (aa (uz n) (aa (uz n) (aa (FK n) aD))) Fz
def nX (n:Nat) (a0:List Int) (a1:Int):Option (Int×(List Int)×Unit):=(rounds (fun L1 (v1:Int×Int×(List Int)×Unit)=>(if decide (v1.2.1<(v1.2.2.1.length:Int))=true then (if aI v1.2.1 v1.2.2.1.length then L1 (IntKind.i64.wrap (v1.1+(1:Int)),IntKind.i64.wrap (v1.2.1+(1:Int)),v1.2.2.1.set v1.2.1.toNat v1.1,()) else none) else some (v1.1,v1.2.2.1,()))) n (a1,(0:Int),a0,()))
def ni:List dD:=[.jB (.sl 2 (.int .i64)) [2] [2], .val (.int .i64) []]
def xM:List mU:=[.val (.int .i64) [] []]
def rZ:Entry:=⟨57,ni,xM,fun n (c:Cont (kin ni))=>nX n c.1 c.2.1⟩
def x9:Hint:=⟨0,[],[(0,[0,1,5],[0])],[],[],[],[],[],[]⟩
theorem Eb:∀n (c:Cont (kin ni)),ku T x9 Tryz.f57 ni xM n c=rZ.F n c:=by intro n c; kernel_rfl
theorem Ej [Fr] (n:Nat):aj Tryz.prog n rZ:=ak mixed aL Tryz.func57 (by kernel_rfl) (hi:=x9) aD Eb
def iU (n:Nat) (a0:OD) (a1:Int):Option (Int×OD×Unit):=((nX n a0.2.1 a1).bind fun r1=>((lC n a0.2.2.1 r1.1).bind fun r2=>some (r2.1,(a0.1,r1.2.1,r2.2.1,a0.2.2.2),())))
def iD:List dD:=[.jB M4 [2,5,100,103] [2,5,100,103,4294967295], .val (.int .i64) []]
def rR:List mU:=[.val (.int .i64) [] []]
def mD:Entry:=⟨16,iD,rR,fun n (c:Cont (kin iD))=>iU n c.1 c.2.1⟩
def sS:Hint:=⟨0,[],[],[],[(57,some 8,rZ),(15,some 12,pR)],[],[],[],[]⟩
theorem zW:∀n (c:Cont (kin iD)),ku T sS Tryz.f16 iD rR n c=mD.F n c:=by intro n c; kernel_rfl
theorem z8 [Fr] (n:Nat):aj Tryz.prog n mD:=ak mixed aL Tryz.func16 (by kernel_rfl) (hi:=sS) (aa (Ej n) (aa (zn n) aD)) zW
def jW (n:Nat) (a0:List Int) (a1:Int):Option (Int×Unit):=(rounds (fun L1 (v1:(List Int)×Int×Int×Unit)=>(if decide (v1.2.2.1<(v1.1.length:Int))=true then (if aI v1.2.2.1 v1.1.length then (if (!decide ((v1.1.getD v1.2.2.1.toNat (0:Int))=v1.2.1))=true then some ((-1:Int),()) else L1 (v1.1,IntKind.i64.wrap (v1.2.1+(1:Int)),IntKind.i64.wrap (v1.2.2.1+(1:Int)),())) else none) else some (v1.2.1,()))) n (a0,a1,(0:Int),()))
def ng:List dD:=[.val (.sl 2 (.int .i64)) [], .val (.int .i64) []]
def xL:List mU:=[.val (.int .i64) [] []]
def rY:Entry:=⟨58,ng,xL,fun n (c:Cont (kin ng))=>jW n c.1 c.2.1⟩
def x8:Hint:=⟨0,[],[(0,[0,1,5],[])],[],[],[],[],[],[]⟩
theorem Ea:∀n (c:Cont (kin ng)),ku T x8 Tryz.f58 ng xL n c=rY.F n c:=by intro n c; kernel_rfl
theorem Ei [Fr] (n:Nat):aj Tryz.prog n rY:=ak mixed aL Tryz.func58 (by kernel_rfl) (hi:=x8) aD Ea
def fG (n:Nat) (a0:List Int) (a1:Int):Option (Int×Unit):=(rounds (fun L1 (v1:(List Int)×Int×Int×Unit)=>(if decide (v1.2.2.1<(v1.1.length:Int))=true then (if aI v1.2.2.1 v1.1.length then (if (!decide ((v1.1.getD v1.2.2.1.toNat (0:Int))=(IntKind.u8.wrap v1.2.1)))=true then some ((-1:Int),()) else L1 (v1.1,IntKind.i64.wrap (v1.2.1+(1:Int)),IntKind.i64.wrap (v1.2.2.1+(1:Int)),())) else none) else some (v1.2.1,()))) n (a0,a1,(0:Int),()))
def oG:List dD:=[.val (.sl 5 (.int .u8)) [], .val (.int .i64) []]
def yx:List mU:=[.val (.int .i64) [] []]
def kP:Entry:=⟨90,oG,yx,fun n (c:Cont (kin oG))=>fG n c.1 c.2.1⟩
def za:Hint:=⟨0,[],[(0,[0,1,5],[])],[],[],[],[],[],[]⟩
theorem Fu:∀n (c:Cont (kin oG)),ku T za Tryz.f90 oG yx n c=kP.F n c:=by intro n c; kernel_rfl
theorem uy [Fr] (n:Nat):aj Tryz.prog n kP:=ak mixed aL Tryz.func90 (by kernel_rfl) (hi:=za) aD Fu
def kJ (n:Nat) (a0:List rz) (a1:Int):Option (Int×Unit):=(rounds (fun L1 (v1:(List rz)×Int×Int×Unit)=>(if decide (v1.2.2.1<(v1.1.length:Int))=true then (if aI v1.2.2.1 v1.1.length then (if (!decide (((v1.1.getD v1.2.2.1.toNat kD).1)=v1.2.1))=true then some ((-1:Int),()) else (if aI v1.2.2.1 v1.1.length then (if (!decide ((((v1.1.getD v1.2.2.1.toNat kD).2).1)=(IntKind.i64.wrap (v1.2.1+(1:Int)))))=true then some ((-1:Int),()) else (if aI v1.2.2.1 v1.1.length then (if (!decide (((((v1.1.getD v1.2.2.1.toNat kD).2).2).1)=(IntKind.i64.wrap ((IntKind.i64.wrap (v1.2.1+(1:Int)))+(1:Int)))))=true then some ((-1:Int),()) else (if aI v1.2.2.1 v1.1.length then ((fG n (((((v1.1.getD v1.2.2.1.toNat kD).2).2).2).1) (IntKind.i64.wrap ((IntKind.i64.wrap ((IntKind.i64.wrap (v1.2.1+(1:Int)))+(1:Int)))+(1:Int)))).bind fun r2=>(if decide (r2.1<(0:Int))=true then some ((-1:Int),()) else L1 (v1.1,r2.1,IntKind.i64.wrap (v1.2.2.1+(1:Int)),()))) else none)) else none)) else none)) else none) else some (v1.2.1,()))) n (a0,a1,(0:Int),()))
def j4:List dD:=[.val (.sl 103 zo) [], .val (.int .i64) []]
def vL:List mU:=[.val (.int .i64) [] []]
def qp:Entry:=⟨161,j4,vL,fun n (c:Cont (kin j4))=>kJ n c.1 c.2.1⟩
def vX:Hint:=⟨0,[],[(0,[0,1,5],[])],[],[(90,some 45,kP)],[],[],[],[]⟩
theorem CW:∀n (c:Cont (kin j4)),ku T vX Tryz.f161 j4 vL n c=qp.F n c:=by intro n c; kernel_rfl
theorem CY [Fr] (n:Nat):aj Tryz.prog n qp:=ak mixed aL Tryz.func161 (by kernel_rfl) (hi:=vX) (aa (uy n) aD) CW
def nH (n:Nat) (a0:List dQ) (a1:Int):Option (Int×Unit):=(rounds (fun L1 (v1:(List dQ)×Int×Int×Unit)=>(if decide (v1.2.2.1<(v1.1.length:Int))=true then (if aI v1.2.2.1 v1.1.length then ((iE n v1.2.1).bind fun r2=>(if (!decide (((v1.1.getD v1.2.2.1.toNat dF).1)=r2.1))=true then some ((-1:Int),()) else (if aI v1.2.2.1 v1.1.length then (if (!decide ((((v1.1.getD v1.2.2.1.toNat dF).2).1)=(IntKind.i64.wrap (v1.2.1+(1:Int)))))=true then some ((-1:Int),()) else (if aI v1.2.2.1 v1.1.length then (if (!decide (((((v1.1.getD v1.2.2.1.toNat dF).2).2).1)=(IntKind.i64.wrap ((IntKind.i64.wrap (v1.2.1+(1:Int)))+(1:Int)))))=true then some ((-1:Int),()) else (if aI v1.2.2.1 v1.1.length then ((kJ n (((((v1.1.getD v1.2.2.1.toNat dF).2).2).2).1) (IntKind.i64.wrap ((IntKind.i64.wrap ((IntKind.i64.wrap (v1.2.1+(1:Int)))+(1:Int)))+(1:Int)))).bind fun r3=>(if decide (r3.1<(0:Int))=true then some ((-1:Int),()) else L1 (v1.1,r3.1,IntKind.i64.wrap (v1.2.2.1+(1:Int)),()))) else none)) else none)) else none))) else none) else some (v1.2.1,()))) n (a0,a1,(0:Int),()))
def qj:List dD:=[.val (.sl 100 nJ) [], .val (.int .i64) []]
def zM:List mU:=[.val (.int .i64) [] []]
def vQ:Entry:=⟨122,qj,zM,fun n (c:Cont (kin qj))=>nH n c.1 c.2.1⟩
def AZ:Hint:=⟨0,[],[(0,[0,1,5],[])],[],[(120,some 18,qL),(161,some 46,qp)],[],[],[],[]⟩
theorem G6:∀n (c:Cont (kin qj)),ku T AZ Tryz.f122 qj zM n c=vQ.F n c:=by intro n c; kernel_rfl
theorem Hg [Fr] (n:Nat):aj Tryz.prog n vQ:=ak mixed aL Tryz.func122 (by kernel_rfl) (hi:=AZ) (aa (A9 n) (aa (CY n) aD)) G6
def lq (n:Nat) (a0:fI) (a1:Int):Option (Int×Unit):=((nH n a0.2.1 a1).bind fun r1=>(if decide (r1.1<(0:Int))=true then some ((-1:Int),()) else some (r1.1,())))
def oH:List dD:=[.val qy [], .val (.int .i64) []]
def yz:List mU:=[.val (.int .i64) [] []]
def uh:Entry:=⟨91,oH,yz,fun n (c:Cont (kin oH))=>lq n c.1 c.2.1⟩
def zb:Hint:=⟨0,[],[],[],[(122,some 8,vQ)],[],[],[],[]⟩
theorem Fv:∀n (c:Cont (kin oH)),ku T zb Tryz.f91 oH yz n c=uh.F n c:=by intro n c; kernel_rfl
theorem FH [Fr] (n:Nat):aj Tryz.prog n uh:=ak mixed aL Tryz.func91 (by kernel_rfl) (hi:=zb) (aa (Hg n) aD) Fv
def lu (n:Nat) (a0:Ae) (a1:Int):Option (Int×Unit):=((fG n a0.2.1 a1).bind fun r1=>(if decide (r1.1<(0:Int))=true then some ((-1:Int),()) else ((fG n a0.2.2.1 r1.1).bind fun r2=>(if decide (r2.1<(0:Int))=true then some ((-1:Int),()) else ((lq n a0.2.2.2.1 r2.1).bind fun r3=>(if decide (r3.1<(0:Int))=true then some ((-1:Int),()) else some (r3.1,())))))))
def oI:List dD:=[.val C8 [], .val (.int .i64) []]
def yA:List mU:=[.val (.int .i64) [] []]
def uj:Entry:=⟨59,oI,yA,fun n (c:Cont (kin oI))=>lu n c.1 c.2.1⟩
def ze:Hint:=⟨0,[],[],[],[(90,some 8,kP),(90,some 14,kP),(91,some 20,uh)],[],[],[],[]⟩
theorem Fw:∀n (c:Cont (kin oI)),ku T ze Tryz.f59 oI yA n c=uj.F n c:=by intro n c; kernel_rfl
theorem FJ [Fr] (n:Nat):aj Tryz.prog n uj:=ak mixed aL Tryz.func59 (by kernel_rfl) (hi:=ze) (aa (uy n) (aa (uy n) (aa (FH n) aD))) Fw
def fZ (n:Nat) (a0:OD) (a1:Int):Option (Int×Unit):=((jW n a0.2.1 a1).bind fun r1=>(if decide (r1.1<(0:Int))=true then some ((-1:Int),()) else ((lu n a0.2.2.1 r1.1).bind fun r2=>(if decide (r2.1<(0:Int))=true then some ((-1:Int),()) else some (r2.1,())))))
def iC:List dD:=[.val M4 [], .val (.int .i64) []]
def rQ:List mU:=[.val (.int .i64) [] []]
def iT:Entry:=⟨17,iC,rQ,fun n (c:Cont (kin iC))=>fZ n c.1 c.2.1⟩
def sQ:Hint:=⟨0,[],[],[],[(58,some 8,rY),(59,some 14,uj)],[],[],[],[]⟩
theorem zV:∀n (c:Cont (kin iC)),ku T sQ Tryz.f17 iC rQ n c=iT.F n c:=by intro n c; kernel_rfl
theorem sV [Fr] (n:Nat):aj Tryz.prog n iT:=ak mixed aL Tryz.func17 (by kernel_rfl) (hi:=sQ) (aa (Ei n) (aa (FJ n) aD)) zV
def kg (n:Nat) (a0:Ae) (a1:Int):Option (Bool×Unit):=((o7 n a0 (1048576:Int)).bind fun r1=>(if decide (r1.1<(0:Int))=true then some (true,()) else ((jw n a0).bind fun r2=>((og n r2.1 a1).bind fun r3=>((jw n a0).bind fun r4=>((jT n r4.1 a1).bind fun r5=>((fF n r5.1 r3.1).bind fun r6=>(if (!r6.1)=true then some (false,()) else ((jw n a0).bind fun r7=>((kZ n r4.1 r7.1).bind fun r8=>(if (!r8.1)=true then some (false,()) else ((lC n r4.1 (1:Int)).bind fun r9=>(if decide (r9.1<(0:Int))=true then some (false,()) else ((fF n r5.1 r3.1).bind fun NR=>(if (!NR.1)=true then some (false,()) else ((iU n r5.1 (1:Int)).bind fun Io=>((fZ n Io.2.1 (1:Int)).bind fun Kj=>(if decide (Kj.1<(0:Int))=true then some (false,()) else (if (!decide (Kj.1=Io.1))=true then some (false,()) else ((jw n a0).bind fun Og=>((jT n Og.1 a1).bind fun Yr=>((fF n Yr.1 r3.1).bind fun TG=>(if (!TG.1)=true then some (false,()) else ((fZ n Io.2.1 (1:Int)).bind fun r16=>(if decide (r16.1<(0:Int))=true then some (false,()) else (if (!decide (r16.1=Io.1))=true then some (false,()) else some (true,())))))))))))))))))))))))))))
def bW:List dD:=[.val QG [], .val (.int .i64) []]
def qo:List mU:=[.val .bool [] []]
def j6:Entry:=⟨3,bW,qo,fun n (c:Cont (kin bW))=>kg n c.1 c.2.1⟩
def qF:Hint:=⟨0,[36,47],[],[],[(9,some 15,wX),(11,some 19,kR),(10,some 21,abA),(11,some 23,kR),(12,some 26,SB),(13,some 29,gZ),(11,some 33,kR),(14,some 34,rX),(15,some 38,pR),(13,some 44,gZ),(16,some 49,mD),(17,some 52,iT),(11,some 59,kR),(12,some 61,SB),(13,some 64,gZ),(17,some 68,iT)],[],[],[],[]⟩
theorem yK:∀n (c:Cont (kin bW)),ku T qF Tryz.f3 bW qo n c=j6.F n c:=by intro n c; kernel_rfl
theorem yP [Fr] (n:Nat):aj Tryz.prog n j6:=ak mixed aL Tryz.func3 (by kernel_rfl) (hi:=qF) (aa (IL n) (aa (sW n) (aa (ajt n) (aa (sW n) (aa (aar n) (aa (o9 n) (aa (sW n) (aa (BK n) (aa (zn n) (aa (o9 n) (aa (z8 n) (aa (sV n) (aa (sW n) (aa (aar n) (aa (o9 n) (aa (sV n) aD)))))))))))))))) yK
end Go.Proofs.YtailcbngagacaabGreat.rq

/- What the functions of this law compute, as plain functions, and that the reading comes to them. No condition. -/
import Derived.Test.YtailcbngagacaaaGreatProg
import Derived.Test.YtailcbngagacaaaGreatOwF
import Derived.Test.YtailcbngagacaaaGreatCutLib
import Derived.Test.YtailcbngagacaaaGreatPartLib
import Derived.Test.YtailcbngagacaaaGreatPurgeLib
import Derived.Test.YtailcbngagacaaaGreatTakeLib
import Derived.KernelRfl
set_option linter.unusedSectionVars false
set_option linter.unusedVariables false
set_option linter.unusedSimpArgs false
namespace Go.Proofs.YtailcbngagacaaaGreat.FD
open Go Go.Proofs.YtailcbngagacaaaGreat Go.Proofs.YtailcbngagacaaaGreat.Ow
abbrev YA:K:=(.st (.pair .str (.pair (.int .u64) .unit)))
abbrev Zt0:Type:=(List Int)×Int×Unit
abbrev TQ:K:=(.st (.pair (.sl 5 (.int .u8)) (.pair .bool .unit)))
abbrev Zt1:Type:=(List Int)×Bool×Unit
abbrev YB:K:=(.st (.pair (.sl 5 (.int .u8)) (.pair (.int .i64) .unit)))
abbrev TS:K:=(.st (.pair (.sl 5 (.int .u8)) (.pair (.int .i64) (.pair .bool .unit))))
abbrev Zt3:Type:=(List Int)×Int×Bool×Unit
abbrev Zk4:K:=(.st (.pair .str (.pair (.int .i64) (.pair (.int .i64) (.pair (.id 117) .unit)))))
abbrev Zt4:Type:=(List Int)×Int×Int×Nat×Unit
abbrev YC:K:=(.st (.pair (.int .i64) (.pair (.int .i64) (.pair .bool (.pair (.int .u8) .unit)))))
abbrev KS:K:=(.st (.pair (.int .i64) (.pair (.int .i64) (.pair (.int .i64) (.pair (.id 5) .unit)))))
abbrev MP:Type:=Int×Int×Int×Nat×Unit
abbrev DR:K:=(.st (.pair .str (.pair (.int .i64) (.pair (.sl 2 (.int .i64)) (.pair (.int .i64) .unit)))))
abbrev zb:K:=(.st (.pair (.int .i64) (.pair (.int .i64) (.pair (.int .i64) (.pair (.sl 5 (.int .u8)) .unit)))))
abbrev ru:Type:=Int×Int×Int×(List Int)×Unit
abbrev Zk9:K:=(.st (.pair (.int .i64) (.pair (.sl 114 Zk4) .unit)))
abbrev Zt9:Type:=Int×(List (Zt4))×Unit
abbrev KP:K:=(.st (.pair .str (.pair (.int .i64) (.pair (.int .i64) (.pair (.sl 227 KS) .unit)))))
abbrev TW:Type:=(List Int)×Int×Int×(List (MP))×Unit
abbrev G6:K:=(.st (.pair .str (.pair (.int .i64) (.pair (.int .i64) (.pair (.sl 117 KS) .unit)))))
abbrev jI:K:=(.st (.pair (.int .i64) (.pair .str (.pair .str (.pair (.sl 2 (.int .i64)) (.pair (.int .i64) (.pair (.int .i64) (.pair (.int .i64) (.pair (.sl 5 (.int .u8)) .unit)))))))))
abbrev gX:Type:=Int×(List Int)×(List Int)×(List Int)×ru
abbrev IQ:K:=(.st (.pair .str (.pair (.int .i64) (.pair (.int .i64) (.pair (.sl 227 zb) .unit)))))
abbrev dP:Type:=(List Int)×Int×Int×(List (ru))×Unit
abbrev nG:K:=(.st (.pair .str (.pair (.int .i64) (.pair (.int .i64) (.pair (.sl 117 zb) .unit)))))
abbrev afs:K:=(.st (.pair (.int .i64) (.pair (.sl 2 (.int .i64)) (.pair Zk9 .unit))))
abbrev Qt:K:=(.st (.pair (.int .i64) (.pair (.sl 168 KP) .unit)))
abbrev Ol:K:=(.st (.pair (.int .i64) (.pair (.sl 114 G6) .unit)))
abbrev Zb:K:=(.st (.pair .bool (.pair (.sl 5 (.int .u8)) (.pair (.sl 5 (.int .u8)) (.pair Zk9 .unit)))))
abbrev Qu:K:=(.st (.pair (.int .i64) (.pair (.sl 168 IQ) .unit)))
abbrev fG:Type:=Int×(List (dP))×Unit
abbrev qo:K:=(.st (.pair (.int .i64) (.pair (.sl 114 nG) .unit)))
abbrev IU:K:=(.st (.pair (.int .i64) (.pair (.int .i64) (.pair jI .unit))))
abbrev ajv:Type:=Int×Int×(gX)×Unit
abbrev KQ:K:=(.st (.pair (.int .i64) (.pair (.int .i64) (.pair (.sl 72 jI) .unit))))
abbrev TR:K:=(.st (.pair (.int .i64) (.pair (.sl 2 (.int .i64)) (.pair Ol .unit))))
abbrev aft:K:=(.st (.pair (.int .i64) (.pair (.sl 2 (.int .i64)) (.pair Zb .unit))))
abbrev MN:K:=(.st (.pair (.int .i64) (.pair (.sl 2 (.int .i64)) (.pair qo .unit))))
abbrev FJ:Type:=Int×(List Int)×(fG)×Unit
abbrev Qv:K:=(.st (.pair .bool (.pair (.sl 5 (.int .u8)) (.pair (.sl 5 (.int .u8)) (.pair Qt .unit)))))
abbrev Om:K:=(.st (.pair .bool (.pair (.sl 5 (.int .u8)) (.pair (.sl 5 (.int .u8)) (.pair Ol .unit)))))
abbrev Oo:K:=(.st (.pair .bool (.pair (.sl 5 (.int .u8)) (.pair (.sl 5 (.int .u8)) (.pair Qu .unit)))))
abbrev BB:Type:=Bool×(List Int)×(List Int)×(fG)×Unit
abbrev Dl:K:=(.st (.pair .bool (.pair (.sl 5 (.int .u8)) (.pair (.sl 5 (.int .u8)) (.pair qo .unit)))))
abbrev afu:K:=(.st (.pair Zb (.pair (.sl 91 DR) .unit)))
abbrev TT:K:=(.st (.pair (.int .i64) (.pair (.sl 2 (.int .i64)) (.pair Om .unit))))
abbrev MO:K:=(.st (.pair (.int .i64) (.pair (.sl 2 (.int .i64)) (.pair Dl .unit))))
abbrev Oq:Type:=Int×(List Int)×(BB)×Unit
abbrev TU:K:=(.st (.pair Om (.pair (.sl 91 DR) .unit)))
abbrev TV:K:=(.st (.pair Qv (.pair (.sl 139 DR) .unit)))
abbrev afv:K:=(.st (.pair Dl (.pair (.sl 91 DR) .unit)))
abbrev Zc:K:=(.st (.pair Oo (.pair (.sl 139 DR) .unit)))
abbrev Eg:gX:=((0:Int),([]:List Int),([]:List Int),([]:List Int),(0:Int),(0:Int),(0:Int),([]:List Int),())
abbrev Zd:BB:=(false,([]:List Int),([]:List Int),((0:Int),([]:List dP),()),())
abbrev ab7:FJ:=((0:Int),([]:List Int),((0:Int),([]:List dP),()),())
abbrev dF:dP:=(([]:List Int),(0:Int),(0:Int),([]:List ru),())
abbrev kC:ru:=((0:Int),(0:Int),(0:Int),([]:List Int),())
abbrev MQ:MP:=((0:Int),(0:Int),(0:Int),(0:Nat),())
abbrev Ot:fG:=((0:Int),([]:List dP),())
def tyL:Vu:={ ty:=[(2,(.int .i64)),(3,(.int .i64)),(4, .bool),(5,(.int .u8)),(6,(.int .u8)),(7,YC),(8,YC),(9, .str),(10, .str),(11, .str),(12,(.int .u64)),(13,YA),(14,YA),(21,(.int .i32)),(22,(.sl 5 (.int .u8))),(23,(.sl 168 IQ)),(24,Qu),(25,Qu),(26,Oo),(27,Oo),(30,(.sl 114 nG)),(31,qo),(32,qo),(33,Dl),(34,Dl),(38,(.sl 139 DR)),(39,Zc),(40,Zc),(43,(.sl 91 DR)),(44,afv),(45,afv),(49,(.sl 2 (.int .i64))),(50,MO),(51,MO),(60,(.sl 72 jI)),(61,KQ),(62,KQ),(64,MN),(65,MN),(71,jI),(72,jI),(90,DR),(91,DR),(112,(.sl 117 zb)),(113,nG),(114,nG),(116,zb),(117,zb),(139,DR),(145,IU),(146,IU),(152,YB),(153,YB),(155,(.sl 22 (.sl 5 (.int .u8)))),(166,(.sl 227 zb)),(167,IQ),(168,IQ),(180,TQ),(181,TQ),(194,(.sl 9 .str)),(203,TS),(204,TS),(227,zb),(245,(.int .u32)),(246,(.int .u8)),(247,(.int .u8)),(250,(.int .i32)),(251,(.int .i32))],bytes:=[(2,8),(3,8),(4,1),(5,1),(6,1),(7,24),(8,24),(9,16),(10,16),(11,16),(12,8),(13,24),(14,24),(21,4),(22,24),(23,24),(24,32),(25,32),(26,88),(27,88),(30,24),(31,32),(32,32),(33,88),(34,88),(38,24),(39,112),(40,112),(43,24),(44,112),(45,112),(49,24),(50,120),(51,120),(60,24),(61,40),(62,40),(64,64),(65,64),(71,112),(72,112),(90,56),(91,56),(112,24),(113,56),(114,56),(116,48),(117,48),(139,56),(145,128),(146,128),(152,32),(153,32),(155,24),(166,24),(167,56),(168,56),(180,32),(181,32),(194,24),(203,40),(204,40),(227,48),(245,4),(246,1),(247,1),(250,4),(251,4)],ptr:=[15,16,17,77,86,104,121,131,141,170,179,199,206,249] }
def T:jf:=tyL.tab
theorem aL:Ck Tryz.prog tyL=true:=by kernel_rfl
theorem mixed:Tryz.prog.follows .mixedOrders=true:=by kernel_rfl
def lF (n:Nat) (a0:List Int) (a1:Int):Option (Int×Unit):=(if decide ((IntKind.i64.wrap (a1 - (a0.length:Int)))<(0:Int))=true then some ((-1:Int),()) else some (IntKind.i64.wrap (a1 - (a0.length:Int)),()))
def qU:List dI:=[.val (.sl 5 (.int .u8)) [], .val (.int .i64) []]
def A8:List nO:=[.val (.int .i64) [] []]
def oO:Entry:=⟨38,qU,A8,fun n (c:Cont (kin qU))=>lF n c.1 c.2.1⟩
def Bq:Hint:=⟨0,[],[],[],[],[],[],[],[]⟩
theorem Io:∀n (c:Cont (kin qU)),ko T Bq Tryz.f38 qU A8 n c=oO.F n c:=by intro n c; kernel_rfl
theorem wZ [Fr] (n:Nat):aj Tryz.prog n oO:=ak mixed aL Tryz.func38 (by kernel_rfl) (hi:=Bq) aD Io
def lG (n:Nat) (a0:ru) (a1:Int):Option (Int×Unit):=((lF n a0.2.2.2.1 a1).bind fun r1=>(if decide (r1.1<(0:Int))=true then some ((-1:Int),()) else some (r1.1,())))
def oK:List dI:=[.val zb [], .val (.int .i64) []]
def yx:List nO:=[.val (.int .i64) [] []]
def uj:Entry:=⟨200,oK,yx,fun n (c:Cont (kin oK))=>lG n c.1 c.2.1⟩
def y8:Hint:=⟨0,[],[],[],[(38,some 8,oO)],[],[],[],[]⟩
theorem Fh:∀n (c:Cont (kin oK)),ko T y8 Tryz.f200 oK yx n c=uj.F n c:=by intro n c; kernel_rfl
theorem Fx [Fr] (n:Nat):aj Tryz.prog n uj:=ak mixed aL Tryz.func200 (by kernel_rfl) (hi:=y8) (aa (wZ n) aD) Fh
def nX (n:Nat) (a0:List ru) (a1:Int):Option (Int×Unit):=(if decide ((IntKind.i64.wrap (a1 - (a0.length:Int)))<(0:Int))=true then some ((-1:Int),()) else (rounds (fun L1 (v1:(List ru)×Int×Int×Unit)=>(if decide (v1.2.2.1<(v1.1.length:Int))=true then (if aI v1.2.2.1 v1.1.length then ((lG n (v1.1.getD v1.2.2.1.toNat kC) v1.2.1).bind fun r2=>(if decide (r2.1<(0:Int))=true then some ((-1:Int),()) else L1 (v1.1,r2.1,IntKind.i64.wrap (v1.2.2.1+(1:Int)),()))) else none) else some (v1.2.1,()))) n (a0,IntKind.i64.wrap (a1 - (a0.length:Int)),(0:Int),())))
def mZ:List dI:=[.val (.sl 227 zb) [], .val (.int .i64) []]
def xI:List nO:=[.val (.int .i64) [] []]
def rW:Entry:=⟨170,mZ,xI,fun n (c:Cont (kin mZ))=>nX n c.1 c.2.1⟩
def xX:Hint:=⟨0,[],[(0,[0,1,5],[])],[],[(200,some 23,uj)],[],[],[],[]⟩
theorem DZ:∀n (c:Cont (kin mZ)),ko T xX Tryz.f170 mZ xI n c=rW.F n c:=by intro n c; kernel_rfl
theorem Ec [Fr] (n:Nat):aj Tryz.prog n rW:=ak mixed aL Tryz.func170 (by kernel_rfl) (hi:=xX) (aa (Fx n) aD) DZ
def sw (n:Nat) (a0:dP) (a1:Int):Option (Int×Unit):=(if decide ((IntKind.i64.wrap (a1 - (a0.1.length:Int)))<(0:Int))=true then some ((-1:Int),()) else ((nX n a0.2.2.2.1 (IntKind.i64.wrap (a1 - (a0.1.length:Int)))).bind fun r1=>(if decide (r1.1<(0:Int))=true then some ((-1:Int),()) else some (r1.1,()))))
def u6:List dI:=[.val IQ [], .val (.int .i64) []]
def Dc:List nO:=[.val (.int .i64) [] []]
def zQ:Entry:=⟨129,u6,Dc,fun n (c:Cont (kin u6))=>sw n c.1 c.2.1⟩
def D7:Hint:=⟨0,[],[],[],[(170,some 15,rW)],[],[],[],[]⟩
theorem ME:∀n (c:Cont (kin u6)),ko T D7 Tryz.f129 u6 Dc n c=zQ.F n c:=by intro n c; kernel_rfl
theorem MH [Fr] (n:Nat):aj Tryz.prog n zQ:=ak mixed aL Tryz.func129 (by kernel_rfl) (hi:=D7) (aa (Ec n) aD) ME
def uO (n:Nat) (a0:List dP) (a1:Int):Option (Int×Unit):=(if decide ((IntKind.i64.wrap (a1 - (a0.length:Int)))<(0:Int))=true then some ((-1:Int),()) else (rounds (fun L1 (v1:(List dP)×Int×Int×Unit)=>(if decide (v1.2.2.1<(v1.1.length:Int))=true then (if aI v1.2.2.1 v1.1.length then ((sw n (v1.1.getD v1.2.2.1.toNat dF) v1.2.1).bind fun r2=>(if decide (r2.1<(0:Int))=true then some ((-1:Int),()) else L1 (v1.1,r2.1,IntKind.i64.wrap (v1.2.2.1+(1:Int)),()))) else none) else some (v1.2.1,()))) n (a0,IntKind.i64.wrap (a1 - (a0.length:Int)),(0:Int),())))
def tH:List dI:=[.val (.sl 168 IQ) [], .val (.int .i64) []]
def Cc:List nO:=[.val (.int .i64) [] []]
def yF:Entry:=⟨94,tH,Cc,fun n (c:Cont (kin tH))=>uO n c.1 c.2.1⟩
def CW:Hint:=⟨0,[],[(0,[0,1,5],[])],[],[(129,some 23,zQ)],[],[],[],[]⟩
theorem KG:∀n (c:Cont (kin tH)),ko T CW Tryz.f94 tH Cc n c=yF.F n c:=by intro n c; kernel_rfl
theorem KM [Fr] (n:Nat):aj Tryz.prog n yF:=ak mixed aL Tryz.func94 (by kernel_rfl) (hi:=CW) (aa (MH n) aD) KG
def wV (n:Nat) (a0:fG) (a1:Int):Option (Int×Unit):=((uO n a0.2.1 a1).bind fun r1=>(if decide (r1.1<(0:Int))=true then some ((-1:Int),()) else some (r1.1,())))
def qV:List dI:=[.val Qu [], .val (.int .i64) []]
def A9:List nO:=[.val (.int .i64) [] []]
def wR:Entry:=⟨39,qV,A9,fun n (c:Cont (kin qV))=>wV n c.1 c.2.1⟩
def Br:Hint:=⟨0,[],[],[],[(94,some 8,yF)],[],[],[],[]⟩
theorem Ip:∀n (c:Cont (kin qV)),ko T Br Tryz.f39 qV A9 n c=wR.F n c:=by intro n c; kernel_rfl
theorem IB [Fr] (n:Nat):aj Tryz.prog n wR:=ak mixed aL Tryz.func39 (by kernel_rfl) (hi:=Br) (aa (KM n) aD) Ip
def sD (n:Nat) (a0:BB) (a1:Int):Option (Int×Unit):=((lF n a0.2.1 a1).bind fun r1=>(if decide (r1.1<(0:Int))=true then some ((-1:Int),()) else ((lF n a0.2.2.1 r1.1).bind fun r2=>(if decide (r2.1<(0:Int))=true then some ((-1:Int),()) else ((wV n a0.2.2.2.1 r2.1).bind fun r3=>(if decide (r3.1<(0:Int))=true then some ((-1:Int),()) else some (r3.1,())))))))
def qW:List dI:=[.val Oo [], .val (.int .i64) []]
def Ba:List nO:=[.val (.int .i64) [] []]
def wS:Entry:=⟨8,qW,Ba,fun n (c:Cont (kin qW))=>sD n c.1 c.2.1⟩
def Bt:Hint:=⟨0,[],[],[],[(38,some 8,oO),(38,some 14,oO),(39,some 20,wR)],[],[],[],[]⟩
theorem Iq:∀n (c:Cont (kin qW)),ko T Bt Tryz.f8 qW Ba n c=wS.F n c:=by intro n c; kernel_rfl
theorem IC [Fr] (n:Nat):aj Tryz.prog n wS:=ak mixed aL Tryz.func8 (by kernel_rfl) (hi:=Bt) (aa (wZ n) (aa (wZ n) (aa (IB n) aD))) Iq
def lH (n:Nat) (a0:List Int):Option ((List Int)×Unit):=(if (a0.length:Int)=(a0.length:Int)∧0≤(a0.length:Int)∧(a0.length:Int) * 1≤140737488355328 then (rounds (fun L1 (v1:(List Int)×Int×(List Int)×Unit)=>(if decide (v1.2.1<(v1.1.length:Int))=true then (if aI v1.2.1 v1.1.length then (if aI v1.2.1 v1.2.2.1.length then L1 (v1.1,IntKind.i64.wrap (v1.2.1+(1:Int)),v1.2.2.1.set v1.2.1.toNat (v1.1.getD v1.2.1.toNat (0:Int)),()) else none) else none) else some (v1.2.2.1,()))) n (a0,(0:Int),List.replicate (a0.length:Int).toNat (0:Int),())) else none)
def qX:List dI:=[.val (.sl 5 (.int .u8)) []]
def Bb:List nO:=[.own (.sl 5 (.int .u8)) [5] [] []]
def oP:Entry:=⟨41,qX,Bb,fun n (c:Cont (kin qX))=>lH n c.1⟩
def Bu:Hint:=⟨0,[],[(0,[0,3,4],[226])],[],[],[],[],[],[]⟩
theorem Ir:∀n (c:Cont (kin qX)),ko T Bu Tryz.f41 qX Bb n c=oP.F n c:=by intro n c; kernel_rfl
theorem w9 [Fr] (n:Nat):aj Tryz.prog n oP:=ak mixed aL Tryz.func41 (by kernel_rfl) (hi:=Bu) aD Ir
def lI (n:Nat) (a0:ru):Option (ru×Unit):=((lH n a0.2.2.2.1).bind fun r1=>some ((a0.1,a0.2.1,a0.2.2.1,r1.1,()),()))
def oL:List dI:=[.val zb []]
def yz:List nO:=[.own zb [5] [] []]
def um:Entry:=⟨201,oL,yz,fun n (c:Cont (kin oL))=>lI n c.1⟩
def y9:Hint:=⟨0,[17],[],[],[(41,some 15,oP)],[],[],[],[]⟩
theorem Fj:∀n (c:Cont (kin oL)),ko T y9 Tryz.f201 oL yz n c=um.F n c:=by intro n c; kernel_rfl
theorem Fy [Fr] (n:Nat):aj Tryz.prog n um:=ak mixed aL Tryz.func201 (by kernel_rfl) (hi:=y9) (aa (w9 n) aD) Fj
def nY (n:Nat) (a0:List ru):Option ((List ru)×Unit):=(if (a0.length:Int)=(a0.length:Int)∧0≤(a0.length:Int)∧(a0.length:Int) * 48≤140737488355328 then (rounds (fun L1 (v1:(List ru)×Int×(List ru)×Unit)=>(if decide (v1.2.1<(v1.1.length:Int))=true then (if aI v1.2.1 v1.1.length then ((lI n (v1.1.getD v1.2.1.toNat kC)).bind fun r2=>(if aI v1.2.1 v1.2.2.1.length then L1 (v1.1,IntKind.i64.wrap (v1.2.1+(1:Int)),v1.2.2.1.set v1.2.1.toNat r2.1,()) else none)) else none) else some (v1.2.2.1,()))) n (a0,(0:Int),List.replicate (a0.length:Int).toNat kC,())) else none)
def ng:List dI:=[.val (.sl 227 zb) []]
def xJ:List nO:=[.own (.sl 117 zb) [5,117] [] []]
def rX:Entry:=⟨173,ng,xJ,fun n (c:Cont (kin ng))=>nY n c.1⟩
def xY:Hint:=⟨0,[],[(0,[0,3,4],[226])],[],[(201,some 20,um)],[],[],[],[]⟩
theorem D5:∀n (c:Cont (kin ng)),ko T xY Tryz.f173 ng xJ n c=rX.F n c:=by intro n c; kernel_rfl
theorem Ed [Fr] (n:Nat):aj Tryz.prog n rX:=ak mixed aL Tryz.func173 (by kernel_rfl) (hi:=xY) (aa (Fy n) aD) D5
def sF (n:Nat) (a0:dP):Option (dP×Unit):=((nY n a0.2.2.2.1).bind fun r1=>some ((a0.1,a0.2.1,a0.2.2.1,r1.1,()),()))
def u7:List dI:=[.val IQ []]
def De:List nO:=[.own nG [5,117] [] []]
def zR:Entry:=⟨132,u7,De,fun n (c:Cont (kin u7))=>sF n c.1⟩
def D8:Hint:=⟨0,[17],[],[],[(173,some 15,rX)],[],[],[],[]⟩
theorem MF:∀n (c:Cont (kin u7)),ko T D8 Tryz.f132 u7 De n c=zR.F n c:=by intro n c; kernel_rfl
theorem MI [Fr] (n:Nat):aj Tryz.prog n zR:=ak mixed aL Tryz.func132 (by kernel_rfl) (hi:=D8) (aa (Ed n) aD) MF
def uP (n:Nat) (a0:List dP):Option ((List dP)×Unit):=(if (a0.length:Int)=(a0.length:Int)∧0≤(a0.length:Int)∧(a0.length:Int) * 56≤140737488355328 then (rounds (fun L1 (v1:(List dP)×fG)=>(if decide (v1.2.1<(v1.1.length:Int))=true then (if aI v1.2.1 v1.1.length then ((sF n (v1.1.getD v1.2.1.toNat dF)).bind fun r2=>(if aI v1.2.1 v1.2.2.1.length then L1 (v1.1,IntKind.i64.wrap (v1.2.1+(1:Int)),v1.2.2.1.set v1.2.1.toNat r2.1,()) else none)) else none) else some (v1.2.2.1,()))) n (a0,(0:Int),List.replicate (a0.length:Int).toNat dF,())) else none)
def tJ:List dI:=[.val (.sl 168 IQ) []]
def Ce:List nO:=[.own (.sl 114 nG) [5,114,117] [] []]
def yG:Entry:=⟨97,tJ,Ce,fun n (c:Cont (kin tJ))=>uP n c.1⟩
def CX:Hint:=⟨0,[],[(0,[0,3,4],[226])],[],[(132,some 20,zR)],[],[],[],[]⟩
theorem KH:∀n (c:Cont (kin tJ)),ko T CX Tryz.f97 tJ Ce n c=yG.F n c:=by intro n c; kernel_rfl
theorem KN [Fr] (n:Nat):aj Tryz.prog n yG:=ak mixed aL Tryz.func97 (by kernel_rfl) (hi:=CX) (aa (MI n) aD) KH
def sG (n:Nat) (a0:fG):Option (fG×Unit):=((uP n a0.2.1).bind fun r1=>some ((a0.1,r1.1,()),()))
def qY:List dI:=[.val Qu []]
def Bc:List nO:=[.own qo [5,114,117] [] []]
def wT:Entry:=⟨42,qY,Bc,fun n (c:Cont (kin qY))=>sG n c.1⟩
def Bv:Hint:=⟨0,[11],[],[],[(97,some 9,yG)],[],[],[],[]⟩
theorem Iu:∀n (c:Cont (kin qY)),ko T Bv Tryz.f42 qY Bc n c=wT.F n c:=by intro n c; kernel_rfl
theorem IE [Fr] (n:Nat):aj Tryz.prog n wT:=ak mixed aL Tryz.func42 (by kernel_rfl) (hi:=Bv) (aa (KN n) aD) Iu
def jr (n:Nat) (a0:BB):Option (BB×Unit):=((lH n a0.2.1).bind fun r1=>((lH n a0.2.2.1).bind fun r2=>((sG n a0.2.2.2.1).bind fun r3=>some ((a0.1,r1.1,r2.1,r3.1,()),()))))
def qZ:List dI:=[.val Oo []]
def Bd:List nO:=[.own Dl [5,114,117] [] []]
def kR:Entry:=⟨10,qZ,Bd,fun n (c:Cont (kin qZ))=>jr n c.1⟩
def Bw:Hint:=⟨0,[19],[],[],[(41,some 9,oP),(41,some 13,oP),(42,some 17,wT)],[],[],[],[]⟩
theorem Iw:∀n (c:Cont (kin qZ)),ko T Bw Tryz.f10 qZ Bd n c=kR.F n c:=by intro n c; kernel_rfl
theorem sQ [Fr] (n:Nat):aj Tryz.prog n kR:=ak mixed aL Tryz.func10 (by kernel_rfl) (hi:=Bw) (aa (w9 n) (aa (w9 n) (aa (IE n) aD))) Iw
def bQ (n:Nat) (a0:Int) (a1:Int) (a2:Int):Option (Bool×Unit):=(if decide (a0≥a1)=true then some (decide (a0≤a2),()) else some (false,()))
def Si:Entry:=⟨78,[.val (.int .i64) [], .val (.int .i64) [], .val (.int .i64) []],[.val .bool [] []],fun n c=>bQ n c.1 c.2.1 c.2.2.1⟩
def H_0:Hint:=⟨0,[],[],[],[],[],[],[],[]⟩
theorem D_0:iy T H_0 Tryz.f78 Si:=by intro n c; kernel_rfl
theorem Vt [Fr] (n:Nat):aj Tryz.prog n Si:=ak mixed aL Tryz.func78 (by kernel_rfl) (hi:=H_0) aD D_0
def j6 (n:Nat) (a0:List Int):Option (Bool×Unit):=(rounds (fun L1 (v1:Zt0)=>(if decide (v1.2.1<(v1.1.length:Int))=true then (if aI v1.2.1 v1.1.length then (if decide ((v1.1.getD v1.2.1.toNat 0)<(97:Int))=true then some (false,()) else (if aI v1.2.1 v1.1.length then (if decide ((v1.1.getD v1.2.1.toNat 0)>(122:Int))=true then some (false,()) else L1 (v1.1,IntKind.i64.wrap (v1.2.1+(1:Int)),())) else none)) else none) else ((bQ n (v1.1.length:Int) (1:Int) (8:Int)).bind fun r2=>some (r2.1,())))) n (a0,(0:Int),()))
def E_1:Entry:=⟨139,[.val .str []],[.val .bool [] []],fun n c=>j6 n c.1⟩
def H_1:Hint:=⟨0,[],[(0,[0,3],[])],[],[(78,some 22,Si)],[],[],[],[]⟩
theorem D_1:iy T H_1 Tryz.f139 E_1:=by intro n c; kernel_rfl
theorem K_1 [Fr] (n:Nat):aj Tryz.prog n E_1:=ak mixed aL Tryz.func139 (by kernel_rfl) (hi:=H_1) (aa (Vt n) aD) D_1
def gI (n:Nat) (a0:ru):Option (Int×Unit):=((bQ n a0.1 (1:Int) (999:Int)).bind fun r1=>(if (!r1.1)=true then some ((3:Int),()) else ((bQ n a0.2.1 (0:Int) (15:Int)).bind fun r2=>(if (!r2.1)=true then some ((3:Int),()) else ((bQ n a0.2.2.1 (0:Int) (9999:Int)).bind fun r3=>(if (!r3.1)=true then some ((3:Int),()) else (if decide ((a0.2.2.2.1.length:Int)>(400:Int))=true then some ((2:Int),()) else some ((0:Int),()))))))))
def E_2:Entry:=⟨171,[.ro zb],[.val (.int .i64) [] []],fun n c=>gI n c.1⟩
def H_2:Hint:=⟨0,[],[],[],[(78,some 7,Si),(78,some 14,Si),(78,some 22,Si)],[],[],[],[]⟩
theorem D_2:iy T H_2 Tryz.f171 E_2:=by intro n c; kernel_rfl
theorem K_2 [Fr] (n:Nat):aj Tryz.prog n E_2:=ak mixed aL Tryz.func171 (by kernel_rfl) (hi:=H_2) (aa (Vt n) (aa (Vt n) (aa (Vt n) aD))) D_2
def mH (n:Nat) (a0:dP):Option (Int×Unit):=((j6 n a0.1).bind fun r1=>(if (!r1.1)=true then some ((5:Int),()) else ((bQ n a0.2.1 (1:Int) (999:Int)).bind fun r2=>(if (!r2.1)=true then some ((3:Int),()) else ((bQ n a0.2.2.1 (1:Int) (1000:Int)).bind fun r3=>(if (!r3.1)=true then some ((3:Int),()) else (if decide ((a0.2.2.2.1.length:Int)>(6:Int))=true then some ((2:Int),()) else (rounds (fun L4 (v4:dP×Int×Unit)=>(if decide (v4.2.1<(v4.1.2.2.2.1.length:Int))=true then (if aI v4.2.1 v4.1.2.2.2.1.length then ((gI n (v4.1.2.2.2.1.getD v4.2.1.toNat kC)).bind fun r5=>(if (!decide (r5.1=(0:Int)))=true then some (r5.1,()) else (if decide (v4.2.1>(0:Int))=true then (if aI v4.2.1 v4.1.2.2.2.1.length then (if aI (IntKind.i64.wrap (v4.2.1 - (1:Int))) v4.1.2.2.2.1.length then (if decide (((v4.1.2.2.2.1.getD v4.2.1.toNat kC).1)≤((v4.1.2.2.2.1.getD (IntKind.i64.wrap (v4.2.1 - (1:Int))).toNat kC).1))=true then some ((1:Int),()) else (if aI v4.2.1 v4.1.2.2.2.1.length then (if decide (((v4.1.2.2.2.1.getD v4.2.1.toNat kC).1)≥v4.1.2.2.1)=true then some ((1:Int),()) else L4 (v4.1,IntKind.i64.wrap (v4.2.1+(1:Int)),())) else none)) else none) else none) else (if aI v4.2.1 v4.1.2.2.2.1.length then (if decide (((v4.1.2.2.2.1.getD v4.2.1.toNat kC).1)≥v4.1.2.2.1)=true then some ((1:Int),()) else L4 (v4.1,IntKind.i64.wrap (v4.2.1+(1:Int)),())) else none)))) else none) else some ((0:Int),()))) n (a0,(0:Int),())))))))))
def E_3:Entry:=⟨130,[.ro nG],[.val (.int .i64) [] []],fun n c=>mH n c.1⟩
def H_3:Hint:=⟨0,[],[(0,[0,3],[])],[],[(139,some 9,E_1),(78,some 15,Si),(78,some 22,Si),(171,some 46,E_2)],[],[],[],[]⟩
theorem D_3:iy T H_3 Tryz.f130 E_3:=by intro n c; kernel_rfl
theorem K_3 [Fr] (n:Nat):aj Tryz.prog n E_3:=ak mixed aL Tryz.func130 (by kernel_rfl) (hi:=H_3) (aa (K_1 n) (aa (Vt n) (aa (Vt n) (aa (K_2 n) aD)))) D_3
def jv (n:Nat) (a0:fG):Option (Int×Unit):=((bQ n a0.1 (1:Int) (1000:Int)).bind fun r1=>(if (!r1.1)=true then some ((3:Int),()) else (if decide ((a0.2.1.length:Int)>(3:Int))=true then some ((2:Int),()) else (rounds (fun L2 (v2:fG×Int×Unit)=>(if decide (v2.2.1<(v2.1.2.1.length:Int))=true then (if aI v2.2.1 v2.1.2.1.length then ((mH n (v2.1.2.1.getD v2.2.1.toNat dF)).bind fun r3=>(if (!decide (r3.1=(0:Int)))=true then some (r3.1,()) else (if aI v2.2.1 v2.1.2.1.length then (if decide ((((v2.1.2.1.getD v2.2.1.toNat dF).2).1)≥v2.1.1)=true then some ((9:Int),()) else (rounds (fun L4 (v4:fG×Int×Int×Unit)=>(if decide (v4.2.2.1<v4.2.1)=true then (if aI v4.2.2.1 v4.1.2.1.length then (if aI v4.2.1 v4.1.2.1.length then (if decide (((v4.1.2.1.getD v4.2.2.1.toNat dF).1)=((v4.1.2.1.getD v4.2.1.toNat dF).1))=true then some ((6:Int),()) else (if aI v4.2.2.1 v4.1.2.1.length then (if aI v4.2.1 v4.1.2.1.length then (if decide ((((v4.1.2.1.getD v4.2.2.1.toNat dF).2).1)=(((v4.1.2.1.getD v4.2.1.toNat dF).2).1))=true then some ((6:Int),()) else L4 (v4.1,v4.2.1,IntKind.i64.wrap (v4.2.2.1+(1:Int)),())) else none) else none)) else none) else none) else L2 (v4.1,IntKind.i64.wrap (v4.2.1+(1:Int)),()))) n (v2.1,v2.2.1,(0:Int),()))) else none))) else none) else some ((0:Int),()))) n (a0,(0:Int),())))))
def E_4:Entry:=⟨95,[.ro qo],[.val (.int .i64) [] []],fun n c=>jv n c.1⟩
def H_4:Hint:=⟨0,[],[(0,[0,3],[]),(2,[0,3,5],[])],[],[(78,some 10,Si),(130,some 33,E_3)],[],[],[],[]⟩
theorem D_4:iy T H_4 Tryz.f95 E_4:=by intro n c; kernel_rfl
theorem K_4 [Fr] (n:Nat):aj Tryz.prog n E_4:=ak mixed aL Tryz.func95 (by kernel_rfl) (hi:=H_4) (aa (Vt n) (aa (K_3 n) aD)) D_4
def dh (n:Nat) (a0:Zt3):Option (Int×Zt3×Unit):=(if decide (a0.2.1≥(a0.1.length:Int))=true then some ((0:Int),(a0.1,a0.2.1,true,a0.2.2.2),()) else (if aI (IntKind.i64.wrap ((IntKind.i64.wrap (a0.2.1+(1:Int))) - (1:Int))) a0.1.length then some (IntKind.i64.wrap (a0.1.getD (IntKind.i64.wrap ((IntKind.i64.wrap (a0.2.1+(1:Int))) - (1:Int))).toNat (0:Int)),(a0.1,IntKind.i64.wrap (a0.2.1+(1:Int)),a0.2.2),()) else none))
def VH:Entry:=⟨175,[.rw TS [] [4294967295] []],[.val (.int .i64) [] []],fun n c=>dh n c.1⟩
def H_5:Hint:=⟨0,[],[],[],[],[],[],[],[]⟩
theorem D_5:iy T H_5 Tryz.f175 VH:=by intro n c; kernel_rfl
theorem YX [Fr] (n:Nat):aj Tryz.prog n VH:=ak mixed aL Tryz.func175 (by kernel_rfl) (hi:=H_5) aD D_5
def gW (n:Nat) (a0:Zt3) (a1:Int):Option ((List Int)×Zt3×Unit):=(rounds (fun L1 (v1:Int×Zt3×(List Int)×Unit)=>(if decide (v1.1>(0:Int))=true then (if (!v1.2.1.2.2.1)=true then ((dh n v1.2.1).bind fun r2=>(if (v1.2.2.1.length+[IntKind.u8.wrap r2.1].length) * 1≤140737488355328 then L1 (IntKind.i64.wrap (v1.1 - (1:Int)),r2.2.1,v1.2.2.1++[IntKind.u8.wrap r2.1],()) else none)) else some (v1.2.2.1,v1.2.1,())) else some (v1.2.2.1,v1.2.1,()))) n (a1,a0,([]:List Int),()))
def E_6:Entry:=⟨176,[.rw TS [] [4294967295] [], .val (.int .i64) []],[.own (.sl 5 (.int .u8)) [5] [] []],fun n c=>gW n c.1 c.2.1⟩
def H_6:Hint:=⟨0,[],[(0,[0,1,5],[0,194])],[],[(175,some 20,VH)],[],[],[],[]⟩
theorem D_6:iy T H_6 Tryz.f176 E_6:=by intro n c; kernel_rfl
theorem K_6 [Fr] (n:Nat):aj Tryz.prog n E_6:=ak mixed aL Tryz.func176 (by kernel_rfl) (hi:=H_6) (aa (YX n) aD) D_6
def fQ (n:Nat) (a0:Zt3):Option (Int×Zt3×Unit):=((dh n a0).bind fun r1=>((dh n r1.2.1).bind fun r2=>some (IntKind.i64.wrap ((IntKind.i64.wrap (r1.1 * (256:Int)))+r2.1),r2.2.1,())))
def E_7:Entry:=⟨177,[.rw TS [] [4294967295] []],[.val (.int .i64) [] []],fun n c=>fQ n c.1⟩
def H_7:Hint:=⟨0,[],[],[],[(175,some 5,VH),(175,some 9,VH)],[],[],[],[]⟩
theorem D_7:iy T H_7 Tryz.f177 E_7:=by intro n c; kernel_rfl
theorem K_7 [Fr] (n:Nat):aj Tryz.prog n E_7:=ak mixed aL Tryz.func177 (by kernel_rfl) (hi:=H_7) (aa (YX n) (aa (YX n) aD)) D_7
def uX (n:Nat) (a0:List Int):Option (gX×Unit):=((dh n (a0,(2:Int),false,())).bind fun r1=>((dh n r1.2.1).bind fun r2=>((gW n r2.2.1 r2.1).bind fun r3=>((dh n r3.2.1).bind fun r4=>((gW n r4.2.1 r4.1).bind fun r5=>((dh n r5.2.1).bind fun r6=>(rounds (fun L7 (v7:Int×gX×Zt3×gX×Unit)=>(if decide (v7.1>(0:Int))=true then (if (!v7.2.2.1.2.2.1)=true then ((fQ n v7.2.2.1).bind fun r8=>(if (v7.2.2.2.1.2.2.2.1.length+[r8.1].length) * 8≤140737488355328 then L7 (IntKind.i64.wrap (v7.1 - (1:Int)),v7.2.1,r8.2.1,(v7.2.2.2.1.1,v7.2.2.2.1.2.1,v7.2.2.2.1.2.2.1,v7.2.2.2.1.2.2.2.1++[r8.1],v7.2.2.2.1.2.2.2.2),()) else none)) else ((dh n v7.2.2.1).bind fun r9=>((dh n r9.2.1).bind fun ND=>((fQ n ND.2.1).bind fun Ih=>((fQ n Ih.2.1).bind fun Kb=>((gW n Kb.2.1 Kb.1).bind fun NV=>some ((v7.2.2.2.1.1,v7.2.2.2.1.2.1,v7.2.2.2.1.2.2.1,v7.2.2.2.1.2.2.2.1,r9.1,ND.1,Ih.1,NV.1,v7.2.2.2.1.2.2.2.2.2.2.2.2),()))))))) else ((dh n v7.2.2.1).bind fun Yc=>((dh n Yc.2.1).bind fun Tq=>((fQ n Tq.2.1).bind fun r16=>((fQ n r16.2.1).bind fun r17=>((gW n r17.2.1 r17.1).bind fun r18=>some ((v7.2.2.2.1.1,v7.2.2.2.1.2.1,v7.2.2.2.1.2.2.1,v7.2.2.2.1.2.2.2.1,Yc.1,Tq.1,r16.1,r18.1,v7.2.2.2.1.2.2.2.2.2.2.2.2),())))))))) n (r6.1,Eg,r6.2.1,(r1.1,r3.1,r5.1,([]:List Int),(0:Int),(0:Int),(0:Int),([]:List Int),()),()))))))))
def E_8:Entry:=⟨141,[.val (.sl 5 (.int .u8)) []],[.own jI [2,5] [] []],fun n c=>uX n c.1⟩
def H_8:Hint:=⟨0,[30,45],[(0,[2,3,4,5],[66,98,130])],[],[(175,some 9,VH),(175,some 11,VH),(176,some 12,E_6),(175,some 15,VH),(176,some 16,E_6),(175,some 19,VH),(177,some 31,E_7),(175,some 35,VH),(175,some 37,VH),(177,some 39,E_7),(177,some 41,E_7),(176,some 43,E_6)],[],[],[],[]⟩
theorem D_8:iy T H_8 Tryz.f141 E_8:=by intro n c; kernel_rfl
theorem K_8 [Fr] (n:Nat):aj Tryz.prog n E_8:=ak mixed aL Tryz.func141 (by kernel_rfl) (hi:=H_8) (aa (YX n) (aa (YX n) (aa (K_6 n) (aa (YX n) (aa (K_6 n) (aa (YX n) (aa (K_7 n) (aa (YX n) (aa (YX n) (aa (K_7 n) (aa (K_7 n) (aa (K_6 n) aD)))))))))))) D_8
def iB (n:Nat) (a0:Int):Option (Bool×Unit):=(if decide (a0=(5:Int))=true then some (true,()) else some (decide (a0=(6:Int)),()))
def E_9:Entry:=⟨167,[.val (.int .i64) []],[.val .bool [] []],fun n c=>iB n c.1⟩
def H_9:Hint:=⟨0,[],[],[],[],[],[],[],[]⟩
theorem D_9:iy T H_9 Tryz.f167 E_9:=by intro n c; kernel_rfl
theorem K_9 [Fr] (n:Nat):aj Tryz.prog n E_9:=ak mixed aL Tryz.func167 (by kernel_rfl) (hi:=H_9) aD D_9
def uU (n:Nat) (a0:gX):Option (Bool×Unit):=((bQ n a0.1 (1:Int) (7:Int)).bind fun r1=>(if (!r1.1)=true then some (false,()) else ((iB n a0.1).bind fun r2=>(if (!r2.1)=true then (if (!decide (a0.2.2.1=([]:List Int)))=true then some (false,()) else ((iB n a0.1).bind fun r3=>(if (!r3.1)=true then (if (!decide (a0.1=(4:Int)))=true then (if decide ((a0.2.2.2.1.length:Int)>(0:Int))=true then some (false,()) else (if (!decide (a0.1=(4:Int)))=true then (if (!decide (a0.2.2.2.2.1=(0:Int)))=true then some (false,()) else (if (!decide (a0.1=(3:Int)))=true then (if (!decide (a0.2.2.2.2.2.2.1=(0:Int)))=true then some (false,()) else (if decide ((a0.2.2.2.2.2.2.2.1.length:Int)>(0:Int))=true then some (false,()) else (if decide (a0.1=(3:Int))=true then some (true,()) else (if decide (a0.1=(4:Int))=true then some (true,()) else some (decide (a0.2.2.2.2.2.1=(0:Int)),()))))) else (if decide (a0.1=(3:Int))=true then some (true,()) else (if decide (a0.1=(4:Int))=true then some (true,()) else some (decide (a0.2.2.2.2.2.1=(0:Int)),()))))) else (if (!decide (a0.1=(3:Int)))=true then (if (!decide (a0.2.2.2.2.2.2.1=(0:Int)))=true then some (false,()) else (if decide ((a0.2.2.2.2.2.2.2.1.length:Int)>(0:Int))=true then some (false,()) else (if decide (a0.1=(3:Int))=true then some (true,()) else (if decide (a0.1=(4:Int))=true then some (true,()) else some (decide (a0.2.2.2.2.2.1=(0:Int)),()))))) else (if decide (a0.1=(3:Int))=true then some (true,()) else (if decide (a0.1=(4:Int))=true then some (true,()) else some (decide (a0.2.2.2.2.2.1=(0:Int)),())))))) else (if (!decide (a0.1=(4:Int)))=true then (if (!decide (a0.2.2.2.2.1=(0:Int)))=true then some (false,()) else (if (!decide (a0.1=(3:Int)))=true then (if (!decide (a0.2.2.2.2.2.2.1=(0:Int)))=true then some (false,()) else (if decide ((a0.2.2.2.2.2.2.2.1.length:Int)>(0:Int))=true then some (false,()) else (if decide (a0.1=(3:Int))=true then some (true,()) else (if decide (a0.1=(4:Int))=true then some (true,()) else some (decide (a0.2.2.2.2.2.1=(0:Int)),()))))) else (if decide (a0.1=(3:Int))=true then some (true,()) else (if decide (a0.1=(4:Int))=true then some (true,()) else some (decide (a0.2.2.2.2.2.1=(0:Int)),()))))) else (if (!decide (a0.1=(3:Int)))=true then (if (!decide (a0.2.2.2.2.2.2.1=(0:Int)))=true then some (false,()) else (if decide ((a0.2.2.2.2.2.2.2.1.length:Int)>(0:Int))=true then some (false,()) else (if decide (a0.1=(3:Int))=true then some (true,()) else (if decide (a0.1=(4:Int))=true then some (true,()) else some (decide (a0.2.2.2.2.2.1=(0:Int)),()))))) else (if decide (a0.1=(3:Int))=true then some (true,()) else (if decide (a0.1=(4:Int))=true then some (true,()) else some (decide (a0.2.2.2.2.2.1=(0:Int)),())))))) else (if (!decide (a0.1=(4:Int)))=true then (if (!decide (a0.2.2.2.2.1=(0:Int)))=true then some (false,()) else (if (!decide (a0.1=(3:Int)))=true then (if (!decide (a0.2.2.2.2.2.2.1=(0:Int)))=true then some (false,()) else (if decide ((a0.2.2.2.2.2.2.2.1.length:Int)>(0:Int))=true then some (false,()) else (if decide (a0.1=(3:Int))=true then some (true,()) else (if decide (a0.1=(4:Int))=true then some (true,()) else some (decide (a0.2.2.2.2.2.1=(0:Int)),()))))) else (if decide (a0.1=(3:Int))=true then some (true,()) else (if decide (a0.1=(4:Int))=true then some (true,()) else some (decide (a0.2.2.2.2.2.1=(0:Int)),()))))) else (if (!decide (a0.1=(3:Int)))=true then (if (!decide (a0.2.2.2.2.2.2.1=(0:Int)))=true then some (false,()) else (if decide ((a0.2.2.2.2.2.2.2.1.length:Int)>(0:Int))=true then some (false,()) else (if decide (a0.1=(3:Int))=true then some (true,()) else (if decide (a0.1=(4:Int))=true then some (true,()) else some (decide (a0.2.2.2.2.2.1=(0:Int)),()))))) else (if decide (a0.1=(3:Int))=true then some (true,()) else (if decide (a0.1=(4:Int))=true then some (true,()) else some (decide (a0.2.2.2.2.2.1=(0:Int)),())))))))) else ((iB n a0.1).bind fun r4=>(if (!r4.1)=true then (if (!decide (a0.1=(4:Int)))=true then (if decide ((a0.2.2.2.1.length:Int)>(0:Int))=true then some (false,()) else (if (!decide (a0.1=(4:Int)))=true then (if (!decide (a0.2.2.2.2.1=(0:Int)))=true then some (false,()) else (if (!decide (a0.1=(3:Int)))=true then (if (!decide (a0.2.2.2.2.2.2.1=(0:Int)))=true then some (false,()) else (if decide ((a0.2.2.2.2.2.2.2.1.length:Int)>(0:Int))=true then some (false,()) else (if decide (a0.1=(3:Int))=true then some (true,()) else (if decide (a0.1=(4:Int))=true then some (true,()) else some (decide (a0.2.2.2.2.2.1=(0:Int)),()))))) else (if decide (a0.1=(3:Int))=true then some (true,()) else (if decide (a0.1=(4:Int))=true then some (true,()) else some (decide (a0.2.2.2.2.2.1=(0:Int)),()))))) else (if (!decide (a0.1=(3:Int)))=true then (if (!decide (a0.2.2.2.2.2.2.1=(0:Int)))=true then some (false,()) else (if decide ((a0.2.2.2.2.2.2.2.1.length:Int)>(0:Int))=true then some (false,()) else (if decide (a0.1=(3:Int))=true then some (true,()) else (if decide (a0.1=(4:Int))=true then some (true,()) else some (decide (a0.2.2.2.2.2.1=(0:Int)),()))))) else (if decide (a0.1=(3:Int))=true then some (true,()) else (if decide (a0.1=(4:Int))=true then some (true,()) else some (decide (a0.2.2.2.2.2.1=(0:Int)),())))))) else (if (!decide (a0.1=(4:Int)))=true then (if (!decide (a0.2.2.2.2.1=(0:Int)))=true then some (false,()) else (if (!decide (a0.1=(3:Int)))=true then (if (!decide (a0.2.2.2.2.2.2.1=(0:Int)))=true then some (false,()) else (if decide ((a0.2.2.2.2.2.2.2.1.length:Int)>(0:Int))=true then some (false,()) else (if decide (a0.1=(3:Int))=true then some (true,()) else (if decide (a0.1=(4:Int))=true then some (true,()) else some (decide (a0.2.2.2.2.2.1=(0:Int)),()))))) else (if decide (a0.1=(3:Int))=true then some (true,()) else (if decide (a0.1=(4:Int))=true then some (true,()) else some (decide (a0.2.2.2.2.2.1=(0:Int)),()))))) else (if (!decide (a0.1=(3:Int)))=true then (if (!decide (a0.2.2.2.2.2.2.1=(0:Int)))=true then some (false,()) else (if decide ((a0.2.2.2.2.2.2.2.1.length:Int)>(0:Int))=true then some (false,()) else (if decide (a0.1=(3:Int))=true then some (true,()) else (if decide (a0.1=(4:Int))=true then some (true,()) else some (decide (a0.2.2.2.2.2.1=(0:Int)),()))))) else (if decide (a0.1=(3:Int))=true then some (true,()) else (if decide (a0.1=(4:Int))=true then some (true,()) else some (decide (a0.2.2.2.2.2.1=(0:Int)),())))))) else (if (!decide (a0.1=(4:Int)))=true then (if (!decide (a0.2.2.2.2.1=(0:Int)))=true then some (false,()) else (if (!decide (a0.1=(3:Int)))=true then (if (!decide (a0.2.2.2.2.2.2.1=(0:Int)))=true then some (false,()) else (if decide ((a0.2.2.2.2.2.2.2.1.length:Int)>(0:Int))=true then some (false,()) else (if decide (a0.1=(3:Int))=true then some (true,()) else (if decide (a0.1=(4:Int))=true then some (true,()) else some (decide (a0.2.2.2.2.2.1=(0:Int)),()))))) else (if decide (a0.1=(3:Int))=true then some (true,()) else (if decide (a0.1=(4:Int))=true then some (true,()) else some (decide (a0.2.2.2.2.2.1=(0:Int)),()))))) else (if (!decide (a0.1=(3:Int)))=true then (if (!decide (a0.2.2.2.2.2.2.1=(0:Int)))=true then some (false,()) else (if decide ((a0.2.2.2.2.2.2.2.1.length:Int)>(0:Int))=true then some (false,()) else (if decide (a0.1=(3:Int))=true then some (true,()) else (if decide (a0.1=(4:Int))=true then some (true,()) else some (decide (a0.2.2.2.2.2.1=(0:Int)),()))))) else (if decide (a0.1=(3:Int))=true then some (true,()) else (if decide (a0.1=(4:Int))=true then some (true,()) else some (decide (a0.2.2.2.2.2.1=(0:Int)),())))))))))))
def aaX:Entry:=⟨178,[.ro jI],[.val .bool [] []],fun n c=>uU n c.1⟩
def adG:Hint:=⟨0,[],[],[],[(78,some 7,Si),(167,some 14,E_9),(167,some 28,E_9)],[],[],[],[]⟩
theorem ag9:iy T adG Tryz.f178 aaX:=by intro n c; kernel_rfl
theorem aiE [Fr] (n:Nat):aj Tryz.prog n aaX:=ak mixed aL Tryz.func178 (by kernel_rfl) (hi:=adG) (aa (Vt n) (aa (K_9 n) (aa (K_9 n) aD))) ag9
def qB (n:Nat) (a0:List Int):Option (Bool×Unit):=(rounds (fun L1 (v1:Zt0)=>(if decide (v1.2.1<(v1.1.length:Int))=true then (if aI v1.2.1 v1.1.length then ((bQ n (v1.1.getD v1.2.1.toNat (0:Int)) (1:Int) (999:Int)).bind fun r2=>(if (!r2.1)=true then some (false,()) else (if decide (v1.2.1>(0:Int))=true then (if aI v1.2.1 v1.1.length then (if aI (IntKind.i64.wrap (v1.2.1 - (1:Int))) v1.1.length then (if decide ((v1.1.getD v1.2.1.toNat (0:Int))≤(v1.1.getD (IntKind.i64.wrap (v1.2.1 - (1:Int))).toNat (0:Int)))=true then some (false,()) else L1 (v1.1,IntKind.i64.wrap (v1.2.1+(1:Int)),())) else none) else none) else L1 (v1.1,IntKind.i64.wrap (v1.2.1+(1:Int)),())))) else none) else some (true,()))) n (a0,(0:Int),()))
def aaY:Entry:=⟨138,[.val (.sl 2 (.int .i64)) []],[.val .bool [] []],fun n c=>qB n c.1⟩
def adH:Hint:=⟨0,[],[(0,[0,3],[])],[],[(78,some 14,Si)],[],[],[],[]⟩
theorem aha:iy T adH Tryz.f138 aaY:=by intro n c; kernel_rfl
theorem aiF [Fr] (n:Nat):aj Tryz.prog n aaY:=ak mixed aL Tryz.func138 (by kernel_rfl) (hi:=adH) (aa (Vt n) aD) aha
def oW (n:Nat) (a0:gX):Option (Int×Unit):=((uU n a0).bind fun r1=>(if (!r1.1)=true then some ((1:Int),()) else ((j6 n a0.2.1).bind fun r2=>(if (!r2.1)=true then some ((5:Int),()) else ((iB n a0.1).bind fun r3=>(if r3.1=true then ((j6 n a0.2.2.1).bind fun r4=>(if (!r4.1)=true then some ((5:Int),()) else (if decide ((a0.2.2.2.1.length:Int)>(6:Int))=true then some ((2:Int),()) else ((qB n a0.2.2.2.1).bind fun r5=>(if (!r5.1)=true then some ((3:Int),()) else (if decide (a0.1=(4:Int))=true then ((bQ n a0.2.2.2.2.1 (1:Int) (3:Int)).bind fun r6=>(if (!r6.1)=true then some ((3:Int),()) else ((bQ n a0.2.2.2.2.2.1 (0:Int) (15:Int)).bind fun r7=>(if (!r7.1)=true then some ((3:Int),()) else ((bQ n a0.2.2.2.2.2.2.1 (0:Int) (9999:Int)).bind fun r8=>(if (!r8.1)=true then some ((3:Int),()) else (if decide ((a0.2.2.2.2.2.2.2.1.length:Int)>(400:Int))=true then some ((2:Int),()) else some ((0:Int),())))))))) else ((bQ n a0.2.2.2.2.2.1 (0:Int) (15:Int)).bind fun r9=>(if (!r9.1)=true then some ((3:Int),()) else ((bQ n a0.2.2.2.2.2.2.1 (0:Int) (9999:Int)).bind fun ND=>(if (!ND.1)=true then some ((3:Int),()) else (if decide ((a0.2.2.2.2.2.2.2.1.length:Int)>(400:Int))=true then some ((2:Int),()) else some ((0:Int),())))))))))))) else (if decide ((a0.2.2.2.1.length:Int)>(6:Int))=true then some ((2:Int),()) else ((qB n a0.2.2.2.1).bind fun Ih=>(if (!Ih.1)=true then some ((3:Int),()) else (if decide (a0.1=(4:Int))=true then ((bQ n a0.2.2.2.2.1 (1:Int) (3:Int)).bind fun Kb=>(if (!Kb.1)=true then some ((3:Int),()) else ((bQ n a0.2.2.2.2.2.1 (0:Int) (15:Int)).bind fun NV=>(if (!NV.1)=true then some ((3:Int),()) else ((bQ n a0.2.2.2.2.2.2.1 (0:Int) (9999:Int)).bind fun Yc=>(if (!Yc.1)=true then some ((3:Int),()) else (if decide ((a0.2.2.2.2.2.2.2.1.length:Int)>(400:Int))=true then some ((2:Int),()) else some ((0:Int),())))))))) else ((bQ n a0.2.2.2.2.2.1 (0:Int) (15:Int)).bind fun Tq=>(if (!Tq.1)=true then some ((3:Int),()) else ((bQ n a0.2.2.2.2.2.2.1 (0:Int) (9999:Int)).bind fun r16=>(if (!r16.1)=true then some ((3:Int),()) else (if decide ((a0.2.2.2.2.2.2.2.1.length:Int)>(400:Int))=true then some ((2:Int),()) else some ((0:Int),()))))))))))))))))
def YI:Entry:=⟨142,[.ro jI],[.val (.int .i64) [] []],fun n c=>oW n c.1⟩
def adI:Hint:=⟨0,[],[],[],[(178,some 4,aaX),(139,some 10,E_1),(167,some 17,E_9),(139,some 23,E_1),(138,some 37,aaY),(78,some 50,Si),(78,some 59,Si),(78,some 67,Si)],[],[],[],[]⟩
theorem ahb:iy T adI Tryz.f142 YI:=by intro n c; kernel_rfl
theorem ae8 [Fr] (n:Nat):aj Tryz.prog n YI:=ak mixed aL Tryz.func142 (by kernel_rfl) (hi:=adI) (aa (aiE n) (aa (K_1 n) (aa (K_9 n) (aa (K_1 n) (aa (aiF n) (aa (Vt n) (aa (Vt n) (aa (Vt n) aD)))))))) ahb
def mO (n:Nat) (a0:Int):Option ((List Int)×Unit):=(if (256:Int)≠0 then (if (256:Int)≠0 then some ([IntKind.u8.wrap (IntKind.i64.wrap (a0.tdiv (256:Int))),IntKind.u8.wrap (a0.tmod (256:Int))],()) else none) else none)
def Qg:Entry:=⟨124,[.val (.int .i64) []],[.own (.sl 5 (.int .u8)) [5] [] []],fun n c=>mO n c.1⟩
def adJ:Hint:=⟨0,[],[],[],[],[],[],[],[]⟩
theorem ahc:iy T adJ Tryz.f124 Qg:=by intro n c; kernel_rfl
theorem VV [Fr] (n:Nat):aj Tryz.prog n Qg:=ak mixed aL Tryz.func124 (by kernel_rfl) (hi:=adJ) aD ahc
def wo (n:Nat) (a0:List Int):Option (Int×Unit):=(rounds (fun L1 (v1:(List Int)×Int×Int×Unit)=>(if decide (v1.2.2.1<(v1.1.length:Int))=true then (if aI v1.2.2.1 v1.1.length then (if (65521:Int)≠0 then L1 (v1.1,(IntKind.i64.wrap ((IntKind.i64.wrap (v1.2.1 * (31:Int)))+(IntKind.i64.wrap (v1.1.getD v1.2.2.1.toNat (0:Int))))).tmod (65521:Int),IntKind.i64.wrap (v1.2.2.1+(1:Int)),()) else none) else none) else some (v1.2.1,()))) n (a0,(1:Int),(0:Int),()))
def aaZ:Entry:=⟨125,[.val (.sl 5 (.int .u8)) []],[.val (.int .i64) [] []],fun n c=>wo n c.1⟩
def adK:Hint:=⟨0,[],[(0,[0,3,4],[])],[],[],[],[],[],[]⟩
theorem ahd:iy T adK Tryz.f125 aaZ:=by intro n c; kernel_rfl
theorem aiG [Fr] (n:Nat):aj Tryz.prog n aaZ:=ak mixed aL Tryz.func125 (by kernel_rfl) (hi:=adK) aD ahd
def uW (n:Nat) (a0:gX):Option ((List Int)×Unit):=(if ([(0:Int),(0:Int),IntKind.u8.wrap a0.1,IntKind.u8.wrap (a0.2.1.length:Int)].length+a0.2.1.length) * 1≤140737488355328 then (if (([(0:Int),(0:Int),IntKind.u8.wrap a0.1,IntKind.u8.wrap (a0.2.1.length:Int)]++a0.2.1).length+[IntKind.u8.wrap (a0.2.2.1.length:Int)].length) * 1≤140737488355328 then (if ((([(0:Int),(0:Int),IntKind.u8.wrap a0.1,IntKind.u8.wrap (a0.2.1.length:Int)]++a0.2.1)++[IntKind.u8.wrap (a0.2.2.1.length:Int)]).length+a0.2.2.1.length) * 1≤140737488355328 then (if (((([(0:Int),(0:Int),IntKind.u8.wrap a0.1,IntKind.u8.wrap (a0.2.1.length:Int)]++a0.2.1)++[IntKind.u8.wrap (a0.2.2.1.length:Int)])++a0.2.2.1).length+[IntKind.u8.wrap (a0.2.2.2.1.length:Int)].length) * 1≤140737488355328 then (rounds (fun L1 (v1:gX×Int×(List Int)×Unit)=>(if decide (v1.2.1<(v1.1.2.2.2.1.length:Int))=true then (if aI v1.2.1 v1.1.2.2.2.1.length then ((mO n (v1.1.2.2.2.1.getD v1.2.1.toNat (0:Int))).bind fun r2=>(if (v1.2.2.1.length+r2.1.length) * 1≤140737488355328 then L1 (v1.1,IntKind.i64.wrap (v1.2.1+(1:Int)),v1.2.2.1++r2.1,()) else none)) else none) else (if (v1.2.2.1.length+[IntKind.u8.wrap v1.1.2.2.2.2.1,IntKind.u8.wrap v1.1.2.2.2.2.2.1].length) * 1≤140737488355328 then ((mO n v1.1.2.2.2.2.2.2.1).bind fun r3=>(if ((v1.2.2.1++[IntKind.u8.wrap v1.1.2.2.2.2.1,IntKind.u8.wrap v1.1.2.2.2.2.2.1]).length+r3.1.length) * 1≤140737488355328 then ((mO n (v1.1.2.2.2.2.2.2.2.1.length:Int)).bind fun r4=>(if (((v1.2.2.1++[IntKind.u8.wrap v1.1.2.2.2.2.1,IntKind.u8.wrap v1.1.2.2.2.2.2.1])++r3.1).length+r4.1.length) * 1≤140737488355328 then (if ((((v1.2.2.1++[IntKind.u8.wrap v1.1.2.2.2.2.1,IntKind.u8.wrap v1.1.2.2.2.2.2.1])++r3.1)++r4.1).length+v1.1.2.2.2.2.2.2.2.1.length) * 1≤140737488355328 then ((mO n (IntKind.i64.wrap ((((((v1.2.2.1++[IntKind.u8.wrap v1.1.2.2.2.2.1,IntKind.u8.wrap v1.1.2.2.2.2.2.1])++r3.1)++r4.1)++v1.1.2.2.2.2.2.2.2.1).length:Int)+(2:Int)))).bind fun r5=>(if r5.1.length≤((((v1.2.2.1++[IntKind.u8.wrap v1.1.2.2.2.2.1,IntKind.u8.wrap v1.1.2.2.2.2.2.1])++r3.1)++r4.1)++v1.1.2.2.2.2.2.2.2.1).length then ((wo n (r5.1++((((v1.2.2.1++[IntKind.u8.wrap v1.1.2.2.2.2.1,IntKind.u8.wrap v1.1.2.2.2.2.2.1])++r3.1)++r4.1)++v1.1.2.2.2.2.2.2.2.1).drop r5.1.length)).bind fun r6=>((mO n r6.1).bind fun r7=>(if ((r5.1++((((v1.2.2.1++[IntKind.u8.wrap v1.1.2.2.2.2.1,IntKind.u8.wrap v1.1.2.2.2.2.2.1])++r3.1)++r4.1)++v1.1.2.2.2.2.2.2.2.1).drop r5.1.length).length+r7.1.length) * 1≤140737488355328 then some ((r5.1++((((v1.2.2.1++[IntKind.u8.wrap v1.1.2.2.2.2.1,IntKind.u8.wrap v1.1.2.2.2.2.2.1])++r3.1)++r4.1)++v1.1.2.2.2.2.2.2.2.1).drop r5.1.length)++r7.1,()) else none))) else none)) else none) else none)) else none)) else none))) n (a0,(0:Int),((([(0:Int),(0:Int),IntKind.u8.wrap a0.1,IntKind.u8.wrap (a0.2.1.length:Int)]++a0.2.1)++[IntKind.u8.wrap (a0.2.2.1.length:Int)])++a0.2.2.1)++[IntKind.u8.wrap (a0.2.2.2.1.length:Int)],())) else none) else none) else none) else none)
def aa0:Entry:=⟨91,[.ro jI],[.own (.sl 5 (.int .u8)) [5] [] []],fun n c=>uW n c.1⟩
def adL:Hint:=⟨0,[],[(0,[0,3,4],[514])],[],[(124,some 64,Qg),(124,some 83,Qg),(124,some 91,Qg),(124,some 102,Qg),(125,some 106,aaZ),(124,some 107,Qg)],[],[],[103],[]⟩
theorem ahe:iy T adL Tryz.f91 aa0:=by intro n c; kernel_rfl
theorem aiH [Fr] (n:Nat):aj Tryz.prog n aa0:=ak mixed aL Tryz.func91 (by kernel_rfl) (hi:=adL) (aa (VV n) (aa (VV n) (aa (VV n) (aa (VV n) (aa (aiG n) (aa (VV n) aD)))))) ahe
def uQ (n:Nat) (a0:List Int):Option (ajv×Unit):=(if decide ((a0.length:Int)<(2:Int))=true then some (((5:Int),(0:Int),Eg,()),()) else (if aI (0:Int) a0.length then (if aI (1:Int) a0.length then (if decide ((IntKind.i64.wrap ((IntKind.i64.wrap ((IntKind.i64.wrap (a0.getD (0:Int).toNat (0:Int))) * (256:Int)))+(IntKind.i64.wrap (a0.getD (1:Int).toNat (0:Int)))))<(2:Int))=true then some (((5:Int),(0:Int),Eg,()),()) else (if decide ((IntKind.i64.wrap ((IntKind.i64.wrap ((IntKind.i64.wrap (a0.getD (0:Int).toNat (0:Int))) * (256:Int)))+(IntKind.i64.wrap (a0.getD (1:Int).toNat (0:Int)))))>(a0.length:Int))=true then some (((5:Int),(0:Int),Eg,()),()) else (if 0≤(IntKind.i64.wrap ((IntKind.i64.wrap ((IntKind.i64.wrap (a0.getD (0:Int).toNat (0:Int))) * (256:Int)))+(IntKind.i64.wrap (a0.getD (1:Int).toNat (0:Int)))))∧(IntKind.i64.wrap ((IntKind.i64.wrap ((IntKind.i64.wrap (a0.getD (0:Int).toNat (0:Int))) * (256:Int)))+(IntKind.i64.wrap (a0.getD (1:Int).toNat (0:Int)))))≤(a0.length:Int) then ((uX n (a0.take (IntKind.i64.wrap ((IntKind.i64.wrap ((IntKind.i64.wrap (a0.getD (0:Int).toNat (0:Int))) * (256:Int)))+(IntKind.i64.wrap (a0.getD (1:Int).toNat (0:Int))))).toNat)).bind fun r1=>((oW n r1.1).bind fun r2=>(if (!decide (r2.1=(0:Int)))=true then some (((5:Int),(0:Int),Eg,()),()) else ((uW n r1.1).bind fun r3=>(if 0≤(IntKind.i64.wrap ((IntKind.i64.wrap ((IntKind.i64.wrap (a0.getD (0:Int).toNat (0:Int))) * (256:Int)))+(IntKind.i64.wrap (a0.getD (1:Int).toNat (0:Int)))))∧(IntKind.i64.wrap ((IntKind.i64.wrap ((IntKind.i64.wrap (a0.getD (0:Int).toNat (0:Int))) * (256:Int)))+(IntKind.i64.wrap (a0.getD (1:Int).toNat (0:Int)))))≤(a0.length:Int) then (if (!decide (r3.1=(a0.take (IntKind.i64.wrap ((IntKind.i64.wrap ((IntKind.i64.wrap (a0.getD (0:Int).toNat (0:Int))) * (256:Int)))+(IntKind.i64.wrap (a0.getD (1:Int).toNat (0:Int))))).toNat)))=true then some (((5:Int),(0:Int),Eg,()),()) else some (((0:Int),IntKind.i64.wrap ((IntKind.i64.wrap ((IntKind.i64.wrap (a0.getD (0:Int).toNat (0:Int))) * (256:Int)))+(IntKind.i64.wrap (a0.getD (1:Int).toNat (0:Int)))),r1.1,()),())) else none))))) else none))) else none) else none))
def aa1:Entry:=⟨108,[.val (.sl 5 (.int .u8)) []],[.own IU [2,5] [] []],fun n c=>uQ n c.1⟩
def adM:Hint:=⟨0,[45],[],[],[(141,some 31,E_8),(142,some 32,YI),(91,some 35,aa0)],[],[],[],[]⟩
theorem ahf:iy T adM Tryz.f108 aa1:=by intro n c; kernel_rfl
theorem aiI [Fr] (n:Nat):aj Tryz.prog n aa1:=ak mixed aL Tryz.func108 (by kernel_rfl) (hi:=adM) (aa (K_8 n) (aa (ae8 n) (aa (aiH n) aD))) ahf
def je (n:Nat) (a0:List Int):Option ((List gX)×Int×Unit):=(rounds (fun L1 (v1:(List Int)×Int×(List gX)×Unit)=>(if decide (v1.2.1<(v1.1.length:Int))=true then (if 0≤v1.2.1∧v1.2.1≤(v1.1.length:Int) then ((uQ n (v1.1.drop v1.2.1.toNat)).bind fun r2=>(if (!decide (r2.1.1=(0:Int)))=true then some (v1.2.2.1,v1.2.1,()) else (if (v1.2.2.1.length+[r2.1.2.2.1].length) * 112≤140737488355328 then L1 (v1.1,IntKind.i64.wrap (v1.2.1+r2.1.2.1),v1.2.2.1++[r2.1.2.2.1],()) else none))) else none) else some (v1.2.2.1,v1.2.1,()))) n (a0,(0:Int),([]:List gX),()))
def VA:Entry:=⟨58,[.val (.sl 5 (.int .u8)) []],[.own (.sl 72 jI) [2,5,72] [] [], .val (.int .i64) [] []],fun n c=>je n c.1⟩
def adN:Hint:=⟨0,[21],[(0,[0,4,5],[226])],[],[(108,some 15,aa1)],[],[],[],[]⟩
theorem ahg:iy T adN Tryz.f58 VA:=by intro n c; kernel_rfl
theorem abR [Fr] (n:Nat):aj Tryz.prog n VA:=ak mixed aL Tryz.func58 (by kernel_rfl) (hi:=adN) (aa (aiI n) aD) ahg
def uR (n:Nat) (a0:BB):Option ((List gX)×Bool×Unit):=((je n a0.2.1).bind fun r1=>((je n a0.2.2.1).bind fun r2=>(if (r1.1.length+r2.1.length) * 112≤140737488355328 then (if decide (r1.2.1=(a0.2.1.length:Int))=true then some (r1.1++r2.1,decide (r2.2.1=(a0.2.2.1.length:Int)),()) else some (r1.1++r2.1,false,())) else none)))
def aa2:Entry:=⟨88,[.ro Dl],[.own (.sl 72 jI) [2,5,72] [] [], .val .bool [] []],fun n c=>uR n c.1⟩
def adO:Hint:=⟨0,[],[],[],[(58,some 13,VA),(58,some 21,VA)],[],[],[],[]⟩
theorem ahh:iy T adO Tryz.f88 aa2:=by intro n c; kernel_rfl
theorem aiJ [Fr] (n:Nat):aj Tryz.prog n aa2:=ak mixed aL Tryz.func88 (by kernel_rfl) (hi:=adO) (aa (abR n) (aa (abR n) aD)) ahh
def nD (n:Nat)  : Option (fG×Unit):=some (((1:Int),([]:List dP),()),())
def YJ:Entry:=⟨60,[],[.own qo [5,114,117] [] []],fun n c=>nD n⟩
def adP:Hint:=⟨0,[],[],[],[],[],[],[],[]⟩
theorem ahi:iy T adP Tryz.f60 YJ:=by intro n c; kernel_rfl
theorem ae9 [Fr] (n:Nat):aj Tryz.prog n YJ:=ak mixed aL Tryz.func60 (by kernel_rfl) (hi:=adP) aD ahi
def dS (n:Nat) (a0:Int):Option (FJ×Unit):=some ((a0,([]:List Int),Ot,()),())
def GX:Entry:=⟨109,[.val (.int .i64) []],[.own MN [2,5,114,117] [] []],fun n c=>dS n c.1⟩
def adQ:Hint:=⟨0,[],[],[],[],[],[],[],[]⟩
theorem ahj:iy T adQ Tryz.f109 GX:=by intro n c; kernel_rfl
theorem KJ [Fr] (n:Nat):aj Tryz.prog n GX:=ak mixed aL Tryz.func109 (by kernel_rfl) (hi:=adQ) aD ahj
def nM (n:Nat) (a0:List Int):Option ((List Int)×Unit):=(if (([]:List Int).length+a0.length) * 1≤140737488355328 then some (([]:List Int)++a0,()) else none)
def VB:Entry:=⟨61,[.val (.sl 5 (.int .u8)) []],[.own (.sl 5 (.int .u8)) [5] [] []],fun n c=>nM n c.1⟩
def adR:Hint:=⟨0,[],[],[],[],[],[],[],[]⟩
theorem ahk:iy T adR Tryz.f61 VB:=by intro n c; kernel_rfl
theorem abS [Fr] (n:Nat):aj Tryz.prog n VB:=ak mixed aL Tryz.func61 (by kernel_rfl) (hi:=adR) aD ahk
def nZ (n:Nat) (a0:List ru):Option ((List ru)×Unit):=(rounds (fun L1 (v1:(List ru)×Int×(List ru)×Unit)=>(if decide (v1.2.1<(v1.1.length:Int))=true then (if aI v1.2.1 v1.1.length then ((nM n (((((v1.1.getD v1.2.1.toNat kC).2).2).2).1)).bind fun r2=>(if (v1.2.2.1.length+[((v1.1.getD v1.2.1.toNat kC).1,((v1.1.getD v1.2.1.toNat kC).2).1,(((v1.1.getD v1.2.1.toNat kC).2).2).1,r2.1,((((v1.1.getD v1.2.1.toNat kC).2).2).2).2)].length) * 48≤140737488355328 then L1 (v1.1,IntKind.i64.wrap (v1.2.1+(1:Int)),v1.2.2.1++[((v1.1.getD v1.2.1.toNat kC).1,((v1.1.getD v1.2.1.toNat kC).2).1,(((v1.1.getD v1.2.1.toNat kC).2).2).1,r2.1,((((v1.1.getD v1.2.1.toNat kC).2).2).2).2)],()) else none)) else none) else some (v1.2.2.1,()))) n (a0,(0:Int),([]:List ru),()))
def aa3:Entry:=⟨166,[.val (.sl 117 zb) []],[.own (.sl 117 zb) [5,117] [] []],fun n c=>nZ n c.1⟩
def adS:Hint:=⟨0,[22],[(0,[0,3,4],[194])],[],[(61,some 19,VB)],[],[],[],[]⟩
theorem ahl:iy T adS Tryz.f166 aa3:=by intro n c; kernel_rfl
theorem aiK [Fr] (n:Nat):aj Tryz.prog n aa3:=ak mixed aL Tryz.func166 (by kernel_rfl) (hi:=adS) (aa (abS n) aD) ahl
def jd (n:Nat) (a0:dP):Option (dP×Unit):=((nZ n a0.2.2.2.1).bind fun r1=>some ((a0.1,a0.2.1,a0.2.2.1,r1.1,a0.2.2.2.2),()))
def YK:Entry:=⟨123,[.val nG []],[.own nG [5,117] [] []],fun n c=>jd n c.1⟩
def adT:Hint:=⟨0,[7],[],[],[(166,some 5,aa3)],[],[],[],[]⟩
theorem ahm:iy T adT Tryz.f123 YK:=by intro n c; kernel_rfl
theorem afa [Fr] (n:Nat):aj Tryz.prog n YK:=ak mixed aL Tryz.func123 (by kernel_rfl) (hi:=adT) (aa (aiK n) aD) ahm
def nN (n:Nat) (a0:fG):Option (fG×Unit):=(rounds (fun L1 (v1:Int×fG×fG×fG×Unit)=>(if decide (v1.1<(v1.2.1.2.1.length:Int))=true then (if aI v1.1 v1.2.1.2.1.length then ((jd n (v1.2.1.2.1.getD v1.1.toNat dF)).bind fun r2=>(if (v1.2.2.2.1.2.1.length+[r2.1].length) * 56≤140737488355328 then L1 (IntKind.i64.wrap (v1.1+(1:Int)),v1.2.1,v1.2.2.1,(v1.2.2.2.1.1,v1.2.2.2.1.2.1++[r2.1],v1.2.2.2.1.2.2),()) else none)) else none) else some (v1.2.2.2.1,()))) n ((0:Int),a0,Ot,(a0.1,([]:List dP),()),()))
def VD:Entry:=⟨89,[.val qo []],[.own qo [5,114,117] [] []],fun n c=>nN n c.1⟩
def adU:Hint:=⟨0,[16,26],[(0,[1,2,3,4],[34,66,98])],[],[(123,some 22,YK)],[],[],[],[]⟩
theorem ahn:iy T adU Tryz.f89 VD:=by intro n c; kernel_rfl
theorem abT [Fr] (n:Nat):aj Tryz.prog n VD:=ak mixed aL Tryz.func89 (by kernel_rfl) (hi:=adU) (aa (afa n) aD) ahn
def rC (n:Nat) (a0:fG) (a1:List Int):Option (Int×Unit):=(rounds (fun L1 (v1:fG×Zt0)=>(if decide (v1.2.2.1<(v1.1.2.1.length:Int))=true then (if aI v1.2.2.1 v1.1.2.1.length then (if decide (((v1.1.2.1.getD v1.2.2.1.toNat dF).1)=v1.2.1)=true then some (v1.2.2.1,()) else L1 (v1.1,v1.2.1,IntKind.i64.wrap (v1.2.2.1+(1:Int)),())) else none) else some ((-1:Int),()))) n (a0,a1,(0:Int),()))
def VE:Entry:=⟨180,[.ro qo, .val .str []],[.val (.int .i64) [] []],fun n c=>rC n c.1 c.2.1⟩
def adV:Hint:=⟨0,[],[(0,[0,1,5],[])],[],[],[],[],[],[]⟩
theorem aho:iy T adV Tryz.f180 VE:=by intro n c; kernel_rfl
theorem abU [Fr] (n:Nat):aj Tryz.prog n VE:=ak mixed aL Tryz.func180 (by kernel_rfl) (hi:=adV) aD aho
def uV (n:Nat) (a0:fG) (a1:gX):Option (FJ×Unit):=((rC n a0 a1.2.1).bind fun r1=>(if decide (r1.1≥(0:Int))=true then ((dS n (6:Int)).bind fun r2=>some (r2.1,())) else (if decide ((a0.2.1.length:Int)≥(3:Int))=true then ((dS n (10:Int)).bind fun r3=>some (r3.1,())) else (if decide (a0.1≥(1000:Int))=true then ((dS n (10:Int)).bind fun r4=>some (r4.1,())) else ((nN n a0).bind fun r5=>(if (r5.1.2.1.length+[(a1.2.1,a0.1,(1:Int),([]:List ru),())].length) * 56≤140737488355328 then some (((0:Int),([]:List Int),(IntKind.i64.wrap (a0.1+(1:Int)),r5.1.2.1++[(a1.2.1,a0.1,(1:Int),([]:List ru),())],r5.1.2.2),()),()) else none))))))
def aa4:Entry:=⟨179,[.val qo [], .ro jI],[.own MN [2,5,114,117] [] []],fun n c=>uV n c.1 c.2.1⟩
def adW:Hint:=⟨0,[26,41],[],[],[(180,some 10,VE),(109,some 12,GX),(109,some 22,GX),(89,some 24,VD)],[],[],[],[]⟩
theorem ahp:iy T adW Tryz.f179 aa4:=by intro n c; kernel_rfl
theorem aiL [Fr] (n:Nat):aj Tryz.prog n aa4:=ak mixed aL Tryz.func179 (by kernel_rfl) (hi:=adW) (aa (abU n) (aa (KJ n) (aa (KJ n) (aa (abT n) aD)))) ahp
def mK (n:Nat) (a0:dP) (a1:ru):Option (Int×dP×Unit):=((nM n a1.2.2.2.1).bind fun r1=>(if (a0.2.2.2.1.length+[(a0.2.2.1,a1.2.1,a1.2.2.1,r1.1,a1.2.2.2.2)].length) * 48≤140737488355328 then some (a0.2.2.1,(a0.1,a0.2.1,IntKind.i64.wrap (a0.2.2.1+(1:Int)),a0.2.2.2.1++[(a0.2.2.1,a1.2.1,a1.2.2.1,r1.1,a1.2.2.2.2)],a0.2.2.2.2),()) else none))
def YL:Entry:=⟨181,[.rw nG [5,117] [5,117,4294967295] [5,117], .val zb []],[.val (.int .i64) [] []],fun n c=>mK n c.1 c.2.1⟩
def adX:Hint:=⟨0,[18,19],[],[],[(61,some 12,VB)],[],[],[],[]⟩
theorem ahq:iy T adX Tryz.f181 YL:=by intro n c; kernel_rfl
theorem afb [Fr] (n:Nat):aj Tryz.prog n YL:=ak mixed aL Tryz.func181 (by kernel_rfl) (hi:=adX) (aa (abS n) aD) ahq
def mJ (n:Nat) (a0:List Int) (a1:Int):Option (Bool×Unit):=(rounds (fun L1 (v1:(List Int)×Int×Int×Unit)=>(if decide (v1.2.2.1<(v1.1.length:Int))=true then (if aI v1.2.2.1 v1.1.length then (if decide ((v1.1.getD v1.2.2.1.toNat (0:Int))=v1.2.1)=true then some (true,()) else L1 (v1.1,v1.2.1,IntKind.i64.wrap (v1.2.2.1+(1:Int)),())) else none) else some (false,()))) n (a0,a1,(0:Int),()))
def Qh:Entry:=⟨203,[.val (.sl 2 (.int .i64)) [], .val (.int .i64) []],[.val .bool [] []],fun n c=>mJ n c.1 c.2.1⟩
def VQ:Hint:=⟨0,[],[(0,[0,1,5],[])],[],[],[],[],[],[]⟩
theorem aaT:iy T VQ Tryz.f203 Qh:=by intro n c; kernel_rfl
theorem abV [Fr] (n:Nat):aj Tryz.prog n Qh:=ak mixed aL Tryz.func203 (by kernel_rfl) (hi:=VQ) aD aaT
def sK (n:Nat) (a0:Int) (a1:Int) (a2:Int):Option (Int×Unit):=(if decide (a1=(2:Int))=true then some (IntKind.i64.wrap ((BitVec.ofInt (IntKind.bits .i64) a0 ||| BitVec.ofInt (IntKind.bits .i64) a2).toNat),()) else (if decide (a1=(3:Int))=true then some (IntKind.i64.wrap ((BitVec.ofInt (IntKind.bits .i64) a0 &&& ~~~ BitVec.ofInt (IntKind.bits .i64) a2).toNat),()) else some (a2,())))
def aa5:Entry:=⟨204,[.val (.int .i64) [], .val (.int .i64) [], .val (.int .i64) []],[.val (.int .i64) [] []],fun n c=>sK n c.1 c.2.1 c.2.2.1⟩
def adY:Hint:=⟨0,[],[],[],[],[],[],[],[]⟩
theorem ahr:iy T adY Tryz.f204 aa5:=by intro n c; kernel_rfl
theorem aiM [Fr] (n:Nat):aj Tryz.prog n aa5:=ak mixed aL Tryz.func204 (by kernel_rfl) (hi:=adY) aD ahr
def uT (n:Nat) (a0:dP) (a1:gX):Option ((List Int)×dP×Unit):=(rounds (fun L1 (v1:gX×Int×dP×(List Int)×Unit)=>(if decide (v1.2.1<(v1.2.2.1.2.2.2.1.length:Int))=true then (if aI v1.2.1 v1.2.2.1.2.2.2.1.length then ((mJ n v1.1.2.2.2.1 ((v1.2.2.1.2.2.2.1.getD v1.2.1.toNat kC).1)).bind fun r2=>(if r2.1=true then ((sK n (((v1.2.2.1.2.2.2.1.getD v1.2.1.toNat kC).2).1) v1.1.2.2.2.2.1 v1.1.2.2.2.2.2.1).bind fun r3=>(if (v1.2.2.2.1.length+[((iM v1.2.2.1.2.2.2.1 v1.2.1.toNat kC fun z1=>(z1.1,r3.1,z1.2.2)).getD v1.2.1.toNat kC).1].length) * 8≤140737488355328 then L1 (v1.1,IntKind.i64.wrap (v1.2.1+(1:Int)),(v1.2.2.1.1,v1.2.2.1.2.1,v1.2.2.1.2.2.1,(iM v1.2.2.1.2.2.2.1 v1.2.1.toNat kC fun z1=>(z1.1,r3.1,z1.2.2)),v1.2.2.1.2.2.2.2),v1.2.2.2.1++[((iM v1.2.2.1.2.2.2.1 v1.2.1.toNat kC fun z1=>(z1.1,r3.1,z1.2.2)).getD v1.2.1.toNat kC).1],()) else none)) else L1 (v1.1,IntKind.i64.wrap (v1.2.1+(1:Int)),v1.2.2.1,v1.2.2.2.1,()))) else none) else some (v1.2.2.2.1,v1.2.2.1,()))) n (a1,(0:Int),a0,([]:List Int),()))
def aa6:Entry:=⟨182,[.rw nG [5,117] [117] [], .ro jI],[.own (.sl 2 (.int .i64)) [2] [] []],fun n c=>uT n c.1 c.2.1⟩
def adZ:Hint:=⟨0,[21],[(0,[0,1,5,6],[0,258])],[],[(203,some 32,Qh),(204,some 46,aa5)],[],[],[],[]⟩
theorem ahs:iy T adZ Tryz.f182 aa6:=by intro n c; kernel_rfl
theorem aiN [Fr] (n:Nat):aj Tryz.prog n aa6:=ak mixed aL Tryz.func182 (by kernel_rfl) (hi:=adZ) (aa (abV n) (aa (aiM n) aD)) ahs
namespace IdT
def Yx:Vu:={ ty:=[(2,(.int .i64)),(3,(.int .i64)),(4, .bool),(5,(.int .u8)),(6,(.int .u8)),(7,YC),(8,YC),(9, .str),(10, .str),(11, .str),(12,(.int .u64)),(13,YA),(14,YA),(21,(.int .i32)),(22,(.sl 5 (.int .u8))),(23,(.sl 168 KP)),(24,Qt),(25,Qt),(26,Qv),(27,Qv),(30,(.sl 114 G6)),(31,Ol),(32,Ol),(33,Om),(34,Om),(38,(.sl 139 DR)),(39,TV),(40,TV),(43,(.sl 91 DR)),(44,TU),(45,TU),(49,(.sl 2 (.int .i64))),(50,TT),(51,TT),(60,(.sl 72 jI)),(61,KQ),(62,KQ),(64,TR),(65,TR),(71,jI),(72,jI),(90,DR),(91,DR),(112,(.sl 117 KS)),(113,G6),(114,G6),(116,KS),(117,KS),(139,DR),(145,IU),(146,IU),(152,YB),(153,YB),(155,(.sl 22 (.sl 5 (.int .u8)))),(166,(.sl 227 KS)),(167,KP),(168,KP),(180,TQ),(181,TQ),(194,(.sl 9 .str)),(203,TS),(204,TS),(227,KS),(245,(.int .u32)),(246,(.int .u8)),(247,(.int .u8)),(250,(.int .i32)),(251,(.int .i32))],bytes:=[(2,8),(3,8),(4,1),(5,1),(6,1),(7,24),(8,24),(9,16),(10,16),(11,16),(12,8),(13,24),(14,24),(21,4),(22,24),(23,24),(24,32),(25,32),(26,88),(27,88),(30,24),(31,32),(32,32),(33,88),(34,88),(38,24),(39,112),(40,112),(43,24),(44,112),(45,112),(49,24),(50,120),(51,120),(60,24),(61,40),(62,40),(64,64),(65,64),(71,112),(72,112),(90,56),(91,56),(112,24),(113,56),(114,56),(116,48),(117,48),(139,56),(145,128),(146,128),(152,32),(153,32),(155,24),(166,24),(167,56),(168,56),(180,32),(181,32),(194,24),(203,40),(204,40),(227,48),(245,4),(246,1),(247,1),(250,4),(251,4)],ptr:=[15,16,17,77,86,104,121,131,141,170,179,199,206,249],ids:=true }
def T:jf:=Yx.tab
theorem aL:Ck Tryz.prog Yx=true:=by kernel_rfl
theorem mixed:Tryz.prog.follows .mixedOrders=true:=by kernel_rfl
def mJ (n:Nat) (a0:List Int) (a1:Int):Option (Bool×Unit):=(rounds (fun L1 (v1:(List Int)×Int×Int×Unit)=>(if decide (v1.2.2.1<(v1.1.length:Int))=true then (if aI v1.2.2.1 v1.1.length then (if decide ((v1.1.getD v1.2.2.1.toNat (0:Int))=v1.2.1)=true then some (true,()) else L1 (v1.1,v1.2.1,IntKind.i64.wrap (v1.2.2.1+(1:Int)),())) else none) else some (false,()))) n (a0,a1,(0:Int),()))
def Qh:Entry:=⟨203,[.val (.sl 2 (.int .i64)) [], .val (.int .i64) []],[.val .bool [] []],fun n c=>mJ n c.1 c.2.1⟩
def VQ:Hint:=⟨0,[],[(0,[0,1,5],[])],[],[],[],[],[],[]⟩
theorem aaT:iy T VQ Tryz.f203 Qh:=by intro n c; kernel_rfl
theorem abV [Fr] (n:Nat):aj Tryz.prog n Qh:=ak mixed aL Tryz.func203 (by kernel_rfl) (hi:=VQ) aD aaT
def fP (n:Nat) (a0:TW) (a1:List Int) (a2:Int):Option ((List MP)×TW×Unit):=(rounds (fun L1 (v1:(List Int)×Int×Int×TW×(List MP)×(List MP)×Unit)=>(if decide (v1.2.2.1<(v1.2.2.2.1.2.2.2.1.length:Int))=true then (if aI v1.2.2.1 v1.2.2.2.1.2.2.2.1.length then ((mJ n v1.1 ((v1.2.2.2.1.2.2.2.1.getD v1.2.2.1.toNat MQ).1)).bind fun r2=>(if r2.1=true then (if (v1.2.2.2.2.1.length+[v1.2.2.2.1.2.2.2.1.getD v1.2.2.1.toNat MQ].length) * 48≤140737488355328 then L1 (v1.1,v1.2.1,IntKind.i64.wrap (v1.2.2.1+(1:Int)),v1.2.2.2.1,v1.2.2.2.2.1++[v1.2.2.2.1.2.2.2.1.getD v1.2.2.1.toNat MQ],v1.2.2.2.2.2.1,()) else none) else (if (!decide ((IntKind.i64.wrap ((BitVec.ofInt (IntKind.bits .i64) (((v1.2.2.2.1.2.2.2.1.getD v1.2.2.1.toNat MQ).2).1) &&& BitVec.ofInt (IntKind.bits .i64) v1.2.1).toNat))=(0:Int)))=true then (if (v1.2.2.2.2.1.length+[v1.2.2.2.1.2.2.2.1.getD v1.2.2.1.toNat MQ].length) * 48≤140737488355328 then L1 (v1.1,v1.2.1,IntKind.i64.wrap (v1.2.2.1+(1:Int)),v1.2.2.2.1,v1.2.2.2.2.1++[v1.2.2.2.1.2.2.2.1.getD v1.2.2.1.toNat MQ],v1.2.2.2.2.2.1,()) else none) else (if (v1.2.2.2.2.2.1.length+[v1.2.2.2.1.2.2.2.1.getD v1.2.2.1.toNat MQ].length) * 48≤140737488355328 then L1 (v1.1,v1.2.1,IntKind.i64.wrap (v1.2.2.1+(1:Int)),v1.2.2.2.1,v1.2.2.2.2.1,v1.2.2.2.2.2.1++[v1.2.2.2.1.2.2.2.1.getD v1.2.2.1.toNat MQ],()) else none)))) else none) else some (v1.2.2.2.2.1,(v1.2.2.2.1.1,v1.2.2.2.1.2.1,v1.2.2.2.1.2.2.1,v1.2.2.2.2.2.1,v1.2.2.2.1.2.2.2.2),()))) n (a1,a2,(0:Int),a0,([]:List MP),([]:List MP),()))
def TE:Entry:=⟨183,[.rw G6 [5,117] [4294967295] [117], .val (.sl 2 (.int .i64)) [], .val (.int .i64) []],[.own (.sl 117 KS) [117] [] []],fun n c=>fP n c.1 c.2.1 c.2.2.1⟩
def ad1:Hint:=⟨0,[],[(0,[0,1,2,7,8,9],[0,354,386])],[],[(203,some 32,Qh)],[],[],[],[]⟩
theorem aht:iy T ad1 Tryz.f183 TE:=by intro n c; kernel_rfl
theorem YW [Fr] (n:Nat):aj Tryz.prog n TE:=ak mixed aL Tryz.func183 (by kernel_rfl) (hi:=ad1) (aa (abV n) aD) aht
end IdT
def fP (n:Nat) (a0:List Int×Int×Int×List jX.zW×Unit) (a1:List Int) (a2:Int):Option (List jX.zW×(List Int×Int×Int×List jX.zW×Unit)×Unit):=jF.Bl jF.pick n a0 a1 a2
def aaG:List dI:=[.rw nG [5,117] [4294967295,5] [117,4294967294], .val (.sl 2 (.int .i64)) [], .val (.int .i64) []]
def agL:List nO:=[.own (.sl 117 zb) [5,117] [] []]
def TE:Entry:=⟨183,aaG,agL,fun n (c:Cont (kin aaG))=>fP n c.1 c.2.1 c.2.2.1⟩
theorem aiA {n:Nat} {nm:List Int} {w h:Int} {xs:List MP} {us:List Int} {fl:Int} (hc:xs.length * 48≤140737488355328) (hn:xs.length<n) (hb:us.length≤1048576) (hu:us.length<n) :
  IdT.fP n (nm,w,h,xs,()) us fl=some (xs.filter (fun x=>jF.pick us fl x.1 x.2.1),(nm,w,h,xs.filter (fun x=>!jF.pick us fl x.1 x.2.1),()),()):=
 jF.Vn (has:=IdT.mJ n) (fun _ _=>rfl) (fun x=>jF.O5 (fun _ _=>rfl) hb hu) hc hn
theorem YW [Fr] (n:Nat):aj Tryz.prog n TE:=jF.R3 (p:=jF.pick) (e:=5) (m:=117) (i:=2) (ow:=[117]) (FI:=fun n c=>IdT.fP n c.1 c.2.1 c.2.2.1) rfl (fun fr=>IdT.YW n) (fun _ _ _ _ _ _ hc hn hb hu=>aiA hc hn hb hu)
def sJ (n:Nat) (a0:fG) (a1:Int) (a2:gX):Option ((List Int)×Int×fG×Unit):=((rC n a0 a2.2.2.1).bind fun r1=>(if decide (r1.1<(0:Int))=true then some (([]:List Int),(4:Int),a0,()) else (if decide (a2.1=(6:Int))=true then (if decide (r1.1=a1)=true then some (([]:List Int),(9:Int),a0,()) else (if aI a1 a0.2.1.length then ((jd n (a0.2.1.getD a1.toNat dF)).bind fun r2=>((fP n r2.1 a2.2.2.2.1 (0:Int)).bind fun r3=>(if aI r1.1 a0.2.1.length then (if decide ((IntKind.i64.wrap (((((((a0.2.1.getD r1.1.toNat dF).2).2).2).1).length:Int)+(r3.1.length:Int)))>(6:Int))=true then some (([]:List Int),(10:Int),a0,()) else (if decide ((IntKind.i64.wrap (((((a0.2.1.getD r1.1.toNat dF).2).2).1)+(r3.1.length:Int)))>(1000:Int))=true then some (([]:List Int),(10:Int),a0,()) else (rounds (fun L4 (v4:Int×gX×Int×Int×fG×dP×(List ru)×(List Int)×Unit)=>(if decide (v4.2.2.2.1<(v4.2.2.2.2.2.2.1.length:Int))=true then (if aI v4.2.2.2.1 v4.2.2.2.2.2.2.1.length then ((mK n (v4.2.2.2.2.1.2.1.getD v4.2.2.1.toNat dF) (v4.2.2.2.2.2.2.1.getD v4.2.2.2.1.toNat kC)).bind fun r5=>(if (v4.2.2.2.2.2.2.2.1.length+[r5.1].length) * 8≤140737488355328 then L4 (v4.1,v4.2.1,v4.2.2.1,IntKind.i64.wrap (v4.2.2.2.1+(1:Int)),(v4.2.2.2.2.1.1,v4.2.2.2.2.1.2.1.set v4.2.2.1.toNat r5.2.1,v4.2.2.2.2.1.2.2),v4.2.2.2.2.2.1,v4.2.2.2.2.2.2.1,v4.2.2.2.2.2.2.2.1++[r5.1],()) else none)) else none) else (if decide (v4.2.1.1=(6:Int))=true then (if aI v4.1 v4.2.2.2.2.1.2.1.length then some (v4.2.2.2.2.2.2.2.1,(0:Int),(v4.2.2.2.2.1.1,v4.2.2.2.2.1.2.1.set v4.1.toNat v4.2.2.2.2.2.1,v4.2.2.2.2.1.2.2),()) else none) else some (v4.2.2.2.2.2.2.2.1,(0:Int),v4.2.2.2.2.1,())))) n (a1,a2,r1.1,(0:Int),a0,r3.2.1,r3.1,([]:List Int),())))) else none))) else none)) else (if aI a1 a0.2.1.length then ((jd n (a0.2.1.getD a1.toNat dF)).bind fun r6=>((fP n r6.1 a2.2.2.2.1 (0:Int)).bind fun r7=>(if aI r1.1 a0.2.1.length then (if decide ((IntKind.i64.wrap (((((((a0.2.1.getD r1.1.toNat dF).2).2).2).1).length:Int)+(r7.1.length:Int)))>(6:Int))=true then some (([]:List Int),(10:Int),a0,()) else (if decide ((IntKind.i64.wrap (((((a0.2.1.getD r1.1.toNat dF).2).2).1)+(r7.1.length:Int)))>(1000:Int))=true then some (([]:List Int),(10:Int),a0,()) else (rounds (fun L8 (v8:Int×gX×Int×Int×fG×dP×(List ru)×(List Int)×Unit)=>(if decide (v8.2.2.2.1<(v8.2.2.2.2.2.2.1.length:Int))=true then (if aI v8.2.2.2.1 v8.2.2.2.2.2.2.1.length then ((mK n (v8.2.2.2.2.1.2.1.getD v8.2.2.1.toNat dF) (v8.2.2.2.2.2.2.1.getD v8.2.2.2.1.toNat kC)).bind fun r9=>(if (v8.2.2.2.2.2.2.2.1.length+[r9.1].length) * 8≤140737488355328 then L8 (v8.1,v8.2.1,v8.2.2.1,IntKind.i64.wrap (v8.2.2.2.1+(1:Int)),(v8.2.2.2.2.1.1,v8.2.2.2.2.1.2.1.set v8.2.2.1.toNat r9.2.1,v8.2.2.2.2.1.2.2),v8.2.2.2.2.2.1,v8.2.2.2.2.2.2.1,v8.2.2.2.2.2.2.2.1++[r9.1],()) else none)) else none) else (if decide (v8.2.1.1=(6:Int))=true then (if aI v8.1 v8.2.2.2.2.1.2.1.length then some (v8.2.2.2.2.2.2.2.1,(0:Int),(v8.2.2.2.2.1.1,v8.2.2.2.2.1.2.1.set v8.1.toNat v8.2.2.2.2.2.1,v8.2.2.2.2.1.2.2),()) else none) else some (v8.2.2.2.2.2.2.2.1,(0:Int),v8.2.2.2.2.1,())))) n (a1,a2,r1.1,(0:Int),a0,r7.2.1,r7.1,([]:List Int),())))) else none))) else none))))
def aa7:Entry:=⟨184,[.rw qo [5,114,117] [5,114,117,4294967295] [5,117], .val (.int .i64) [], .ro jI],[.own (.sl 2 (.int .i64)) [2] [] [], .val (.int .i64) [] []],fun n c=>sJ n c.1 c.2.1 c.2.2.1⟩
def ad2:Hint:=⟨0,[48,94,96],[(0,[0,1,2,9,10,11,12,13],[0,290,1410,2242])],[],[(180,some 19,VE),(123,some 39,YK),(183,some 44,TE),(181,some 83,YL)],[],[],[],[]⟩
theorem ahu:iy T ad2 Tryz.f184 aa7:=by intro n c; kernel_rfl
theorem aiO [Fr] (n:Nat):aj Tryz.prog n aa7:=ak mixed aL Tryz.func184 (by kernel_rfl) (hi:=ad2) (aa (abU n) (aa (afa n) (aa (YW n) (aa (afb n) aD)))) ahu
def sI (n:Nat) (a0:fG) (a1:gX):Option (FJ×Unit):=(if decide (a1.1=(1:Int))=true then ((uV n a0 a1).bind fun r1=>some (r1.1,())) else ((rC n a0 a1.2.1).bind fun r2=>(if decide (r2.1<(0:Int))=true then ((dS n (4:Int)).bind fun r3=>some (r3.1,())) else ((nN n a0).bind fun r4=>(if aI r2.1 r4.1.2.1.length then (if decide (a1.1=(2:Int))=true then (if 0≤r2.1∧r2.1≤(r4.1.2.1.length:Int) then (if (([]:List dP).length+(r4.1.2.1.take r2.1.toNat).length) * 56≤140737488355328 then (if 0≤(IntKind.i64.wrap (r2.1+(1:Int)))∧(IntKind.i64.wrap (r2.1+(1:Int)))≤(r4.1.2.1.length:Int) then (if ((([]:List dP)++(r4.1.2.1.take r2.1.toNat)).length+(r4.1.2.1.drop (IntKind.i64.wrap (r2.1+(1:Int))).toNat).length) * 56≤140737488355328 then some (((0:Int),([]:List Int),(r4.1.1,(([]:List dP)++(r4.1.2.1.take r2.1.toNat))++(r4.1.2.1.drop (IntKind.i64.wrap (r2.1+(1:Int))).toNat),r4.1.2.2),()),()) else none) else none) else none) else none) else (if decide (a1.1=(3:Int))=true then (if decide (((((((r4.1.2.1.getD r2.1.toNat dF).2).2).2).1).length:Int)≥(6:Int))=true then ((dS n (10:Int)).bind fun r5=>some (r5.1,())) else (if decide (((((r4.1.2.1.getD r2.1.toNat dF).2).2).1)≥(1000:Int))=true then ((dS n (10:Int)).bind fun r6=>some (r6.1,())) else ((mK n (r4.1.2.1.getD r2.1.toNat dF) ((0:Int),a1.2.2.2.2.2.1,a1.2.2.2.2.2.2.1,a1.2.2.2.2.2.2.2.1,())).bind fun r7=>some (((0:Int),[r7.1],(r4.1.1,r4.1.2.1.set r2.1.toNat r7.2.1,r4.1.2.2),()),())))) else (if decide (a1.1=(4:Int))=true then ((uT n (r4.1.2.1.getD r2.1.toNat dF) a1).bind fun r8=>some (((0:Int),r8.1,(r4.1.1,r4.1.2.1.set r2.1.toNat r8.2.1,r4.1.2.2),()),())) else (if decide (a1.1=(7:Int))=true then ((fP n (r4.1.2.1.getD r2.1.toNat dF) ([]:List Int) (8:Int)).bind fun r9=>(rounds (fun L10 (v10:Int×FJ×FJ×(List ru)×Unit)=>(if decide (v10.1<(v10.2.2.2.1.length:Int))=true then (if aI v10.1 v10.2.2.2.1.length then (if (v10.2.2.1.2.1.length+[(v10.2.2.2.1.getD v10.1.toNat kC).1].length) * 8≤140737488355328 then L10 (IntKind.i64.wrap (v10.1+(1:Int)),v10.2.1,(v10.2.2.1.1,v10.2.2.1.2.1++[(v10.2.2.2.1.getD v10.1.toNat kC).1],v10.2.2.1.2.2),v10.2.2.2.1,()) else none) else none) else some (v10.2.2.1,()))) n ((0:Int),ab7,((0:Int),([]:List Int),(r4.1.1,r4.1.2.1.set r2.1.toNat r9.2.1,r4.1.2.2),()),r9.1,()))) else ((sJ n r4.1 r2.1 a1).bind fun Ih=>(if (!decide (Ih.2.1=(0:Int)))=true then ((dS n Ih.2.1).bind fun Kb=>some (Kb.1,())) else some (((0:Int),Ih.1,Ih.2.2.1,()),()))))))) else none)))))
def aa8:Entry:=⟨143,[.val qo [], .ro jI],[.val MN [] []],fun n c=>sI n c.1 c.2.1⟩
def ad3:Hint:=⟨0,[34,123,132],[(1,[4,6,9,10],[130,194,3682])],[],[(179,some 20,aa4),(180,some 25,VE),(109,some 28,GX),(89,some 30,VD),(109,some 88,GX),(181,some 103,YL),(182,some 110,aa6),(183,some 115,TE),(184,some 45,aa7),(109,some 51,GX)],[],[],[],[]⟩
theorem ahv:iy T ad3 Tryz.f143 aa8:=by intro n c; kernel_rfl
theorem aiP [Fr] (n:Nat):aj Tryz.prog n aa8:=ak mixed aL Tryz.func143 (by kernel_rfl) (hi:=ad3) (aa (aiL n) (aa (abU n) (aa (KJ n) (aa (abT n) (aa (KJ n) (aa (afb n) (aa (aiN n) (aa (YW n) (aa (aiO n) (aa (KJ n) aD)))))))))) ahv
def sH (n:Nat) (a0:fG) (a1:gX):Option (FJ×Unit):=((jv n a0).bind fun r1=>(if (!decide (r1.1=(0:Int)))=true then ((dS n r1.1).bind fun r2=>some (r2.1,())) else ((oW n a1).bind fun r3=>(if (!decide (r3.1=(0:Int)))=true then ((dS n r3.1).bind fun r4=>some (r4.1,())) else ((sI n a0 a1).bind fun r5=>some (r5.1,()))))))
def aa9:Entry:=⟨110,[.val qo [], .val jI []],[.val MN [] []],fun n c=>sH n c.1 c.2.1⟩
def ad4:Hint:=⟨0,[],[],[],[(95,some 7,E_4),(109,some 11,GX),(142,some 12,YI),(109,some 16,GX),(143,some 18,aa8)],[],[],[],[]⟩
theorem ahw:iy T ad4 Tryz.f110 aa9:=by intro n c; kernel_rfl
theorem aiQ [Fr] (n:Nat):aj Tryz.prog n aa9:=ak mixed aL Tryz.func110 (by kernel_rfl) (hi:=ad4) (aa (K_4 n) (aa (KJ n) (aa (ae8 n) (aa (KJ n) (aa (aiP n) aD))))) ahw
def jN (n:Nat) (a0:fG) (a1:List gX):Option (FJ×Unit):=(if decide ((a1.length:Int)>(60:Int))=true then ((dS n (2:Int)).bind fun r1=>some (r1.1,())) else ((jv n a0).bind fun r2=>(if (!decide (r2.1=(0:Int)))=true then ((dS n r2.1).bind fun r3=>some (r3.1,())) else ((nN n a0).bind fun r4=>(rounds (fun L5 (v5:(List gX)×Int×FJ×FJ×Unit)=>(if decide (v5.2.1<(v5.1.length:Int))=true then (if aI v5.2.1 v5.1.length then ((sH n v5.2.2.2.1.2.2.1 (v5.1.getD v5.2.1.toNat Eg)).bind fun r6=>(if (!decide (r6.1.1=(0:Int)))=true then ((dS n r6.1.1).bind fun r7=>some (r7.1,())) else L5 (v5.1,IntKind.i64.wrap (v5.2.1+(1:Int)),v5.2.2.1,(v5.2.2.2.1.1,v5.2.2.2.1.2.1,r6.1.2.2.1,v5.2.2.2.1.2.2.2),()))) else none) else some (v5.2.2.2.1,()))) n (a1,(0:Int),ab7,((0:Int),([]:List Int),r4.1,()),()))))))
def YM:Entry:=⟨59,[.val qo [], .val (.sl 72 jI) []],[.val MN [] []],fun n c=>jN n c.1 c.2.1⟩
def ad5:Hint:=⟨0,[43],[(0,[1,4,6,7],[130,194])],[(1000194,[5,114,117])],[(109,some 12,GX),(95,some 13,E_4),(109,some 17,GX),(89,some 19,VD),(110,some 33,aa9),(109,some 39,GX)],[],[],[],[]⟩
theorem ahx:iy T ad5 Tryz.f59 YM:=by intro n c; kernel_rfl
theorem afc [Fr] (n:Nat):aj Tryz.prog n YM:=ak mixed aL Tryz.func59 (by kernel_rfl) (hi:=ad5) (aa (KJ n) (aa (K_4 n) (aa (KJ n) (aa (abT n) (aa (aiQ n) (aa (KJ n) aD)))))) ahx
def jW (n:Nat) (a0:ru) (a1:ru):Option (Bool×Unit):=(if decide (a0.1=a1.1)=true then (if decide (a0.2.1=a1.2.1)=true then (if decide (a0.2.2.1=a1.2.2.1)=true then some (decide (a0.2.2.2.1=a1.2.2.2.1),()) else some (false,())) else some (false,())) else some (false,()))
def aba:Entry:=⟨172,[.ro zb, .ro zb],[.val .bool [] []],fun n c=>jW n c.1 c.2.1⟩
def ad6:Hint:=⟨0,[],[],[],[],[],[],[],[]⟩
theorem ahy:iy T ad6 Tryz.f172 aba:=by intro n c; kernel_rfl
theorem aiR [Fr] (n:Nat):aj Tryz.prog n aba:=ak mixed aL Tryz.func172 (by kernel_rfl) (hi:=ad6) aD ahy
def pV (n:Nat) (a0:dP) (a1:dP):Option (Bool×Unit):=(if (!decide (a0.1=a1.1))=true then some (false,()) else (if (!decide (a0.2.1=a1.2.1))=true then some (false,()) else (if (!decide (a0.2.2.1=a1.2.2.1))=true then some (false,()) else (if (!decide ((a0.2.2.2.1.length:Int)=(a1.2.2.2.1.length:Int)))=true then some (false,()) else (rounds (fun L1 (v1:dP×dP×Int×Unit)=>(if decide (v1.2.2.1<(v1.1.2.2.2.1.length:Int))=true then (if aI v1.2.2.1 v1.1.2.2.2.1.length then (if aI v1.2.2.1 v1.2.1.2.2.2.1.length then ((jW n (v1.1.2.2.2.1.getD v1.2.2.1.toNat kC) (v1.2.1.2.2.2.1.getD v1.2.2.1.toNat kC)).bind fun r2=>(if (!r2.1)=true then some (false,()) else L1 (v1.1,v1.2.1,IntKind.i64.wrap (v1.2.2.1+(1:Int)),()))) else none) else none) else some (true,()))) n (a0,a1,(0:Int),()))))))
def abb:Entry:=⟨131,[.ro nG, .ro nG],[.val .bool [] []],fun n c=>pV n c.1 c.2.1⟩
def ad7:Hint:=⟨0,[],[(0,[0,1,5],[])],[],[(172,some 71,aba)],[],[],[],[]⟩
theorem ahz:iy T ad7 Tryz.f131 abb:=by intro n c; kernel_rfl
theorem aiS [Fr] (n:Nat):aj Tryz.prog n abb:=ak mixed aL Tryz.func131 (by kernel_rfl) (hi:=ad7) (aa (aiR n) aD) ahz
def uS (n:Nat) (a0:fG) (a1:fG):Option (Bool×Unit):=(if (!decide (a0.1=a1.1))=true then some (false,()) else (if (!decide ((a0.2.1.length:Int)=(a1.2.1.length:Int)))=true then some (false,()) else (rounds (fun L1 (v1:fG×fG×Int×Unit)=>(if decide (v1.2.2.1<(v1.1.2.1.length:Int))=true then (if aI v1.2.2.1 v1.1.2.1.length then (if aI v1.2.2.1 v1.2.1.2.1.length then ((pV n (v1.1.2.1.getD v1.2.2.1.toNat dF) (v1.2.1.2.1.getD v1.2.2.1.toNat dF)).bind fun r2=>(if (!r2.1)=true then some (false,()) else L1 (v1.1,v1.2.1,IntKind.i64.wrap (v1.2.2.1+(1:Int)),()))) else none) else none) else some (true,()))) n (a0,a1,(0:Int),()))))
def abd:Entry:=⟨96,[.ro qo, .ro qo],[.val .bool [] []],fun n c=>uS n c.1 c.2.1⟩
def ad8:Hint:=⟨0,[],[(0,[0,1,5],[])],[],[(131,some 49,abb)],[],[],[],[]⟩
theorem ahA:iy T ad8 Tryz.f96 abd:=by intro n c; kernel_rfl
theorem aiT [Fr] (n:Nat):aj Tryz.prog n abd:=ak mixed aL Tryz.func96 (by kernel_rfl) (hi:=ad8) (aa (aiS n) aD) ahA
def qL (n:Nat) (a0:BB):Option (Int×Unit):=(if decide ((IntKind.i64.wrap ((a0.2.1.length:Int)+(a0.2.2.1.length:Int)))>(8000:Int))=true then some ((2:Int),()) else (if (!a0.1)=true then (if decide ((a0.2.2.1.length:Int)>(0:Int))=true then some ((1:Int),()) else (if (!decide (a0.2.2.2.1.1=(0:Int)))=true then some ((1:Int),()) else (if decide ((a0.2.2.2.1.2.1.length:Int)>(0:Int))=true then some ((1:Int),()) else some ((0:Int),())))) else ((jv n a0.2.2.2.1).bind fun r1=>(if (!decide (r1.1=(0:Int)))=true then some (r1.1,()) else ((uR n a0).bind fun r2=>(if (!r2.2.1)=true then some ((5:Int),()) else ((nD n).bind fun r3=>((jN n r3.1 r2.1).bind fun r4=>(if (!decide (r4.1.1=(0:Int)))=true then some ((9:Int),()) else ((uS n r4.1.2.2.1 a0.2.2.2.1).bind fun r5=>(if (!r5.1)=true then some ((9:Int),()) else some ((0:Int),()))))))))))))
def abe:Entry:=⟨40,[.ro Dl],[.val (.int .i64) [] []],fun n c=>qL n c.1⟩
def ad9:Hint:=⟨0,[],[],[],[(95,some 50,E_4),(88,some 56,aa2),(60,some 61,YJ),(59,some 63,YM),(96,some 72,abd)],[],[],[],[]⟩
theorem ahB:iy T ad9 Tryz.f40 abe:=by intro n c; kernel_rfl
theorem aiV [Fr] (n:Nat):aj Tryz.prog n abe:=ak mixed aL Tryz.func40 (by kernel_rfl) (hi:=ad9) (aa (K_4 n) (aa (aiJ n) (aa (ae9 n) (aa (afc n) (aa (aiT n) aD))))) ahB
def qA (n:Nat) (a0:Int):Option (Oq×Unit):=some ((a0,([]:List Int),Zd,()),())
def VF:Entry:=⟨57,[.val (.int .i64) []],[.own MO [2,5,114,117] [] []],fun n c=>qA n c.1⟩
def aea:Hint:=⟨0,[],[],[],[],[],[],[],[]⟩
theorem ahC:iy T aea Tryz.f57 VF:=by intro n c; kernel_rfl
theorem abW [Fr] (n:Nat):aj Tryz.prog n VF:=ak mixed aL Tryz.func57 (by kernel_rfl) (hi:=aea) aD ahC
def kK (n:Nat) (a0:BB):Option (Oq×Unit):=((qL n a0).bind fun r1=>(if (!decide (r1.1=(0:Int)))=true then ((qA n r1.1).bind fun r2=>some (r2.1,())) else (if a0.1=true then ((qA n (9:Int)).bind fun r3=>some (r3.1,())) else ((je n a0.2.1).bind fun r4=>((nD n).bind fun r5=>((jN n r5.1 r4.1).bind fun r6=>(if (!decide (r6.1.1=(0:Int)))=true then ((qA n r6.1.1).bind fun r7=>some (r7.1,())) else (if 0≤r4.2.1∧r4.2.1≤(a0.2.1.length:Int) then ((nM n (a0.2.1.take r4.2.1.toNat)).bind fun r8=>some (((0:Int),([]:List Int),(true,r8.1,([]:List Int),r6.1.2.2.1,()),()),())) else none))))))))
def abf:Entry:=⟨18,[.val Dl []],[.val MO [] []],fun n c=>kK n c.1⟩
def aeb:Hint:=⟨0,[],[],[],[(40,some 7,abe),(57,some 11,VF),(57,some 14,VF),(58,some 18,VA),(60,some 21,YJ),(59,some 23,YM),(57,some 29,VF),(61,some 34,VB)],[],[],[],[]⟩
theorem ahD:iy T aeb Tryz.f18 abf:=by intro n c; kernel_rfl
theorem aiW [Fr] (n:Nat):aj Tryz.prog n abf:=ak mixed aL Tryz.func18 (by kernel_rfl) (hi:=aeb) (aa (aiV n) (aa (abW n) (aa (abW n) (aa (abR n) (aa (ae9 n) (aa (afc n) (aa (abW n) (aa (abS n) aD)))))))) ahD
def eZ (n:Nat) (a0:Int) (a1:Int) (a2:Int):Option (Bool×Unit):=(if decide (a0≥a1)=true then some (decide (a0≤a2),()) else some (false,()))
def KI:Entry:=⟨51,[.val (.int .i64) [], .val (.int .i64) [], .val (.int .i64) []],[.val .bool [] []],fun n c=>eZ n c.1 c.2.1 c.2.2.1⟩
def aec:Hint:=⟨0,[],[],[],[],[],[],[],[]⟩
theorem ahE:iy T aec Tryz.f51 KI:=by intro n c; kernel_rfl
theorem Ob [Fr] (n:Nat):aj Tryz.prog n KI:=ak mixed aL Tryz.func51 (by kernel_rfl) (hi:=aec) aD ahE
def mG (n:Nat) (a0:List Int) (a1:Int):Option (Bool×Unit):=(rounds (fun L1 (v1:(List Int)×Int×Int×Int×Unit)=>(if decide (v1.2.2.2.1<v1.2.2.1)=true then (if aI v1.2.2.2.1 v1.1.length then (if decide ((v1.1.getD v1.2.2.2.1.toNat 0)<(97:Int))=true then some (false,()) else (if aI v1.2.2.2.1 v1.1.length then (if decide ((v1.1.getD v1.2.2.2.1.toNat 0)>(122:Int))=true then some (false,()) else L1 (v1.1,v1.2.1,v1.2.2.1,IntKind.i64.wrap (v1.2.2.2.1+(1:Int)),())) else none)) else none) else (if decide ((v1.1.length:Int)≥(1:Int))=true then some (decide ((v1.1.length:Int)≤v1.2.1),()) else some (false,())))) n (a0,a1,(a0.length:Int),(0:Int),()))
def abg:Entry:=⟨106,[.val .str [], .val (.int .i64) []],[.val .bool [] []],fun n c=>mG n c.1 c.2.1⟩
def aed:Hint:=⟨0,[],[(0,[0,1,7,8],[])],[],[],[],[],[],[]⟩
theorem ahF:iy T aed Tryz.f106 abg:=by intro n c; kernel_rfl
theorem aiX [Fr] (n:Nat):aj Tryz.prog n abg:=ak mixed aL Tryz.func106 (by kernel_rfl) (hi:=aed) aD ahF
def nL (n:Nat) (a0:List Int):Option (Bool×Unit):=((mG n a0 (8:Int)).bind fun r1=>some (r1.1,()))
def VG:Entry:=⟨55,[.val .str []],[.val .bool [] []],fun n c=>nL n c.1⟩
def aee:Hint:=⟨0,[],[],[],[(106,some 4,abg)],[],[],[],[]⟩
theorem ahG:iy T aee Tryz.f55 VG:=by intro n c; kernel_rfl
theorem abX [Fr] (n:Nat):aj Tryz.prog n VG:=ak mixed aL Tryz.func55 (by kernel_rfl) (hi:=aee) (aa (aiX n) aD) ahG
def pR (n:Nat) (a0:Int):Option (Bool×Unit):=((eZ n a0 (1:Int) (999:Int)).bind fun r1=>some (r1.1,()))
def YN:Entry:=⟨105,[.val (.int .i64) []],[.val .bool [] []],fun n c=>pR n c.1⟩
def aef:Hint:=⟨0,[],[],[],[(51,some 4,KI)],[],[],[],[]⟩
theorem ahH:iy T aef Tryz.f105 YN:=by intro n c; kernel_rfl
theorem afd [Fr] (n:Nat):aj Tryz.prog n YN:=ak mixed aL Tryz.func105 (by kernel_rfl) (hi:=aef) (aa (Ob n) aD) ahH
def fA (n:Nat) (a0:Int):Option (Bool×Unit):=((eZ n a0 (0:Int) (15:Int)).bind fun r1=>some (r1.1,()))
def YO:Entry:=⟨155,[.val (.int .i64) []],[.val .bool [] []],fun n c=>fA n c.1⟩
def aeg:Hint:=⟨0,[],[],[],[(51,some 4,KI)],[],[],[],[]⟩
theorem ahI:iy T aeg Tryz.f155 YO:=by intro n c; kernel_rfl
theorem afe [Fr] (n:Nat):aj Tryz.prog n YO:=ak mixed aL Tryz.func155 (by kernel_rfl) (hi:=aeg) (aa (Ob n) aD) ahI
def gN (n:Nat) (a0:Int):Option (Bool×Unit):=((eZ n a0 (0:Int) (9999:Int)).bind fun r1=>some (r1.1,()))
def YP:Entry:=⟨156,[.val (.int .i64) []],[.val .bool [] []],fun n c=>gN n c.1⟩
def aeh:Hint:=⟨0,[],[],[],[(51,some 4,KI)],[],[],[],[]⟩
theorem ahJ:iy T aeh Tryz.f156 YP:=by intro n c; kernel_rfl
theorem aff [Fr] (n:Nat):aj Tryz.prog n YP:=ak mixed aL Tryz.func156 (by kernel_rfl) (hi:=aeh) (aa (Ob n) aD) ahJ
def iJ (n:Nat) (a0:ru):Option (Int×Unit):=((pR n a0.1).bind fun r1=>(if (!r1.1)=true then some ((3:Int),()) else ((fA n a0.2.1).bind fun r2=>(if (!r2.1)=true then some ((3:Int),()) else ((gN n a0.2.2.1).bind fun r3=>(if (!r3.1)=true then some ((3:Int),()) else (if decide ((a0.2.2.2.1.length:Int)>(400:Int))=true then some ((2:Int),()) else some ((0:Int),()))))))))
def abh:Entry:=⟨133,[.val zb []],[.val (.int .i64) [] []],fun n c=>iJ n c.1⟩
def aei:Hint:=⟨0,[],[],[],[(105,some 6,YN),(155,some 11,YO),(156,some 17,YP)],[],[],[],[]⟩
theorem ahK:iy T aei Tryz.f133 abh:=by intro n c; kernel_rfl
theorem aiY [Fr] (n:Nat):aj Tryz.prog n abh:=ak mixed aL Tryz.func133 (by kernel_rfl) (hi:=aei) (aa (afd n) (aa (afe n) (aa (aff n) aD))) ahK
def ny (n:Nat) (a0:dP):Option (Int×Unit):=((nL n a0.1).bind fun r1=>(if (!r1.1)=true then some ((5:Int),()) else ((eZ n a0.2.1 (1:Int) (999:Int)).bind fun r2=>(if (!r2.1)=true then some ((3:Int),()) else ((eZ n a0.2.2.1 (1:Int) (1000:Int)).bind fun r3=>(if (!r3.1)=true then some ((3:Int),()) else (if decide ((a0.2.2.2.1.length:Int)>(6:Int))=true then some ((2:Int),()) else (rounds (fun L4 (v4:Int×(List ru)×Int×Int×dP×Unit)=>(if decide (v4.2.2.2.1<v4.2.2.1)=true then (if aI v4.2.2.2.1 v4.2.1.length then ((iJ n (v4.2.1.getD v4.2.2.2.1.toNat kC)).bind fun r5=>(if (!decide (r5.1=(0:Int)))=true then some (r5.1,()) else (if decide (((v4.2.1.getD v4.2.2.2.1.toNat kC).1)≤v4.1)=true then some ((1:Int),()) else (if decide (((v4.2.1.getD v4.2.2.2.1.toNat kC).1)≥v4.2.2.2.2.1.2.2.1)=true then some ((1:Int),()) else L4 ((v4.2.1.getD v4.2.2.2.1.toNat kC).1,v4.2.1,v4.2.2.1,IntKind.i64.wrap (v4.2.2.2.1+(1:Int)),v4.2.2.2.2.1,()))))) else none) else some ((0:Int),()))) n ((0:Int),a0.2.2.2.1,(a0.2.2.2.1.length:Int),(0:Int),a0,())))))))))
def abj:Entry:=⟨98,[.val nG []],[.val (.int .i64) [] []],fun n c=>ny n c.1⟩
def aej:Hint:=⟨0,[],[(1,[1,3,29,30,31],[34])],[],[(55,some 10,VG),(51,some 15,KI),(51,some 20,KI),(133,some 36,abh)],[],[],[],[]⟩
theorem ahL:iy T aej Tryz.f98 abj:=by intro n c; kernel_rfl
theorem aiZ [Fr] (n:Nat):aj Tryz.prog n abj:=ak mixed aL Tryz.func98 (by kernel_rfl) (hi:=aej) (aa (abX n) (aa (Ob n) (aa (Ob n) (aa (aiY n) aD)))) ahL
def kF (n:Nat) (a0:dP) (a1:dP):Option (Bool×Unit):=(if decide (a0.1=a1.1)=true then some (true,()) else some (decide (a0.2.1=a1.2.1),()))
def abk:Entry:=⟨100,[.val nG [], .ro nG],[.val .bool [] []],fun n c=>kF n c.1 c.2.1⟩
def aek:Hint:=⟨0,[],[],[],[],[],[],[],[]⟩
theorem ahM:iy T aek Tryz.f100 abk:=by intro n c; kernel_rfl
theorem ai0 [Fr] (n:Nat):aj Tryz.prog n abk:=ak mixed aL Tryz.func100 (by kernel_rfl) (hi:=aek) aD ahM
def aX (n:Nat) (a0:List dP) (G7:dP):Option (Int×Unit):=(rounds (fun L1 (v1:(List dP)×dP×Int×Int×Unit)=>(if decide (v1.2.2.2.1<v1.2.2.1)=true then (if aI v1.2.2.2.1 v1.1.length then ((kF n (v1.1.getD v1.2.2.2.1.toNat dF) v1.2.1).bind fun r2=>(if r2.1=true then some (v1.2.2.2.1,()) else L1 (v1.1,v1.2.1,v1.2.2.1,IntKind.i64.wrap (v1.2.2.2.1+(1:Int)),()))) else none) else some ((-1:Int),()))) n (a0,G7,(a0.length:Int),(0:Int),()))
def abl:Entry:=⟨134,[.val (.sl 114 nG) [], .fn 100 [nG]],[.val (.int .i64) [] []],fun n c=>aX n c.1 c.2.1⟩
def ael:Hint:=⟨0,[],[(0,[0,1,7,8],[])],[],[(100,some 16,abk)],[],[],[],[]⟩
theorem ahN:iy T ael Tryz.f134 abl:=by intro n c; kernel_rfl
theorem ai1 [Fr] (n:Nat):aj Tryz.prog n abl:=ak mixed aL Tryz.func134 (by kernel_rfl) (hi:=ael) (aa (ai0 n) aD) ahN
def bB (n:Nat) (a0:List dP) (G7:dP):Option (Bool×Unit):=((aX n a0 G7).bind fun r1=>some (decide (r1.1≥(0:Int)),()))
def abm:Entry:=⟨99,[.val (.sl 114 nG) [], .fn 100 [nG]],[.val .bool [] []],fun n c=>bB n c.1 c.2.1⟩
def aem:Hint:=⟨0,[],[],[],[(134,some 7,abl)],[],[],[],[]⟩
theorem ahO:iy T aem Tryz.f99 abm:=by intro n c; kernel_rfl
theorem ai2 [Fr] (n:Nat):aj Tryz.prog n abm:=ak mixed aL Tryz.func99 (by kernel_rfl) (hi:=aem) (aa (ai1 n) aD) ahO
def ig (n:Nat) (a0:fG):Option (Int×Unit):=((eZ n a0.1 (1:Int) (1000:Int)).bind fun r1=>(if (!r1.1)=true then some ((3:Int),()) else (if decide ((a0.2.1.length:Int)>(3:Int))=true then some ((2:Int),()) else (rounds (fun L2 (v2:(List dP)×Int×Int×fG×Unit)=>(if decide (v2.2.2.1<v2.2.1)=true then (if aI v2.2.2.1 v2.1.length then ((ny n (v2.1.getD v2.2.2.1.toNat dF)).bind fun r3=>(if (!decide (r3.1=(0:Int)))=true then some (r3.1,()) else (if decide ((((v2.1.getD v2.2.2.1.toNat dF).2).1)≥v2.2.2.2.1.1)=true then some ((9:Int),()) else (if 0≤v2.2.2.1∧v2.2.2.1≤(v2.2.2.2.1.2.1.length:Int) then ((bB n (v2.2.2.2.1.2.1.take v2.2.2.1.toNat) (v2.1.getD v2.2.2.1.toNat dF)).bind fun r4=>(if r4.1=true then some ((6:Int),()) else L2 (v2.1,v2.2.1,IntKind.i64.wrap (v2.2.2.1+(1:Int)),v2.2.2.2.1,()))) else none)))) else none) else some ((0:Int),()))) n (a0.2.1,(a0.2.1.length:Int),(0:Int),a0,())))))
def YQ:Entry:=⟨43,[.val qo []],[.val (.int .i64) [] []],fun n c=>ig n c.1⟩
def aen:Hint:=⟨0,[],[(1,[1,17,18,19],[34])],[],[(51,some 9,KI),(98,some 25,abj),(99,some 41,abm)],[],[],[],[]⟩
theorem ahP:iy T aen Tryz.f43 YQ:=by intro n c; kernel_rfl
theorem afg [Fr] (n:Nat):aj Tryz.prog n YQ:=ak mixed aL Tryz.func43 (by kernel_rfl) (hi:=aen) (aa (Ob n) (aa (aiZ n) (aa (ai2 n) aD))) ahP
def cB (n:Nat) (a0:List Int):Option (Int×Unit):=some ((a0.length:Int),())
def N7:Entry:=⟨75,[.val (.sl 5 (.int .u8)) []],[.val (.int .i64) [] []],fun n c=>cB n c.1⟩
def aeo:Hint:=⟨0,[],[],[],[],[],[],[],[]⟩
theorem ahQ:iy T aeo Tryz.f75 N7:=by intro n c; kernel_rfl
theorem TK [Fr] (n:Nat):aj Tryz.prog n N7:=ak mixed aL Tryz.func75 (by kernel_rfl) (hi:=aeo) aD ahQ
def eU (n:Nat) (a0:Zt1) (a1:Int):Option ((List Int)×Zt1×Unit):=(if a0.2.1=true then (if a1=a1∧0≤a1∧a1 * 1≤140737488355328 then some (List.replicate a1.toNat (0:Int),(a0.1,true,a0.2.2),()) else none) else ((cB n a0.1).bind fun r1=>(if decide (a1>r1.1)=true then (if a1=a1∧0≤a1∧a1 * 1≤140737488355328 then some (List.replicate a1.toNat (0:Int),(a0.1,true,a0.2.2),()) else none) else (if 0≤a1∧a1≤(a0.1.length:Int) then (if 0≤a1∧a1≤(a0.1.length:Int) then some (a0.1.take a1.toNat,(a0.1.drop a1.toNat,a0.2),()) else none) else none))))
def Qi:Entry:=⟨146,[.rw TQ [] [4294967295] [5], .val (.int .i64) []],[.val (.sl 5 (.int .u8)) [0] []],fun n c=>eU n c.1 c.2.1⟩
def aep:Hint:=⟨0,[],[],[],[(75,some 16,N7)],[],[],[],[]⟩
theorem ahR:iy T aep Tryz.f146 Qi:=by intro n c; kernel_rfl
theorem VW [Fr] (n:Nat):aj Tryz.prog n Qi:=ak mixed aL Tryz.func146 (by kernel_rfl) (hi:=aep) (aa (TK n) aD) ahR
def gH (n:Nat) (a0:Zt1):Option (Int×Zt1×Unit):=((eU n a0 (2:Int)).bind fun r1=>(if aI (0:Int) r1.1.length then (if aI (1:Int) r1.1.length then some (IntKind.i64.wrap ((IntKind.i64.wrap ((IntKind.i64.wrap (r1.1.getD (0:Int).toNat (0:Int))) * (256:Int)))+(IntKind.i64.wrap (r1.1.getD (1:Int).toNat (0:Int)))),r1.2.1,()) else none) else none))
def TF:Entry:=⟨144,[.rw TQ [] [4294967295] [5]],[.val (.int .i64) [] []],fun n c=>gH n c.1⟩
def aer:Hint:=⟨0,[],[],[],[(146,some 5,Qi)],[],[],[],[]⟩
theorem ahS:iy T aer Tryz.f144 TF:=by intro n c; kernel_rfl
theorem YY [Fr] (n:Nat):aj Tryz.prog n TF:=ak mixed aL Tryz.func144 (by kernel_rfl) (hi:=aer) (aa (VW n) aD) ahS
def eO (n:Nat) (a0:Zt1):Option (Int×Zt1×Unit):=((eU n a0 (1:Int)).bind fun r1=>(if aI (0:Int) r1.1.length then some (IntKind.i64.wrap (r1.1.getD (0:Int).toNat (0:Int)),r1.2.1,()) else none))
def N8:Entry:=⟨145,[.rw TQ [] [4294967295] [5]],[.val (.int .i64) [] []],fun n c=>eO n c.1⟩
def aes:Hint:=⟨0,[],[],[],[(146,some 4,Qi)],[],[],[],[]⟩
theorem ahT:iy T aes Tryz.f145 N8:=by intro n c; kernel_rfl
theorem TL [Fr] (n:Nat):aj Tryz.prog n N8:=ak mixed aL Tryz.func145 (by kernel_rfl) (hi:=aes) (aa (VW n) aD) ahT
def nA (n:Nat) (a0:gX):Option (Bool×Unit):=(if decide (a0.1=(5:Int))=true then some (true,()) else some (decide (a0.1=(6:Int)),()))
def VI:Entry:=⟨154,[.val jI []],[.val .bool [] []],fun n c=>nA n c.1⟩
def aet:Hint:=⟨0,[],[],[],[],[],[],[],[]⟩
theorem ahU:iy T aet Tryz.f154 VI:=by intro n c; kernel_rfl
theorem abY [Fr] (n:Nat):aj Tryz.prog n VI:=ak mixed aL Tryz.func154 (by kernel_rfl) (hi:=aet) aD ahU
def jT (n:Nat) (a0:gX):Option (Bool×Unit):=((nA n a0).bind fun r1=>(if r1.1=true then some (true,()) else some (decide (a0.1=(4:Int)),())))
def abn:Entry:=⟨188,[.val jI []],[.val .bool [] []],fun n c=>jT n c.1⟩
def aeu:Hint:=⟨0,[],[],[],[(154,some 4,VI)],[],[],[],[]⟩
theorem ahV:iy T aeu Tryz.f188 abn:=by intro n c; kernel_rfl
theorem ai4 [Fr] (n:Nat):aj Tryz.prog n abn:=ak mixed aL Tryz.func188 (by kernel_rfl) (hi:=aeu) (aa (abY n) aD) ahV
def pO (n:Nat) (a0:gX):Option (Bool×Unit):=((nA n a0).bind fun r1=>(if r1.1=true then ((jT n a0).bind fun r2=>(if r2.1=true then (if decide (a0.1=(4:Int))=true then (if decide (a0.1=(4:Int))=true then (if decide (a0.1=(3:Int))=true then some (true,()) else (if decide (a0.2.2.2.2.2.2.1=(0:Int))=true then some (decide ((a0.2.2.2.2.2.2.2.1.length:Int)=(0:Int)),()) else some (false,()))) else (if decide (a0.1=(3:Int))=true then (if decide (a0.1=(3:Int))=true then some (true,()) else (if decide (a0.2.2.2.2.2.2.1=(0:Int))=true then some (decide ((a0.2.2.2.2.2.2.2.1.length:Int)=(0:Int)),()) else some (false,()))) else (if decide (a0.2.2.2.2.2.1=(0:Int))=true then (if decide (a0.1=(3:Int))=true then some (true,()) else (if decide (a0.2.2.2.2.2.2.1=(0:Int))=true then some (decide ((a0.2.2.2.2.2.2.2.1.length:Int)=(0:Int)),()) else some (false,()))) else some (false,())))) else (if decide (a0.2.2.2.2.1=(0:Int))=true then (if decide (a0.1=(4:Int))=true then (if decide (a0.1=(3:Int))=true then some (true,()) else (if decide (a0.2.2.2.2.2.2.1=(0:Int))=true then some (decide ((a0.2.2.2.2.2.2.2.1.length:Int)=(0:Int)),()) else some (false,()))) else (if decide (a0.1=(3:Int))=true then (if decide (a0.1=(3:Int))=true then some (true,()) else (if decide (a0.2.2.2.2.2.2.1=(0:Int))=true then some (decide ((a0.2.2.2.2.2.2.2.1.length:Int)=(0:Int)),()) else some (false,()))) else (if decide (a0.2.2.2.2.2.1=(0:Int))=true then (if decide (a0.1=(3:Int))=true then some (true,()) else (if decide (a0.2.2.2.2.2.2.1=(0:Int))=true then some (decide ((a0.2.2.2.2.2.2.2.1.length:Int)=(0:Int)),()) else some (false,()))) else some (false,())))) else some (false,()))) else (if decide ((a0.2.2.2.1.length:Int)=(0:Int))=true then (if decide (a0.1=(4:Int))=true then (if decide (a0.1=(4:Int))=true then (if decide (a0.1=(3:Int))=true then some (true,()) else (if decide (a0.2.2.2.2.2.2.1=(0:Int))=true then some (decide ((a0.2.2.2.2.2.2.2.1.length:Int)=(0:Int)),()) else some (false,()))) else (if decide (a0.1=(3:Int))=true then (if decide (a0.1=(3:Int))=true then some (true,()) else (if decide (a0.2.2.2.2.2.2.1=(0:Int))=true then some (decide ((a0.2.2.2.2.2.2.2.1.length:Int)=(0:Int)),()) else some (false,()))) else (if decide (a0.2.2.2.2.2.1=(0:Int))=true then (if decide (a0.1=(3:Int))=true then some (true,()) else (if decide (a0.2.2.2.2.2.2.1=(0:Int))=true then some (decide ((a0.2.2.2.2.2.2.2.1.length:Int)=(0:Int)),()) else some (false,()))) else some (false,())))) else (if decide (a0.2.2.2.2.1=(0:Int))=true then (if decide (a0.1=(4:Int))=true then (if decide (a0.1=(3:Int))=true then some (true,()) else (if decide (a0.2.2.2.2.2.2.1=(0:Int))=true then some (decide ((a0.2.2.2.2.2.2.2.1.length:Int)=(0:Int)),()) else some (false,()))) else (if decide (a0.1=(3:Int))=true then (if decide (a0.1=(3:Int))=true then some (true,()) else (if decide (a0.2.2.2.2.2.2.1=(0:Int))=true then some (decide ((a0.2.2.2.2.2.2.2.1.length:Int)=(0:Int)),()) else some (false,()))) else (if decide (a0.2.2.2.2.2.1=(0:Int))=true then (if decide (a0.1=(3:Int))=true then some (true,()) else (if decide (a0.2.2.2.2.2.2.1=(0:Int))=true then some (decide ((a0.2.2.2.2.2.2.2.1.length:Int)=(0:Int)),()) else some (false,()))) else some (false,())))) else some (false,()))) else some (false,())))) else (if decide (a0.2.2.1=([]:List Int))=true then ((jT n a0).bind fun r3=>(if r3.1=true then (if decide (a0.1=(4:Int))=true then (if decide (a0.1=(4:Int))=true then (if decide (a0.1=(3:Int))=true then some (true,()) else (if decide (a0.2.2.2.2.2.2.1=(0:Int))=true then some (decide ((a0.2.2.2.2.2.2.2.1.length:Int)=(0:Int)),()) else some (false,()))) else (if decide (a0.1=(3:Int))=true then (if decide (a0.1=(3:Int))=true then some (true,()) else (if decide (a0.2.2.2.2.2.2.1=(0:Int))=true then some (decide ((a0.2.2.2.2.2.2.2.1.length:Int)=(0:Int)),()) else some (false,()))) else (if decide (a0.2.2.2.2.2.1=(0:Int))=true then (if decide (a0.1=(3:Int))=true then some (true,()) else (if decide (a0.2.2.2.2.2.2.1=(0:Int))=true then some (decide ((a0.2.2.2.2.2.2.2.1.length:Int)=(0:Int)),()) else some (false,()))) else some (false,())))) else (if decide (a0.2.2.2.2.1=(0:Int))=true then (if decide (a0.1=(4:Int))=true then (if decide (a0.1=(3:Int))=true then some (true,()) else (if decide (a0.2.2.2.2.2.2.1=(0:Int))=true then some (decide ((a0.2.2.2.2.2.2.2.1.length:Int)=(0:Int)),()) else some (false,()))) else (if decide (a0.1=(3:Int))=true then (if decide (a0.1=(3:Int))=true then some (true,()) else (if decide (a0.2.2.2.2.2.2.1=(0:Int))=true then some (decide ((a0.2.2.2.2.2.2.2.1.length:Int)=(0:Int)),()) else some (false,()))) else (if decide (a0.2.2.2.2.2.1=(0:Int))=true then (if decide (a0.1=(3:Int))=true then some (true,()) else (if decide (a0.2.2.2.2.2.2.1=(0:Int))=true then some (decide ((a0.2.2.2.2.2.2.2.1.length:Int)=(0:Int)),()) else some (false,()))) else some (false,())))) else some (false,()))) else (if decide ((a0.2.2.2.1.length:Int)=(0:Int))=true then (if decide (a0.1=(4:Int))=true then (if decide (a0.1=(4:Int))=true then (if decide (a0.1=(3:Int))=true then some (true,()) else (if decide (a0.2.2.2.2.2.2.1=(0:Int))=true then some (decide ((a0.2.2.2.2.2.2.2.1.length:Int)=(0:Int)),()) else some (false,()))) else (if decide (a0.1=(3:Int))=true then (if decide (a0.1=(3:Int))=true then some (true,()) else (if decide (a0.2.2.2.2.2.2.1=(0:Int))=true then some (decide ((a0.2.2.2.2.2.2.2.1.length:Int)=(0:Int)),()) else some (false,()))) else (if decide (a0.2.2.2.2.2.1=(0:Int))=true then (if decide (a0.1=(3:Int))=true then some (true,()) else (if decide (a0.2.2.2.2.2.2.1=(0:Int))=true then some (decide ((a0.2.2.2.2.2.2.2.1.length:Int)=(0:Int)),()) else some (false,()))) else some (false,())))) else (if decide (a0.2.2.2.2.1=(0:Int))=true then (if decide (a0.1=(4:Int))=true then (if decide (a0.1=(3:Int))=true then some (true,()) else (if decide (a0.2.2.2.2.2.2.1=(0:Int))=true then some (decide ((a0.2.2.2.2.2.2.2.1.length:Int)=(0:Int)),()) else some (false,()))) else (if decide (a0.1=(3:Int))=true then (if decide (a0.1=(3:Int))=true then some (true,()) else (if decide (a0.2.2.2.2.2.2.1=(0:Int))=true then some (decide ((a0.2.2.2.2.2.2.2.1.length:Int)=(0:Int)),()) else some (false,()))) else (if decide (a0.2.2.2.2.2.1=(0:Int))=true then (if decide (a0.1=(3:Int))=true then some (true,()) else (if decide (a0.2.2.2.2.2.2.1=(0:Int))=true then some (decide ((a0.2.2.2.2.2.2.2.1.length:Int)=(0:Int)),()) else some (false,()))) else some (false,())))) else some (false,()))) else some (false,())))) else some (false,()))))
def abo:Entry:=⟨153,[.val jI []],[.val .bool [] []],fun n c=>pO n c.1⟩
def aev:Hint:=⟨0,[],[],[],[(154,some 12,VI),(188,some 20,abn)],[],[],[],[]⟩
theorem ahW:iy T aev Tryz.f153 abo:=by intro n c; kernel_rfl
theorem ai5 [Fr] (n:Nat):aj Tryz.prog n abo:=ak mixed aL Tryz.func153 (by kernel_rfl) (hi:=aev) (aa (abY n) (aa (ai4 n) aD)) ahW
def oU (n:Nat) (a0:List Int):Option (Bool×Unit):=(rounds (fun L1 (v1:(List Int)×(List Int)×Int×Int×Unit)=>(if decide (v1.2.2.2.1<v1.2.2.1)=true then (if aI v1.2.2.2.1 v1.2.1.length then ((pR n (v1.2.1.getD v1.2.2.2.1.toNat (0:Int))).bind fun r2=>(if (!r2.1)=true then some (false,()) else (if decide (v1.2.2.2.1>(0:Int))=true then (if aI (IntKind.i64.wrap (v1.2.2.2.1 - (1:Int))) v1.1.length then (if decide ((v1.1.getD (IntKind.i64.wrap (v1.2.2.2.1 - (1:Int))).toNat (0:Int))≥(v1.2.1.getD v1.2.2.2.1.toNat (0:Int)))=true then some (false,()) else L1 (v1.1,v1.2.1,v1.2.2.1,IntKind.i64.wrap (v1.2.2.2.1+(1:Int)),())) else none) else L1 (v1.1,v1.2.1,v1.2.2.1,IntKind.i64.wrap (v1.2.2.2.1+(1:Int)),())))) else none) else some (true,()))) n (a0,a0,(a0.length:Int),(0:Int),()))
def abp:Entry:=⟨54,[.val (.sl 2 (.int .i64)) []],[.val .bool [] []],fun n c=>oU n c.1⟩
def aew:Hint:=⟨0,[],[(0,[0,5,6,7],[])],[],[(105,some 13,YN)],[],[],[],[]⟩
theorem ahX:iy T aew Tryz.f54 abp:=by intro n c; kernel_rfl
theorem ai6 [Fr] (n:Nat):aj Tryz.prog n abp:=ak mixed aL Tryz.func54 (by kernel_rfl) (hi:=aew) (aa (afd n) aD) ahX
def oQ (n:Nat) (a0:gX):Option (Int×Unit):=((eZ n a0.1 (1:Int) (7:Int)).bind fun r1=>(if (!r1.1)=true then some ((1:Int),()) else ((pO n a0).bind fun r2=>(if (!r2.1)=true then some ((1:Int),()) else ((nL n a0.2.1).bind fun r3=>(if (!r3.1)=true then some ((5:Int),()) else ((nA n a0).bind fun r4=>(if r4.1=true then ((nL n a0.2.2.1).bind fun r5=>(if (!r5.1)=true then some ((5:Int),()) else (if decide ((a0.2.2.2.1.length:Int)>(6:Int))=true then some ((2:Int),()) else ((oU n a0.2.2.2.1).bind fun r6=>(if (!r6.1)=true then some ((3:Int),()) else (if decide (a0.1=(4:Int))=true then ((eZ n a0.2.2.2.2.1 (1:Int) (3:Int)).bind fun r7=>(if (!r7.1)=true then some ((3:Int),()) else ((fA n a0.2.2.2.2.2.1).bind fun r8=>(if (!r8.1)=true then some ((3:Int),()) else ((gN n a0.2.2.2.2.2.2.1).bind fun r9=>(if (!r9.1)=true then some ((3:Int),()) else (if decide ((a0.2.2.2.2.2.2.2.1.length:Int)>(400:Int))=true then some ((2:Int),()) else some ((0:Int),())))))))) else ((fA n a0.2.2.2.2.2.1).bind fun ND=>(if (!ND.1)=true then some ((3:Int),()) else ((gN n a0.2.2.2.2.2.2.1).bind fun Ih=>(if (!Ih.1)=true then some ((3:Int),()) else (if decide ((a0.2.2.2.2.2.2.2.1.length:Int)>(400:Int))=true then some ((2:Int),()) else some ((0:Int),())))))))))))) else (if decide ((a0.2.2.2.1.length:Int)>(6:Int))=true then some ((2:Int),()) else ((oU n a0.2.2.2.1).bind fun Kb=>(if (!Kb.1)=true then some ((3:Int),()) else (if decide (a0.1=(4:Int))=true then ((eZ n a0.2.2.2.2.1 (1:Int) (3:Int)).bind fun NV=>(if (!NV.1)=true then some ((3:Int),()) else ((fA n a0.2.2.2.2.2.1).bind fun Yc=>(if (!Yc.1)=true then some ((3:Int),()) else ((gN n a0.2.2.2.2.2.2.1).bind fun Tq=>(if (!Tq.1)=true then some ((3:Int),()) else (if decide ((a0.2.2.2.2.2.2.2.1.length:Int)>(400:Int))=true then some ((2:Int),()) else some ((0:Int),())))))))) else ((fA n a0.2.2.2.2.2.1).bind fun r16=>(if (!r16.1)=true then some ((3:Int),()) else ((gN n a0.2.2.2.2.2.2.1).bind fun r17=>(if (!r17.1)=true then some ((3:Int),()) else (if decide ((a0.2.2.2.2.2.2.2.1.length:Int)>(400:Int))=true then some ((2:Int),()) else some ((0:Int),()))))))))))))))))))
def YR:Entry:=⟨117,[.val jI []],[.val (.int .i64) [] []],fun n c=>oQ n c.1⟩
def aex:Hint:=⟨0,[],[],[],[(51,some 6,KI),(153,some 10,abo),(55,some 16,VG),(154,some 20,VI),(55,some 24,VG),(54,some 36,abp),(51,some 45,KI),(155,some 52,YO),(156,some 58,YP)],[],[],[],[]⟩
theorem ahY:iy T aex Tryz.f117 YR:=by intro n c; kernel_rfl
theorem afh [Fr] (n:Nat):aj Tryz.prog n YR:=ak mixed aL Tryz.func117 (by kernel_rfl) (hi:=aex) (aa (Ob n) (aa (ai5 n) (aa (abX n) (aa (abY n) (aa (abX n) (aa (ai6 n) (aa (Ob n) (aa (afe n) (aa (aff n) aD))))))))) ahY
def oV (n:Nat) (a0:Int):Option ((List Int)×Unit):=(if (256:Int)≠0 then (if (256:Int)≠0 then some ([IntKind.u8.wrap (IntKind.i64.wrap (a0.tdiv (256:Int))),IntKind.u8.wrap (a0.tmod (256:Int))],()) else none) else none)
def Qj:Entry:=⟨164,[.val (.int .i64) []],[.own (.sl 5 (.int .u8)) [5] [] []],fun n c=>oV n c.1⟩
def aey:Hint:=⟨0,[],[],[],[],[],[],[],[]⟩
theorem ahZ:iy T aey Tryz.f164 Qj:=by intro n c; kernel_rfl
theorem VX [Fr] (n:Nat):aj Tryz.prog n Qj:=ak mixed aL Tryz.func164 (by kernel_rfl) (hi:=aey) aD ahZ
def wm (n:Nat) (a0:List Int):Option (Int×Unit):=(rounds (fun L1 (v1:Int×(List Int)×Int×Int×Unit)=>(if decide (v1.2.2.2.1<v1.2.2.1)=true then (if aI v1.2.2.2.1 v1.2.1.length then (if (65521:Int)≠0 then L1 ((IntKind.i64.wrap ((IntKind.i64.wrap (v1.1 * (31:Int)))+(IntKind.i64.wrap (v1.2.1.getD v1.2.2.2.1.toNat (0:Int))))).tmod (65521:Int),v1.2.1,v1.2.2.1,IntKind.i64.wrap (v1.2.2.2.1+(1:Int)),()) else none) else none) else some (v1.1,()))) n ((1:Int),a0,(a0.length:Int),(0:Int),()))
def abq:Entry:=⟨165,[.val (.sl 5 (.int .u8)) []],[.val (.int .i64) [] []],fun n c=>wm n c.1⟩
def aez:Hint:=⟨0,[],[(0,[3,6,7,8],[])],[],[],[],[],[],[]⟩
theorem ah0:iy T aez Tryz.f165 abq:=by intro n c; kernel_rfl
theorem ai7 [Fr] (n:Nat):aj Tryz.prog n abq:=ak mixed aL Tryz.func165 (by kernel_rfl) (hi:=aez) aD ah0
def uM (n:Nat) (a0:gX):Option ((List Int)×Unit):=(if ([IntKind.u8.wrap a0.1,IntKind.u8.wrap (a0.2.1.length:Int)].length+a0.2.1.length) * 1≤140737488355328 then (if (([IntKind.u8.wrap a0.1,IntKind.u8.wrap (a0.2.1.length:Int)]++a0.2.1).length+[IntKind.u8.wrap (a0.2.2.1.length:Int)].length) * 1≤140737488355328 then (if ((([IntKind.u8.wrap a0.1,IntKind.u8.wrap (a0.2.1.length:Int)]++a0.2.1)++[IntKind.u8.wrap (a0.2.2.1.length:Int)]).length+a0.2.2.1.length) * 1≤140737488355328 then (if (((([IntKind.u8.wrap a0.1,IntKind.u8.wrap (a0.2.1.length:Int)]++a0.2.1)++[IntKind.u8.wrap (a0.2.2.1.length:Int)])++a0.2.2.1).length+[IntKind.u8.wrap (a0.2.2.2.1.length:Int)].length) * 1≤140737488355328 then (rounds (fun L1 (v1:(List Int)×Int×Int×gX×(List Int)×Unit)=>(if decide (v1.2.2.1<v1.2.1)=true then (if aI v1.2.2.1 v1.1.length then ((oV n (v1.1.getD v1.2.2.1.toNat (0:Int))).bind fun r2=>(if (v1.2.2.2.2.1.length+r2.1.length) * 1≤140737488355328 then L1 (v1.1,v1.2.1,IntKind.i64.wrap (v1.2.2.1+(1:Int)),v1.2.2.2.1,v1.2.2.2.2.1++r2.1,()) else none)) else none) else (if (v1.2.2.2.2.1.length+[IntKind.u8.wrap v1.2.2.2.1.2.2.2.2.1,IntKind.u8.wrap v1.2.2.2.1.2.2.2.2.2.1].length) * 1≤140737488355328 then ((oV n v1.2.2.2.1.2.2.2.2.2.2.1).bind fun r3=>(if ((v1.2.2.2.2.1++[IntKind.u8.wrap v1.2.2.2.1.2.2.2.2.1,IntKind.u8.wrap v1.2.2.2.1.2.2.2.2.2.1]).length+r3.1.length) * 1≤140737488355328 then ((cB n v1.2.2.2.1.2.2.2.2.2.2.2.1).bind fun r4=>((oV n r4.1).bind fun r5=>(if (((v1.2.2.2.2.1++[IntKind.u8.wrap v1.2.2.2.1.2.2.2.2.1,IntKind.u8.wrap v1.2.2.2.1.2.2.2.2.2.1])++r3.1).length+r5.1.length) * 1≤140737488355328 then (if ((((v1.2.2.2.2.1++[IntKind.u8.wrap v1.2.2.2.1.2.2.2.2.1,IntKind.u8.wrap v1.2.2.2.1.2.2.2.2.2.1])++r3.1)++r5.1).length+v1.2.2.2.1.2.2.2.2.2.2.2.1.length) * 1≤140737488355328 then ((cB n ((((v1.2.2.2.2.1++[IntKind.u8.wrap v1.2.2.2.1.2.2.2.2.1,IntKind.u8.wrap v1.2.2.2.1.2.2.2.2.2.1])++r3.1)++r5.1)++v1.2.2.2.1.2.2.2.2.2.2.2.1)).bind fun r6=>((oV n (IntKind.i64.wrap (r6.1+(4:Int)))).bind fun r7=>(if (r7.1.length+((((v1.2.2.2.2.1++[IntKind.u8.wrap v1.2.2.2.1.2.2.2.2.1,IntKind.u8.wrap v1.2.2.2.1.2.2.2.2.2.1])++r3.1)++r5.1)++v1.2.2.2.1.2.2.2.2.2.2.2.1).length) * 1≤140737488355328 then ((wm n (r7.1++((((v1.2.2.2.2.1++[IntKind.u8.wrap v1.2.2.2.1.2.2.2.2.1,IntKind.u8.wrap v1.2.2.2.1.2.2.2.2.2.1])++r3.1)++r5.1)++v1.2.2.2.1.2.2.2.2.2.2.2.1))).bind fun r8=>((oV n r8.1).bind fun r9=>(if ((r7.1++((((v1.2.2.2.2.1++[IntKind.u8.wrap v1.2.2.2.1.2.2.2.2.1,IntKind.u8.wrap v1.2.2.2.1.2.2.2.2.2.1])++r3.1)++r5.1)++v1.2.2.2.1.2.2.2.2.2.2.2.1)).length+r9.1.length) * 1≤140737488355328 then some ((r7.1++((((v1.2.2.2.2.1++[IntKind.u8.wrap v1.2.2.2.1.2.2.2.2.1,IntKind.u8.wrap v1.2.2.2.1.2.2.2.2.2.1])++r3.1)++r5.1)++v1.2.2.2.1.2.2.2.2.2.2.2.1))++r9.1,()) else none))) else none))) else none) else none))) else none)) else none))) n (a0.2.2.2.1,(a0.2.2.2.1.length:Int),(0:Int),a0,((([IntKind.u8.wrap a0.1,IntKind.u8.wrap (a0.2.1.length:Int)]++a0.2.1)++[IntKind.u8.wrap (a0.2.2.1.length:Int)])++a0.2.2.1)++[IntKind.u8.wrap (a0.2.2.2.1.length:Int)],())) else none) else none) else none) else none)
def abr:Entry:=⟨122,[.val jI []],[.own (.sl 5 (.int .u8)) [5] [] []],fun n c=>uM n c.1⟩
def aeA:Hint:=⟨0,[],[(0,[1,3,37,38,39],[34,450])],[],[(164,some 45,Qj),(164,some 60,Qj),(75,some 64,N7),(164,some 65,Qj),(75,some 72,N7),(164,some 74,Qj),(165,some 79,abq),(164,some 80,Qj)],[],[],[],[]⟩
theorem ah1:iy T aeA Tryz.f122 abr:=by intro n c; kernel_rfl
theorem ai8 [Fr] (n:Nat):aj Tryz.prog n abr:=ak mixed aL Tryz.func122 (by kernel_rfl) (hi:=aeA) (aa (VX n) (aa (VX n) (aa (TK n) (aa (VX n) (aa (TK n) (aa (VX n) (aa (ai7 n) (aa (VX n) aD)))))))) ah1
def yH (n:Nat) (a0:List Int) (a1:List Int):Option (Bool×Unit):=some (decide (a0=a1),())
def abt:Entry:=⟨147,[.val (.sl 5 (.int .u8)) [], .val (.sl 5 (.int .u8)) []],[.val .bool [] []],fun n c=>yH n c.1 c.2.1⟩
def aeB:Hint:=⟨0,[],[],[],[],[],[],[],[]⟩
theorem ah2:iy T aeB Tryz.f147 abt:=by intro n c; kernel_rfl
theorem ai9 [Fr] (n:Nat):aj Tryz.prog n abt:=ak mixed aL Tryz.func147 (by kernel_rfl) (hi:=aeB) aD ah2
def qz (n:Nat) (a0:List Int):Option (gX×Int×Unit):=((gH n (a0,false,())).bind fun r1=>(if r1.2.1.2.1=true then some (Eg,(0:Int),()) else ((cB n a0).bind fun r2=>(if decide (r1.1>r2.1)=true then some (Eg,(0:Int),()) else (if 0≤(2:Int)∧(2:Int)≤(if r1.1>(2:Int) then r1.1 else (2:Int))∧(if r1.1>(2:Int) then r1.1 else (2:Int))≤(a0.length:Int) then ((eO n ((a0.take (if r1.1>(2:Int) then r1.1 else (2:Int)).toNat).drop (2:Int).toNat,r1.2.1.2)).bind fun r3=>((eO n r3.2.1).bind fun r4=>((eU n r4.2.1 r4.1).bind fun r5=>((eO n r5.2.1).bind fun r6=>((eU n r6.2.1 r6.1).bind fun r7=>((eO n r7.2.1).bind fun r8=>(rounds (fun L9 (v9:(List Int)×Int×Int×Int×gX×gX×Zt1×Unit)=>(if decide (v9.2.2.2.1<v9.2.2.1)=true then ((gH n v9.2.2.2.2.2.2.1).bind fun ND=>(if (v9.2.2.2.2.2.1.2.2.2.1.length+[ND.1].length) * 8≤140737488355328 then L9 (v9.1,v9.2.1,v9.2.2.1,IntKind.i64.wrap (v9.2.2.2.1+(1:Int)),v9.2.2.2.2.1,(v9.2.2.2.2.2.1.1,v9.2.2.2.2.2.1.2.1,v9.2.2.2.2.2.1.2.2.1,v9.2.2.2.2.2.1.2.2.2.1++[ND.1],v9.2.2.2.2.2.1.2.2.2.2),ND.2.1,()) else none)) else ((eO n v9.2.2.2.2.2.2.1).bind fun Ih=>((eO n Ih.2.1).bind fun Kb=>((gH n Kb.2.1).bind fun NV=>((gH n NV.2.1).bind fun Yc=>((eU n Yc.2.1 Yc.1).bind fun Tq=>(if (([]:List Int).length+Tq.1.length) * 1≤140737488355328 then (if Tq.2.1.2.1=true then some (Eg,(0:Int),()) else ((oQ n (v9.2.2.2.2.2.1.1,v9.2.2.2.2.2.1.2.1,v9.2.2.2.2.2.1.2.2.1,v9.2.2.2.2.2.1.2.2.2.1,Ih.1,Kb.1,NV.1,([]:List Int)++Tq.1,v9.2.2.2.2.2.1.2.2.2.2.2.2.2.2)).bind fun r16=>(if (!decide (r16.1=(0:Int)))=true then some (Eg,(0:Int),()) else ((uM n (v9.2.2.2.2.2.1.1,v9.2.2.2.2.2.1.2.1,v9.2.2.2.2.2.1.2.2.1,v9.2.2.2.2.2.1.2.2.2.1,Ih.1,Kb.1,NV.1,([]:List Int)++Tq.1,v9.2.2.2.2.2.1.2.2.2.2.2.2.2.2)).bind fun r17=>(if 0≤v9.2.1∧v9.2.1≤(v9.1.length:Int) then ((yH n r17.1 (v9.1.take v9.2.1.toNat)).bind fun r18=>(if (!r18.1)=true then some (Eg,(0:Int),()) else some ((v9.2.2.2.2.2.1.1,v9.2.2.2.2.2.1.2.1,v9.2.2.2.2.2.1.2.2.1,v9.2.2.2.2.2.1.2.2.2.1,Ih.1,Kb.1,NV.1,([]:List Int)++Tq.1,v9.2.2.2.2.2.1.2.2.2.2.2.2.2.2),v9.2.1,()))) else none))))) else none)))))))) n (a0,r1.1,r8.1,(0:Int),Eg,(r3.1,r5.1,r7.1,([]:List Int),(0:Int),(0:Int),(0:Int),([]:List Int),()),r8.2.1,())))))))) else none)))))
def abu:Entry:=⟨111,[.val (.sl 5 (.int .u8)) []],[.own jI [2,5] [] [], .val (.int .i64) [] []],fun n c=>qz n c.1⟩
def aeC:Hint:=⟨0,[50,92],[(0,[0,2,4,5,6,46,47],[66,194,290])],[],[(144,some 11,TF),(75,some 19,N7),(145,some 31,N8),(145,some 35,N8),(146,some 36,Qi),(145,some 41,N8),(146,some 42,Qi),(145,some 46,N8),(144,some 52,TF),(145,some 58,N8),(145,some 61,N8),(144,some 64,TF),(144,some 69,TF),(146,some 70,Qi),(117,some 79,YR),(122,some 84,abr),(147,some 88,abt)],[],[],[],[]⟩
theorem ah3:iy T aeC Tryz.f111 abu:=by intro n c; kernel_rfl
theorem aja [Fr] (n:Nat):aj Tryz.prog n abu:=ak mixed aL Tryz.func111 (by kernel_rfl) (hi:=aeC) (aa (YY n) (aa (TK n) (aa (TL n) (aa (TL n) (aa (VW n) (aa (TL n) (aa (VW n) (aa (TL n) (aa (YY n) (aa (TL n) (aa (TL n) (aa (YY n) (aa (YY n) (aa (VW n) (aa (afh n) (aa (ai8 n) (aa (ai9 n) aD))))))))))))))))) ah3
def kW (n:Nat) (a0:List Int):Option ((List gX)×Int×Unit):=(rounds (fun L1 (v1:(List Int)×Int×(List gX)×Unit)=>(if 0≤v1.2.1∧v1.2.1≤(v1.1.length:Int) then ((qz n (v1.1.drop v1.2.1.toNat)).bind fun r2=>(if decide (r2.2.1=(0:Int))=true then some (v1.2.2.1,v1.2.1,()) else (if (v1.2.2.1.length+[r2.1].length) * 112≤140737488355328 then L1 (v1.1,IntKind.i64.wrap (v1.2.1+r2.2.1),v1.2.2.1++[r2.1],()) else none))) else none)) n (a0,(0:Int),([]:List gX),()))
def VJ:Entry:=⟨62,[.val (.sl 5 (.int .u8)) []],[.own (.sl 72 jI) [2,5,72] [] [], .val (.int .i64) [] []],fun n c=>kW n c.1⟩
def aeD:Hint:=⟨0,[21],[(0,[0,4,5],[258])],[],[(111,some 13,abu)],[],[],[],[]⟩
theorem ah4:iy T aeD Tryz.f62 VJ:=by intro n c; kernel_rfl
theorem abZ [Fr] (n:Nat):aj Tryz.prog n VJ:=ak mixed aL Tryz.func62 (by kernel_rfl) (hi:=aeD) (aa (aja n) aD) ah4
def kU (n:Nat) (a0:BB):Option ((List gX)×Bool×Unit):=((kW n a0.2.1).bind fun r1=>((kW n a0.2.2.1).bind fun r2=>(if (r1.1.length+r2.1.length) * 112≤140737488355328 then ((cB n a0.2.1).bind fun r3=>(if decide (r1.2.1=r3.1)=true then ((cB n a0.2.2.1).bind fun r4=>some (r1.1++r2.1,decide (r2.2.1=r4.1),())) else some (r1.1++r2.1,false,()))) else none)))
def abv:Entry:=⟨44,[.val Dl []],[.own (.sl 72 jI) [2,5,72] [] [], .val .bool [] []],fun n c=>kU n c.1⟩
def aeE:Hint:=⟨0,[],[],[],[(62,some 11,VJ),(62,some 17,VJ),(75,some 26,N7),(75,some 32,N7)],[],[],[],[]⟩
theorem ah5:iy T aeE Tryz.f44 abv:=by intro n c; kernel_rfl
theorem ajc [Fr] (n:Nat):aj Tryz.prog n abv:=ak mixed aL Tryz.func44 (by kernel_rfl) (hi:=aeE) (aa (abZ n) (aa (abZ n) (aa (TK n) (aa (TK n) aD)))) ah5
def pQ (n:Nat)  : Option (fG×Unit):=some (((1:Int),([]:List dP),()),())
def YS:Entry:=⟨45,[],[.own qo [5,114,117] [] []],fun n c=>pQ n⟩
def aeF:Hint:=⟨0,[],[],[],[],[],[],[],[]⟩
theorem ah6:iy T aeF Tryz.f45 YS:=by intro n c; kernel_rfl
theorem afi [Fr] (n:Nat):aj Tryz.prog n YS:=ak mixed aL Tryz.func45 (by kernel_rfl) (hi:=aeF) aD ah6
def dz (n:Nat) (a0:List Int):Option ((List Int)×Unit):=(if a0.isEmpty=true then (agC [(.sl 5 (.int .u8))] (some (([]:List Int),())) (if (([]:List Int).length+a0.length) * 1≤140737488355328 then some (([]:List Int)++a0,()) else none)) else (if (([]:List Int).length+a0.length) * 1≤140737488355328 then some (([]:List Int)++a0,()) else none))
def TG:Entry:=⟨63,[.val (.sl 5 (.int .u8)) []],[.own (.sl 5 (.int .u8)) [5] [] []],fun n c=>dz n c.1⟩
def aeG:Hint:=⟨0,[],[],[],[],[],[],[],[]⟩
theorem ah7:iy T aeG Tryz.f63 TG:=by intro n c; kernel_rfl
theorem YZ [Fr] (n:Nat):aj Tryz.prog n TG:=ak mixed aL Tryz.func63 (by kernel_rfl) (hi:=aeG) aD ah7
def kT (n:Nat) (a0:fG):Option (fG×Unit):=(rounds (fun L1 (v1:(List dP)×Int×Int×fG×fG×Unit)=>(if decide (v1.2.2.1<v1.2.1)=true then (if aI v1.2.2.1 v1.1.length then (rounds (fun L2 (v2:(List dP)×Int×Int×(List ru)×Int×Int×fG×fG×dP×Unit)=>(if decide (v2.2.2.2.2.2.1<v2.2.2.2.2.1)=true then (if aI v2.2.2.2.2.2.1 v2.2.2.2.1.length then ((dz n (((((v2.2.2.2.1.getD v2.2.2.2.2.2.1.toNat kC).2).2).2).1)).bind fun r3=>(if (v2.2.2.2.2.2.2.2.2.1.2.2.2.1.length+[((v2.2.2.2.1.getD v2.2.2.2.2.2.1.toNat kC).1,((v2.2.2.2.1.getD v2.2.2.2.2.2.1.toNat kC).2).1,(((v2.2.2.2.1.getD v2.2.2.2.2.2.1.toNat kC).2).2).1,r3.1,((((v2.2.2.2.1.getD v2.2.2.2.2.2.1.toNat kC).2).2).2).2)].length) * 48≤140737488355328 then L2 (v2.1,v2.2.1,v2.2.2.1,v2.2.2.2.1,v2.2.2.2.2.1,IntKind.i64.wrap (v2.2.2.2.2.2.1+(1:Int)),v2.2.2.2.2.2.2.1,v2.2.2.2.2.2.2.2.1,(v2.2.2.2.2.2.2.2.2.1.1,v2.2.2.2.2.2.2.2.2.1.2.1,v2.2.2.2.2.2.2.2.2.1.2.2.1,v2.2.2.2.2.2.2.2.2.1.2.2.2.1++[((v2.2.2.2.1.getD v2.2.2.2.2.2.1.toNat kC).1,((v2.2.2.2.1.getD v2.2.2.2.2.2.1.toNat kC).2).1,(((v2.2.2.2.1.getD v2.2.2.2.2.2.1.toNat kC).2).2).1,r3.1,((((v2.2.2.2.1.getD v2.2.2.2.2.2.1.toNat kC).2).2).2).2)],v2.2.2.2.2.2.2.2.2.1.2.2.2.2),()) else none)) else none) else (if (v2.2.2.2.2.2.2.2.1.2.1.length+[v2.2.2.2.2.2.2.2.2.1].length) * 56≤140737488355328 then L1 (v2.1,v2.2.1,IntKind.i64.wrap (v2.2.2.1+(1:Int)),v2.2.2.2.2.2.2.1,(v2.2.2.2.2.2.2.2.1.1,v2.2.2.2.2.2.2.2.1.2.1++[v2.2.2.2.2.2.2.2.2.1],v2.2.2.2.2.2.2.2.1.2.2),()) else none))) n (v1.1,v1.2.1,v1.2.2.1,((((v1.1.getD v1.2.2.1.toNat dF).2).2).2).1,((((((v1.1.getD v1.2.2.1.toNat dF).2).2).2).1).length:Int),(0:Int),v1.2.2.2.1,v1.2.2.2.2.1,((v1.1.getD v1.2.2.1.toNat dF).1,((v1.1.getD v1.2.2.1.toNat dF).2).1,(((v1.1.getD v1.2.2.1.toNat dF).2).2).1,([]:List ru),()),())) else none) else some (v1.2.2.2.2.1,()))) n (a0.2.1,(a0.2.1.length:Int),(0:Int),Ot,(a0.1,([]:List dP),()),()))
def YT:Entry:=⟨79,[.val qo []],[.own qo [5,114,117] [] []],fun n c=>kT n c.1⟩
def aeH:Hint:=⟨0,[38,39,45,46,51],[(0,[2,3,13,14,15],[66,98]),(2,[2,3,6,13,14,15,27,28,29],[66,98,194])],[],[(63,some 35,TG)],[],[],[],[]⟩
theorem ah8:iy T aeH Tryz.f79 YT:=by intro n c; kernel_rfl
theorem afj [Fr] (n:Nat):aj Tryz.prog n YT:=ak mixed aL Tryz.func79 (by kernel_rfl) (hi:=aeH) (aa (YZ n) aD) ah8
def q8 (n:Nat) (a0:dP) (a1:List Int):Option (Bool×Unit):=some (decide (a0.1=a1),())
def abw:Entry:=⟨189,[.val nG [], .ro .str],[.val .bool [] []],fun n c=>q8 n c.1 c.2.1⟩
def aeI:Hint:=⟨0,[],[],[],[],[],[],[],[]⟩
theorem ah9:iy T aeI Tryz.f189 abw:=by intro n c; kernel_rfl
theorem ajd [Fr] (n:Nat):aj Tryz.prog n abw:=ak mixed aL Tryz.func189 (by kernel_rfl) (hi:=aeI) aD ah9
def bW (n:Nat) (a0:List dP) (G7:List Int):Option (Int×Unit):=(rounds (fun L1 (v1:(List dP)×(List Int)×Int×Int×Unit)=>(if decide (v1.2.2.2.1<v1.2.2.1)=true then (if aI v1.2.2.2.1 v1.1.length then ((q8 n (v1.1.getD v1.2.2.2.1.toNat dF) v1.2.1).bind fun r2=>(if r2.1=true then some (v1.2.2.2.1,()) else L1 (v1.1,v1.2.1,v1.2.2.1,IntKind.i64.wrap (v1.2.2.2.1+(1:Int)),()))) else none) else some ((-1:Int),()))) n (a0,G7,(a0.length:Int),(0:Int),()))
def abx:Entry:=⟨134,[.val (.sl 114 nG) [], .fn 189 [.str]],[.val (.int .i64) [] []],fun n c=>bW n c.1 c.2.1⟩
def aeJ:Hint:=⟨0,[],[(0,[0,1,7,8],[])],[],[(189,some 16,abw)],[],[],[],[]⟩
theorem aia:iy T aeJ Tryz.f134 abx:=by intro n c; kernel_rfl
theorem aje [Fr] (n:Nat):aj Tryz.prog n abx:=ak mixed aL Tryz.func134 (by kernel_rfl) (hi:=aeJ) (aa (ajd n) aD) aia
def iZ (n:Nat) (a0:fG) (a1:List Int):Option (Int×Unit):=((bW n a0.2.1 a1).bind fun r1=>some (r1.1,()))
def VK:Entry:=⟨158,[.val qo [], .val .str []],[.val (.int .i64) [] []],fun n c=>iZ n c.1 c.2.1⟩
def aeK:Hint:=⟨0,[],[],[],[(134,some 8,abx)],[],[],[],[]⟩
theorem aib:iy T aeK Tryz.f158 VK:=by intro n c; kernel_rfl
theorem ab0 [Fr] (n:Nat):aj Tryz.prog n VK:=ak mixed aL Tryz.func158 (by kernel_rfl) (hi:=aeK) (aa (aje n) aD) aib
def nT (n:Nat) (a0:fG) (a1:List Int):Option (Int×fG×Unit):=((iZ n a0 a1).bind fun r1=>(if decide (r1.1≥(0:Int))=true then some ((6:Int),a0,()) else (if decide ((a0.2.1.length:Int)=(3:Int))=true then some ((10:Int),a0,()) else (if decide (a0.1=(1000:Int))=true then some ((10:Int),a0,()) else (if (a0.2.1.length+[(a1,a0.1,(1:Int),([]:List ru),())].length) * 56≤140737488355328 then some ((0:Int),(IntKind.i64.wrap (a0.1+(1:Int)),a0.2.1++[(a1,a0.1,(1:Int),([]:List ru),())],a0.2.2),()) else none)))))
def aby:Entry:=⟨157,[.rw qo [5,114,117] [5,114,117,4294967295] [5,114,117], .val .str []],[.val (.int .i64) [] []],fun n c=>nT n c.1 c.2.1⟩
def aeL:Hint:=⟨0,[30],[],[],[(158,some 10,VK)],[],[],[],[]⟩
theorem aic:iy T aeL Tryz.f157 aby:=by intro n c; kernel_rfl
theorem ajf [Fr] (n:Nat):aj Tryz.prog n aby:=ak mixed aL Tryz.func157 (by kernel_rfl) (hi:=aeL) (aa (ab0 n) aD) aic
namespace Qm
def Yx:Vu:={ ty:=[(2,(.int .i64)),(3,(.int .i64)),(4, .bool),(5,(.int .u8)),(6,(.int .u8)),(7,YC),(8,YC),(9, .str),(10, .str),(11, .str),(12,(.int .u64)),(13,YA),(14,YA),(21,(.int .i32)),(22,(.sl 5 (.int .u8))),(23,(.sl 168 IQ)),(24,Qu),(25,Qu),(26,Oo),(27,Oo),(30,(.sl 114 Zk4)),(31,Zk9),(32,Zk9),(33,Zb),(34,Zb),(38,(.sl 139 DR)),(39,Zc),(40,Zc),(43,(.sl 91 DR)),(44,afu),(45,afu),(49,(.sl 2 (.int .i64))),(50,aft),(51,aft),(60,(.sl 72 jI)),(61,KQ),(62,KQ),(64,afs),(65,afs),(71,jI),(72,jI),(90,DR),(91,DR),(112,(.sl 117 zb)),(113,Zk4),(114,Zk4),(116,zb),(117,zb),(139,DR),(145,IU),(146,IU),(152,YB),(153,YB),(155,(.sl 22 (.sl 5 (.int .u8)))),(166,(.sl 227 zb)),(167,IQ),(168,IQ),(180,TQ),(181,TQ),(194,(.sl 9 .str)),(203,TS),(204,TS),(227,zb),(245,(.int .u32)),(246,(.int .u8)),(247,(.int .u8)),(250,(.int .i32)),(251,(.int .i32))],bytes:=[(2,8),(3,8),(4,1),(5,1),(6,1),(7,24),(8,24),(9,16),(10,16),(11,16),(12,8),(13,24),(14,24),(21,4),(22,24),(23,24),(24,32),(25,32),(26,88),(27,88),(30,24),(31,32),(32,32),(33,88),(34,88),(38,24),(39,112),(40,112),(43,24),(44,112),(45,112),(49,24),(50,120),(51,120),(60,24),(61,40),(62,40),(64,64),(65,64),(71,112),(72,112),(90,56),(91,56),(112,24),(113,56),(114,56),(116,48),(117,48),(139,56),(145,128),(146,128),(152,32),(153,32),(155,24),(166,24),(167,56),(168,56),(180,32),(181,32),(194,24),(203,40),(204,40),(227,48),(245,4),(246,1),(247,1),(250,4),(251,4)],ptr:=[15,16,17,77,86,104,121,131,141,170,179,199,206,249],ids:=true }
def T:jf:=Yx.tab
theorem aL:Ck Tryz.prog Yx=true:=by kernel_rfl
theorem mixed:Tryz.prog.follows .mixedOrders=true:=by kernel_rfl
def bP (n:Nat) (a0:List Zt4) (a1:Int) (a2:Int):Option Zt9:=(if 0≤a1∧a1≤a2∧a2≤(a0.length:Int)∧(a0.length:Int)≤(a0.length:Int) then (if decide (a1=a2)=true then some (((a0.length:Nat):Int),a0,()) else (if 0≤(0:Int)∧(0:Int)≤a1∧a1≤(a0.length:Int) then (if 0≤a2∧a2≤(a0.length:Int)∧(a0.length:Int)≤(a0.length:Int) then (if a1.toNat≤a2.toNat then (if 0≤(((a1.toNat+((a0.length:Int).toNat - a2.toNat)) - 0:Nat):Int)∧(((a1.toNat+((a0.length:Int).toNat - a2.toNat)) - 0:Nat):Int)≤(a0.length:Int)∧((0:Nat):Int)+(a0.length:Int)≤((a0.take a1.toNat++(a0.take ((a0.length:Int).toNat)).drop a2.toNat++a0.drop (a1.toNat+((a0.length:Int).toNat - a2.toNat))).length:Int) then some ((((a1.toNat+((a0.length:Int).toNat - a2.toNat)):Nat):Int),(a0.take a1.toNat++(a0.take ((a0.length:Int).toNat)).drop a2.toNat++a0.drop (a1.toNat+((a0.length:Int).toNat - a2.toNat))).take (0+(((a1.toNat+((a0.length:Int).toNat - a2.toNat)) - 0:Nat):Int).toNat)++List.replicate ((0+(a0.length:Int).toNat) - (0+(((a1.toNat+((a0.length:Int).toNat - a2.toNat)) - 0:Nat):Int).toNat)) (([]:List Int),(0:Int),(0:Int),(0:Nat),())++(a0.take a1.toNat++(a0.take ((a0.length:Int).toNat)).drop a2.toNat++a0.drop (a1.toNat+((a0.length:Int).toNat - a2.toNat))).drop (0+(a0.length:Int).toNat),()) else none) else none) else none) else none)) else none)
def VL:Entry:=⟨159,[.jJ (.sl 114 Zk4) [5,114,117] [114], .val (.int .i64) [], .val (.int .i64) []],[.into 0 []],fun n c=>bP n c.1 c.2.1 c.2.2.1⟩
def aeM:Hint:=⟨0,[],[],[],[],[],[],[13,22,25,26,29,31],[]⟩
theorem aid:iy T aeM Tryz.f159 VL:=by intro n c; kernel_rfl
theorem ab1 [Fr] (n:Nat):aj Tryz.prog n VL:=ak mixed aL Tryz.func159 (by kernel_rfl) (hi:=aeM) aD aid
end Qm
def aaH:List dI:=[.jJ (.sl 114 nG) [5,114,117] [114], .val (.int .i64) [], .val (.int .i64) []]
def agM:List nO:=[.into 0 []]
def bP (n:Nat) (a0:List dP) (a1:Int) (a2:Int):Option (Int×List dP×Unit):=mq.Jh dF a0 a1 a2
def VL:Entry:=⟨159,aaH,agM,fun n (c:Cont (kin aaH))=>bP n c.1 c.2.1 c.2.2.1⟩
theorem ab1 [Fr] (n:Nat):aj Tryz.prog n VL:=mq.M6 (k0:=.str) (kk:=zb) (e:=117) (t:=114) (ow:=[5,114,117]) (wt:=[114]) (tO:=[114]) (d0:=([]:List Int)) (FI:=Qm.bP) (by simp [K.tys,aK]) (by simp [K.tys,aK]) (by simp [K.tys,aK]) (fun fr=>Qm.ab1 n) (by simp [nu,aK]) (fun _ _ _=>⟨rfl,rfl⟩) (fun xs i j h=>mq.QT _ xs i j h)
def rY (n:Nat) (a0:dP) (a1:ru):Option (Int×dP×Unit):=((dz n a1.2.2.2.1).bind fun r1=>(if [(a0.2.2.1,a1.2.1,a1.2.2.1,r1.1,())].length=1∧(a0.2.2.2.1.length+1) * 48≤140737488355328 then some (IntKind.i64.wrap ((IntKind.i64.wrap (a0.2.2.1+(1:Int))) - (1:Int)),(a0.1,a0.2.1,IntKind.i64.wrap (a0.2.2.1+(1:Int)),a0.2.2.2.1++[[(a0.2.2.1,a1.2.1,a1.2.2.1,r1.1,())].getD 0 kC],a0.2.2.2.2),()) else none))
def abz:Entry:=⟨160,[.rw nG [5,117] [117,4294967295] [5,117], .val zb []],[.val (.int .i64) [] []],fun n c=>rY n c.1 c.2.1⟩
def aeN:Hint:=⟨0,[9],[],[],[(63,some 20,TG)],[],[],[],[23]⟩
theorem aie:iy T aeN Tryz.f160 abz:=by intro n c; kernel_rfl
theorem ajg [Fr] (n:Nat):aj Tryz.prog n abz:=ak mixed aL Tryz.func160 (by kernel_rfl) (hi:=aeN) (aa (YZ n) aD) aie
def dZ (n:Nat) (a0:List Int) (a1:Int):Option (Int×Unit):=(rounds (fun L1 (v1:(List Int)×Int×Int×Int×Unit)=>(if decide (v1.2.2.2.1<v1.2.2.1)=true then (if aI v1.2.2.2.1 v1.1.length then (if decide (v1.2.1=(v1.1.getD v1.2.2.2.1.toNat (0:Int)))=true then some (v1.2.2.2.1,()) else L1 (v1.1,v1.2.1,v1.2.2.1,IntKind.i64.wrap (v1.2.2.2.1+(1:Int)),())) else none) else some ((-1:Int),()))) n (a0,a1,(a0.length:Int),(0:Int),()))
def Qk:Entry:=⟨206,[.val (.sl 2 (.int .i64)) [], .val (.int .i64) []],[.val (.int .i64) [] []],fun n c=>dZ n c.1 c.2.1⟩
def VS:Hint:=⟨0,[],[(0,[0,1,7,8],[])],[],[],[],[],[],[]⟩
theorem aaU:iy T VS Tryz.f206 Qk:=by intro n c; kernel_rfl
theorem ab2 [Fr] (n:Nat):aj Tryz.prog n Qk:=ak mixed aL Tryz.func206 (by kernel_rfl) (hi:=VS) aD aaU
def aV (n:Nat) (a0:List Int) (a1:Int):Option (Bool×Unit):=((dZ n a0 a1).bind fun r1=>some (decide (r1.1≥(0:Int)),()))
def N9:Entry:=⟨190,[.val (.sl 2 (.int .i64)) [], .val (.int .i64) []],[.val .bool [] []],fun n c=>aV n c.1 c.2.1⟩
def VT:Hint:=⟨0,[],[],[],[(206,some 7,Qk)],[],[],[],[]⟩
theorem aaV:iy T VT Tryz.f190 N9:=by intro n c; kernel_rfl
theorem Y0 [Fr] (n:Nat):aj Tryz.prog n N9:=ak mixed aL Tryz.func190 (by kernel_rfl) (hi:=VT) (aa (ab2 n) aD) aaV
def mE (n:Nat) (a0:dP) (a1:gX):Option ((List Int)×dP×Unit):=(rounds (fun L1 (v1:Int×Int×dP×gX×(List Int)×Unit)=>(if decide (v1.2.1<v1.1)=true then (if aI v1.2.1 v1.2.2.1.2.2.2.1.length then ((aV n v1.2.2.2.1.2.2.2.1 ((v1.2.2.1.2.2.2.1.getD v1.2.1.toNat kC).1)).bind fun r2=>(if (!r2.1)=true then L1 (v1.1,IntKind.i64.wrap (v1.2.1+(1:Int)),v1.2.2.1,v1.2.2.2.1,v1.2.2.2.2.1,()) else (if (v1.2.2.2.2.1.length+[(v1.2.2.1.2.2.2.1.getD v1.2.1.toNat kC).1].length) * 8≤140737488355328 then (if decide (v1.2.2.2.1.2.2.2.2.1=(1:Int))=true then L1 (v1.1,IntKind.i64.wrap (v1.2.1+(1:Int)),(v1.2.2.1.1,v1.2.2.1.2.1,v1.2.2.1.2.2.1,(iM v1.2.2.1.2.2.2.1 v1.2.1.toNat kC fun z1=>(z1.1,v1.2.2.2.1.2.2.2.2.2.1,z1.2.2)),v1.2.2.1.2.2.2.2),v1.2.2.2.1,v1.2.2.2.2.1++[(v1.2.2.1.2.2.2.1.getD v1.2.1.toNat kC).1],()) else (if decide (v1.2.2.2.1.2.2.2.2.1=(2:Int))=true then L1 (v1.1,IntKind.i64.wrap (v1.2.1+(1:Int)),(v1.2.2.1.1,v1.2.2.1.2.1,v1.2.2.1.2.2.1,(iM v1.2.2.1.2.2.2.1 v1.2.1.toNat kC fun z1=>(z1.1,IntKind.i64.wrap ((BitVec.ofInt (IntKind.bits .i64) (((v1.2.2.1.2.2.2.1.getD v1.2.1.toNat kC).2).1) ||| BitVec.ofInt (IntKind.bits .i64) v1.2.2.2.1.2.2.2.2.2.1).toNat),z1.2.2)),v1.2.2.1.2.2.2.2),v1.2.2.2.1,v1.2.2.2.2.1++[(v1.2.2.1.2.2.2.1.getD v1.2.1.toNat kC).1],()) else L1 (v1.1,IntKind.i64.wrap (v1.2.1+(1:Int)),(v1.2.2.1.1,v1.2.2.1.2.1,v1.2.2.1.2.2.1,(iM v1.2.2.1.2.2.2.1 v1.2.1.toNat kC fun z1=>(z1.1,IntKind.i64.wrap ((BitVec.ofInt (IntKind.bits .i64) (((v1.2.2.1.2.2.2.1.getD v1.2.1.toNat kC).2).1) &&& ~~~ BitVec.ofInt (IntKind.bits .i64) v1.2.2.2.1.2.2.2.2.2.1).toNat),z1.2.2)),v1.2.2.1.2.2.2.2),v1.2.2.2.1,v1.2.2.2.2.1++[(v1.2.2.1.2.2.2.1.getD v1.2.1.toNat kC).1],()))) else none))) else none) else some (v1.2.2.2.2.1,v1.2.2.1,()))) n ((a0.2.2.2.1.length:Int),(0:Int),a0,a1,([]:List Int),()))
def abA:Entry:=⟨161,[.rw nG [5,117] [117] [], .val jI []],[.own (.sl 2 (.int .i64)) [2] [] []],fun n c=>mE n c.1 c.2.1⟩
def aeO:Hint:=⟨0,[20],[(0,[0,3,5,13,14],[0,98,258])],[],[(190,some 29,N9)],[],[],[],[]⟩
theorem aif:iy T aeO Tryz.f161 abA:=by intro n c; kernel_rfl
theorem ajh [Fr] (n:Nat):aj Tryz.prog n abA:=ak mixed aL Tryz.func161 (by kernel_rfl) (hi:=aeO) (aa (Y0 n) aD) aif
namespace IdP
def Yx:Vu:={ ty:=[(2,(.int .i64)),(3,(.int .i64)),(4, .bool),(5,(.int .u8)),(6,(.int .u8)),(7,YC),(8,YC),(9, .str),(10, .str),(11, .str),(12,(.int .u64)),(13,YA),(14,YA),(21,(.int .i32)),(22,(.sl 5 (.int .u8))),(23,(.sl 168 KP)),(24,Qt),(25,Qt),(26,Qv),(27,Qv),(30,(.sl 114 G6)),(31,Ol),(32,Ol),(33,Om),(34,Om),(38,(.sl 139 DR)),(39,TV),(40,TV),(43,(.sl 91 DR)),(44,TU),(45,TU),(49,(.sl 2 (.int .i64))),(50,TT),(51,TT),(60,(.sl 72 jI)),(61,KQ),(62,KQ),(64,TR),(65,TR),(71,jI),(72,jI),(90,DR),(91,DR),(112,(.sl 117 KS)),(113,G6),(114,G6),(116,KS),(117,KS),(139,DR),(145,IU),(146,IU),(152,YB),(153,YB),(155,(.sl 22 (.sl 5 (.int .u8)))),(166,(.sl 227 KS)),(167,KP),(168,KP),(180,TQ),(181,TQ),(194,(.sl 9 .str)),(203,TS),(204,TS),(227,KS),(245,(.int .u32)),(246,(.int .u8)),(247,(.int .u8)),(250,(.int .i32)),(251,(.int .i32))],bytes:=[(2,8),(3,8),(4,1),(5,1),(6,1),(7,24),(8,24),(9,16),(10,16),(11,16),(12,8),(13,24),(14,24),(21,4),(22,24),(23,24),(24,32),(25,32),(26,88),(27,88),(30,24),(31,32),(32,32),(33,88),(34,88),(38,24),(39,112),(40,112),(43,24),(44,112),(45,112),(49,24),(50,120),(51,120),(60,24),(61,40),(62,40),(64,64),(65,64),(71,112),(72,112),(90,56),(91,56),(112,24),(113,56),(114,56),(116,48),(117,48),(139,56),(145,128),(146,128),(152,32),(153,32),(155,24),(166,24),(167,56),(168,56),(180,32),(181,32),(194,24),(203,40),(204,40),(227,48),(245,4),(246,1),(247,1),(250,4),(251,4)],ptr:=[15,16,17,77,86,104,121,131,141,170,179,199,206,249],ids:=true }
def T:jf:=Yx.tab
theorem aL:Ck Tryz.prog Yx=true:=by kernel_rfl
theorem mixed:Tryz.prog.follows .mixedOrders=true:=by kernel_rfl
def fU (n:Nat) (a0:TW):Option ((List Int)×TW×Unit):=(rounds (fun L1 (v1:(List MP)×Int×Int×TW×(List Int)×(List MP)×Unit)=>(if decide (v1.2.2.1<v1.2.1)=true then (if aI v1.2.2.1 v1.1.length then (if (!decide ((IntKind.i64.wrap ((BitVec.ofInt (IntKind.bits .i64) (((v1.1.getD v1.2.2.1.toNat MQ).2).1) &&& BitVec.ofInt (IntKind.bits .i64) (8:Int)).toNat))=(0:Int)))=true then (if (v1.2.2.2.2.1.length+[(v1.1.getD v1.2.2.1.toNat MQ).1].length) * 8≤140737488355328 then L1 (v1.1,v1.2.1,IntKind.i64.wrap (v1.2.2.1+(1:Int)),v1.2.2.2.1,v1.2.2.2.2.1++[(v1.1.getD v1.2.2.1.toNat MQ).1],v1.2.2.2.2.2.1,()) else none) else (if (v1.2.2.2.2.2.1.length+[v1.1.getD v1.2.2.1.toNat MQ].length) * 48≤140737488355328 then L1 (v1.1,v1.2.1,IntKind.i64.wrap (v1.2.2.1+(1:Int)),v1.2.2.2.1,v1.2.2.2.2.1,v1.2.2.2.2.2.1++[v1.1.getD v1.2.2.1.toNat MQ],()) else none)) else none) else some (v1.2.2.2.2.1,(v1.2.2.2.1.1,v1.2.2.2.1.2.1,v1.2.2.2.1.2.2.1,v1.2.2.2.2.2.1,v1.2.2.2.1.2.2.2.2),()))) n (a0.2.2.2.1,(a0.2.2.2.1.length:Int),(0:Int),a0,([]:List Int),([]:List MP),()))
def VM:Entry:=⟨162,[.rw G6 [5,117] [4294967295] [117]],[.own (.sl 2 (.int .i64)) [2] [] []],fun n c=>fU n c.1⟩
def aeP:Hint:=⟨0,[],[(0,[0,3,4,12,13,14],[0,226,258])],[],[],[],[],[],[]⟩
theorem aih:iy T aeP Tryz.f162 VM:=by intro n c; kernel_rfl
theorem ab3 [Fr] (n:Nat):aj Tryz.prog n VM:=ak mixed aL Tryz.func162 (by kernel_rfl) (hi:=aeP) aD aih
end IdP
def fU (n:Nat) (a0:List Int×Int×Int×List jX.zW×Unit):Option (List Int×(List Int×Int×Int×List jX.zW×Unit)×Unit):=jX.yS n a0
def aaI:List dI:=[.rw nG [5,117] [4294967295,5] [117,4294967294]]
def agN:List nO:=[.own (.sl 2 (.int .i64)) [2] [] []]
def VM:Entry:=⟨162,aaI,agN,fun n (c:Cont (kin aaI))=>fU n c.1⟩
def abO (x:MP):Bool:=!decide ((IntKind.i64.wrap ((BitVec.ofInt (IntKind.bits .i64) (x.2.1) &&& BitVec.ofInt (IntKind.bits .i64) (8:Int)).toNat))=(0:Int))
theorem aiB {n:Nat} {nm:List Int} {w h:Int} {xs:List MP} (hc:xs.length * 48≤140737488355328) (hn:xs.length<n):IdP.fU n (nm,w,h,xs,())=some ((xs.filter abO).map (·.1),(nm,w,h,xs.filter (fun x=>!abO x),()),()):=
 Sm.Va (xs:=xs) (p:=abO) (g:=(·.1)) (d:=MQ) (sc:=8) (sa:=48) (a0:=(nm,w,h,xs,()))
  (fin:=fun a cs ks=>(cs,(a.1,a.2.1,a.2.2.1,ks,a.2.2.2.2),())) (fun _ _=>rfl) (by have:=hc; omega) (by have:=hc; omega) hc hn
theorem ab3 [Fr] (n:Nat):aj Tryz.prog n VM:=jX.NC (e:=5) (m:=117) (i:=2) (FI:=fun n c=>IdP.fU n c.1) (fun fr=>IdP.ab3 n) (fun nm w h xs hc hn=>aiB hc hn)
def dY (n:Nat) (a0:List ru):Option (Int×Unit):=some ((a0.length:Int),())
def abB:Entry:=⟨191,[.val (.sl 117 zb) []],[.val (.int .i64) [] []],fun n c=>dY n c.1⟩
def aeQ:Hint:=⟨0,[],[],[],[],[],[],[],[]⟩
theorem aii:iy T aeQ Tryz.f191 abB:=by intro n c; kernel_rfl
theorem aji [Fr] (n:Nat):aj Tryz.prog n abB:=ak mixed aL Tryz.func191 (by kernel_rfl) (hi:=aeQ) aD aii
def jS (n:Nat) (a0:dP) (a1:ru):Option (Int×dP×Unit):=((dz n a1.2.2.2.1).bind fun r1=>(if [(a0.2.2.1,a1.2.1,a1.2.2.1,r1.1,())].length=1∧(a0.2.2.2.1.length+1) * 48≤140737488355328 then some (IntKind.i64.wrap ((IntKind.i64.wrap (a0.2.2.1+(1:Int))) - (1:Int)),(a0.1,a0.2.1,IntKind.i64.wrap (a0.2.2.1+(1:Int)),a0.2.2.2.1++[[(a0.2.2.1,a1.2.1,a1.2.2.1,r1.1,())].getD 0 kC],a0.2.2.2.2),()) else none))
def abC:Entry:=⟨160,[.rw nG [5,117] [117,4294967295] [5,117], .val zb [0]],[.val (.int .i64) [] []],fun n c=>jS n c.1 c.2.1⟩
def aeR:Hint:=⟨0,[9],[],[],[(63,some 20,TG)],[],[],[],[23]⟩
theorem aij:iy T aeR Tryz.f160 abC:=by intro n c; kernel_rfl
theorem ajj [Fr] (n:Nat):aj Tryz.prog n abC:=ak mixed aL Tryz.func160 (by kernel_rfl) (hi:=aeR) (aa (YZ n) aD) aij
namespace wW
def Yx:Vu:={ ty:=[(2,(.int .i64)),(3,(.int .i64)),(4, .bool),(5,(.int .u8)),(6,(.int .u8)),(7,YC),(8,YC),(9, .str),(10, .str),(11, .str),(12,(.int .u64)),(13,YA),(14,YA),(21,(.int .i32)),(22,(.sl 5 (.int .u8))),(23,(.sl 168 KP)),(24,Qt),(25,Qt),(26,Qv),(27,Qv),(30,(.sl 114 G6)),(31,Ol),(32,Ol),(33,Om),(34,Om),(38,(.sl 139 DR)),(39,TV),(40,TV),(43,(.sl 91 DR)),(44,TU),(45,TU),(49,(.sl 2 (.int .i64))),(50,TT),(51,TT),(60,(.sl 72 jI)),(61,KQ),(62,KQ),(64,TR),(65,TR),(71,jI),(72,jI),(90,DR),(91,DR),(112,(.sl 117 KS)),(113,G6),(114,G6),(116,KS),(117,KS),(139,DR),(145,IU),(146,IU),(152,YB),(153,YB),(155,(.sl 22 (.sl 5 (.int .u8)))),(166,(.sl 227 KS)),(167,KP),(168,KP),(180,TQ),(181,TQ),(194,(.sl 9 .str)),(203,TS),(204,TS),(227,KS),(245,(.int .u32)),(246,(.int .u8)),(247,(.int .u8)),(250,(.int .i32)),(251,(.int .i32))],bytes:=[(2,8),(3,8),(4,1),(5,1),(6,1),(7,24),(8,24),(9,16),(10,16),(11,16),(12,8),(13,24),(14,24),(21,4),(22,24),(23,24),(24,32),(25,32),(26,88),(27,88),(30,24),(31,32),(32,32),(33,88),(34,88),(38,24),(39,112),(40,112),(43,24),(44,112),(45,112),(49,24),(50,120),(51,120),(60,24),(61,40),(62,40),(64,64),(65,64),(71,112),(72,112),(90,56),(91,56),(112,24),(113,56),(114,56),(116,48),(117,48),(139,56),(145,128),(146,128),(152,32),(153,32),(155,24),(166,24),(167,56),(168,56),(180,32),(181,32),(194,24),(203,40),(204,40),(227,48),(245,4),(246,1),(247,1),(250,4),(251,4)],ptr:=[15,16,17,77,86,104,121,131,141,170,179,199,206,249],ids:=true }
def T:jf:=Yx.tab
theorem aL:Ck Tryz.prog Yx=true:=by kernel_rfl
theorem mixed:Tryz.prog.follows .mixedOrders=true:=by kernel_rfl
def dZ (n:Nat) (a0:List Int) (a1:Int):Option (Int×Unit):=(rounds (fun L1 (v1:(List Int)×Int×Int×Int×Unit)=>(if decide (v1.2.2.2.1<v1.2.2.1)=true then (if aI v1.2.2.2.1 v1.1.length then (if decide (v1.2.1=(v1.1.getD v1.2.2.2.1.toNat (0:Int)))=true then some (v1.2.2.2.1,()) else L1 (v1.1,v1.2.1,v1.2.2.1,IntKind.i64.wrap (v1.2.2.2.1+(1:Int)),())) else none) else some ((-1:Int),()))) n (a0,a1,(a0.length:Int),(0:Int),()))
def Qk:Entry:=⟨206,[.val (.sl 2 (.int .i64)) [], .val (.int .i64) []],[.val (.int .i64) [] []],fun n c=>dZ n c.1 c.2.1⟩
def VS:Hint:=⟨0,[],[(0,[0,1,7,8],[])],[],[],[],[],[],[]⟩
theorem aaU:iy T VS Tryz.f206 Qk:=by intro n c; kernel_rfl
theorem ab2 [Fr] (n:Nat):aj Tryz.prog n Qk:=ak mixed aL Tryz.func206 (by kernel_rfl) (hi:=VS) aD aaU
def aV (n:Nat) (a0:List Int) (a1:Int):Option (Bool×Unit):=((dZ n a0 a1).bind fun r1=>some (decide (r1.1≥(0:Int)),()))
def N9:Entry:=⟨190,[.val (.sl 2 (.int .i64)) [], .val (.int .i64) []],[.val .bool [] []],fun n c=>aV n c.1 c.2.1⟩
def VT:Hint:=⟨0,[],[],[],[(206,some 7,Qk)],[],[],[],[]⟩
theorem aaV:iy T VT Tryz.f190 N9:=by intro n c; kernel_rfl
theorem Y0 [Fr] (n:Nat):aj Tryz.prog n N9:=ak mixed aL Tryz.func190 (by kernel_rfl) (hi:=VT) (aa (ab2 n) aD) aaV
def eY (n:Nat) (a0:MP) (a1:gX):Option (Bool×Unit):=((aV n a1.2.2.2.1 a0.1).bind fun r1=>some (r1.1,()))
def YU:Entry:=⟨193,[.val KS [], .ro jI],[.val .bool [] []],fun n c=>eY n c.1 c.2.1⟩
def aeS:Hint:=⟨0,[],[],[],[(190,some 8,N9)],[],[],[],[]⟩
theorem aik:iy T aeS Tryz.f193 YU:=by intro n c; kernel_rfl
theorem afk [Fr] (n:Nat):aj Tryz.prog n YU:=ak mixed aL Tryz.func193 (by kernel_rfl) (hi:=aeS) (aa (Y0 n) aD) aik
def aY (n:Nat) (a0:List MP) (G7:gX):Option (Int×Unit):=(rounds (fun L1 (v1:(List MP)×gX×Int×Int×Unit)=>(if decide (v1.2.2.2.1<v1.2.2.1)=true then (if aI v1.2.2.2.1 v1.1.length then ((eY n (v1.1.getD v1.2.2.2.1.toNat MQ) v1.2.1).bind fun r2=>(if r2.1=true then some (v1.2.2.2.1,()) else L1 (v1.1,v1.2.1,v1.2.2.1,IntKind.i64.wrap (v1.2.2.2.1+(1:Int)),()))) else none) else some ((-1:Int),()))) n (a0,G7,(a0.length:Int),(0:Int),()))
def abD:Entry:=⟨207,[.val (.sl 117 KS) [], .fn 193 [jI]],[.val (.int .i64) [] []],fun n c=>aY n c.1 c.2.1⟩
def aeT:Hint:=⟨0,[],[(0,[0,1,7,8],[])],[],[(193,some 16,YU)],[],[],[],[]⟩
theorem ail:iy T aeT Tryz.f207 abD:=by intro n c; kernel_rfl
theorem ajk [Fr] (n:Nat):aj Tryz.prog n abD:=ak mixed aL Tryz.func207 (by kernel_rfl) (hi:=aeT) (aa (afk n) aD) ail
def aF (n:Nat) (a0:List MP) (G7:gX):Option (Int×(List MP)×Unit):=((aY n a0 G7).bind fun r1=>(if decide (r1.1=(-1:Int))=true then some (((a0.length:Nat):Int),a0,()) else (rounds (fun L2 (v2:gX×Int×Int×(List MP)×Unit)=>(if decide (v2.2.2.1<(v2.2.2.2.1.length:Int))=true then (if aI v2.2.2.1 v2.2.2.2.1.length then ((eY n (v2.2.2.2.1.getD v2.2.2.1.toNat MQ) v2.1).bind fun r3=>(if (!r3.1)=true then (if aI v2.2.1 v2.2.2.2.1.length then L2 (v2.1,IntKind.i64.wrap (v2.2.1+(1:Int)),IntKind.i64.wrap (v2.2.2.1+(1:Int)),v2.2.2.2.1.set v2.2.1.toNat (v2.2.2.2.1.getD v2.2.2.1.toNat MQ),()) else none) else L2 (v2.1,v2.2.1,IntKind.i64.wrap (v2.2.2.1+(1:Int)),v2.2.2.2.1,()))) else none) else (if 0≤v2.2.1∧v2.2.1≤(v2.2.2.2.1.length:Int)∧(v2.2.2.2.1.length:Int)≤(v2.2.2.2.1.length:Int) then (if 0≤(0:Int)∧(0:Int)≤v2.2.1∧v2.2.1≤((v2.2.2.2.1.take v2.2.1.toNat++List.replicate ((v2.2.2.2.1.length:Int).toNat - v2.2.1.toNat) MQ++v2.2.2.2.1.drop ((v2.2.2.2.1.length:Int).toNat)).length:Int) then some (((v2.2.1.toNat:Nat):Int),v2.2.2.2.1.take v2.2.1.toNat++List.replicate ((v2.2.2.2.1.length:Int).toNat - v2.2.1.toNat) MQ++v2.2.2.2.1.drop ((v2.2.2.2.1.length:Int).toNat),()) else none) else none))) n (G7,r1.1,IntKind.i64.wrap (r1.1+(1:Int)),a0,()))))
def VN:Entry:=⟨192,[.jJ (.sl 117 KS) [5,117] [117], .fn 193 [jI]],[.into 0 []],fun n c=>aF n c.1 c.2.1⟩
def aeU:Hint:=⟨0,[],[(0,[0,1,5,6],[0])],[],[(207,some 10,abD),(193,some 28,YU)],[],[],[38,41],[]⟩
theorem aim:iy T aeU Tryz.f192 VN:=by intro n c; kernel_rfl
theorem ab4 [Fr] (n:Nat):aj Tryz.prog n VN:=ak mixed aL Tryz.func192 (by kernel_rfl) (hi:=aeU) (aa (ajk n) (aa (afk n) aD)) aim
end wW
def aaJ:List dI:=[.jJ (.sl 117 zb) [5,117] [117], .fn 193 [jI]]
def agO:List nO:=[.into 0 []]
def aF (n:Nat) (a0:List ru) (G7:gX):Option (Int×List ru×Unit):=mq.Fp n a0 G7
def VN:Entry:=⟨192,aaJ,agO,fun n (c:Cont (kin aaJ))=>aF n c.1 c.2.1⟩
theorem aiC {n:Nat} {xs:List mq.Y1} {op:mq.OpC} (hx:xs.length≤140737488355328) (hn:xs.length<n) (hb:op.2.2.2.1.length≤140737488355328) (hu:op.2.2.2.1.length<n):wW.aF n xs op=some (mq.Gs (0,0,0,0,()) (fun x=>op.2.2.2.1.contains x.1) xs):=by
 have hc:∀x,wW.eY n x op=some (op.2.2.2.1.contains x.1,()):=fun x=>by
  have h:wW.aV n op.2.2.2.1 x.1=some (op.2.2.2.1.contains x.1,()):=mq.Nc (fun _ _=>rfl) hb hu
  show (wW.aV n op.2.2.2.1 x.1).bind _=_
  rw [h]; rfl
 have hi:wW.aY n xs op=some (_,()):=mq.JN (p:=fun x=>op.2.2.2.1.contains x.1) (q:=fun c x=>wW.eY n x c) (d:=(0,0,0,0,())) (fun _ _=>rfl) hc hx hn
 show (wW.aY n xs op).bind _=_
 rw [hi]
 exact mq.Ul (p:=fun x=>op.2.2.2.1.contains x.1) (q:=fun c x=>wW.eY n x c) (d:=(0,0,0,0,())) (fun _ _=>rfl) hc hx hn
theorem ab4 [Fr] (n:Nat):aj Tryz.prog n VN:=mq.KV (e:=5) (t:=117) (i:=2) (b:=5) (cl:=193) (ow:=[5,117]) (wt:=[117]) (tO:=[117]) (FI:=wW.aF) (by simp [K.tys,aK]) (by simp [K.tys,aK]) (by simp [K.tys,aK]) (fun fr=>wW.ab4 n) (by simp [nu,aK]) (fun xs op h1 h2 h3 h4=>aiC h1 h2 h3 h4)
def kG (n:Nat) (a0:fG) (a1:Int) (a2:gX):Option ((List Int)×Int×fG×Unit):=((iZ n a0 a2.2.2.1).bind fun r1=>(if decide (r1.1<(0:Int))=true then some (([]:List Int),(4:Int),a0,()) else (if decide (a2.1=(6:Int))=true then (if decide (r1.1=a1)=true then some (([]:List Int),(9:Int),a0,()) else (if aI a1 a0.2.1.length then (rounds (fun L2 (v2:Int×Int×(List ru)×Int×Int×fG×gX×(List ru)×Unit)=>(if decide (v2.2.2.2.2.1<v2.2.2.2.1)=true then (if aI v2.2.2.2.2.1 v2.2.2.1.length then ((aV n v2.2.2.2.2.2.2.1.2.2.2.1 ((v2.2.2.1.getD v2.2.2.2.2.1.toNat kC).1)).bind fun r3=>(if r3.1=true then (if (v2.2.2.2.2.2.2.2.1.length+[v2.2.2.1.getD v2.2.2.2.2.1.toNat kC].length) * 48≤140737488355328 then L2 (v2.1,v2.2.1,v2.2.2.1,v2.2.2.2.1,IntKind.i64.wrap (v2.2.2.2.2.1+(1:Int)),v2.2.2.2.2.2.1,v2.2.2.2.2.2.2.1,v2.2.2.2.2.2.2.2.1++[v2.2.2.1.getD v2.2.2.2.2.1.toNat kC],()) else none) else L2 (v2.1,v2.2.1,v2.2.2.1,v2.2.2.2.1,IntKind.i64.wrap (v2.2.2.2.2.1+(1:Int)),v2.2.2.2.2.2.1,v2.2.2.2.2.2.2.1,v2.2.2.2.2.2.2.2.1,()))) else none) else (if aI v2.2.1 v2.2.2.2.2.2.1.2.1.length then (if decide ((IntKind.i64.wrap (((((((v2.2.2.2.2.2.1.2.1.getD v2.2.1.toNat dF).2).2).2).1).length:Int)+(v2.2.2.2.2.2.2.2.1.length:Int)))>(6:Int))=true then some (([]:List Int),(10:Int),v2.2.2.2.2.2.1,()) else ((dY n v2.2.2.2.2.2.2.2.1).bind fun r4=>(if decide ((IntKind.i64.wrap (((((v2.2.2.2.2.2.1.2.1.getD v2.2.1.toNat dF).2).2).1)+r4.1))>(1000:Int))=true then some (([]:List Int),(10:Int),v2.2.2.2.2.2.1,()) else (rounds (fun L5 (v5:Int×Int×Int×Int×fG×gX×(List ru)×(List Int)×Unit)=>(if decide (v5.2.2.2.1<v5.2.2.1)=true then (if aI v5.2.2.2.1 v5.2.2.2.2.2.2.1.length then ((jS n (v5.2.2.2.2.1.2.1.getD v5.2.1.toNat dF) (v5.2.2.2.2.2.2.1.getD v5.2.2.2.1.toNat kC)).bind fun r6=>(if (v5.2.2.2.2.2.2.2.1.length+[r6.1].length) * 8≤140737488355328 then L5 (v5.1,v5.2.1,v5.2.2.1,IntKind.i64.wrap (v5.2.2.2.1+(1:Int)),(v5.2.2.2.2.1.1,v5.2.2.2.2.1.2.1.set v5.2.1.toNat r6.2.1,v5.2.2.2.2.1.2.2),v5.2.2.2.2.2.1,v5.2.2.2.2.2.2.1,v5.2.2.2.2.2.2.2.1++[r6.1],()) else none)) else none) else (if decide (v5.2.2.2.2.2.1.1=(6:Int))=true then (if aI v5.1 v5.2.2.2.2.1.2.1.length then ((aF n (((((v5.2.2.2.2.1.2.1.getD v5.1.toNat dF).2).2).2).1) v5.2.2.2.2.2.1).bind fun r7=>(if ([v5.1]:List Int)=([v5.1]:List Int) then some (v5.2.2.2.2.2.2.2.1,(0:Int),(v5.2.2.2.2.1.1,(iM (iM v5.2.2.2.2.1.2.1 v5.1.toNat dF fun z1=>(z1.1,z1.2.1,z1.2.2.1,r7.2.1,z1.2.2.2.2)) v5.1.toNat dF fun z1=>(z1.1,z1.2.1,z1.2.2.1,((((((iM v5.2.2.2.2.1.2.1 v5.1.toNat dF fun z1=>(z1.1,z1.2.1,z1.2.2.1,r7.2.1,z1.2.2.2.2)).getD v5.1.toNat dF).2).2).2).1).take r7.1.toNat,z1.2.2.2.2)),v5.2.2.2.2.1.2.2),()) else none)) else none) else some (v5.2.2.2.2.2.2.2.1,(0:Int),v5.2.2.2.2.1,())))) n (v2.1,v2.2.1,(v2.2.2.2.2.2.2.2.1.length:Int),(0:Int),v2.2.2.2.2.2.1,v2.2.2.2.2.2.2.1,v2.2.2.2.2.2.2.2.1,([]:List Int),()))))) else none))) n (a1,r1.1,((((a0.2.1.getD a1.toNat dF).2).2).2).1,((((((a0.2.1.getD a1.toNat dF).2).2).2).1).length:Int),(0:Int),a0,a2,([]:List ru),())) else none)) else (if aI a1 a0.2.1.length then (rounds (fun L8 (v8:Int×Int×(List ru)×Int×Int×fG×gX×(List ru)×Unit)=>(if decide (v8.2.2.2.2.1<v8.2.2.2.1)=true then (if aI v8.2.2.2.2.1 v8.2.2.1.length then ((aV n v8.2.2.2.2.2.2.1.2.2.2.1 ((v8.2.2.1.getD v8.2.2.2.2.1.toNat kC).1)).bind fun r9=>(if r9.1=true then (if (v8.2.2.2.2.2.2.2.1.length+[v8.2.2.1.getD v8.2.2.2.2.1.toNat kC].length) * 48≤140737488355328 then L8 (v8.1,v8.2.1,v8.2.2.1,v8.2.2.2.1,IntKind.i64.wrap (v8.2.2.2.2.1+(1:Int)),v8.2.2.2.2.2.1,v8.2.2.2.2.2.2.1,v8.2.2.2.2.2.2.2.1++[v8.2.2.1.getD v8.2.2.2.2.1.toNat kC],()) else none) else L8 (v8.1,v8.2.1,v8.2.2.1,v8.2.2.2.1,IntKind.i64.wrap (v8.2.2.2.2.1+(1:Int)),v8.2.2.2.2.2.1,v8.2.2.2.2.2.2.1,v8.2.2.2.2.2.2.2.1,()))) else none) else (if aI v8.2.1 v8.2.2.2.2.2.1.2.1.length then (if decide ((IntKind.i64.wrap (((((((v8.2.2.2.2.2.1.2.1.getD v8.2.1.toNat dF).2).2).2).1).length:Int)+(v8.2.2.2.2.2.2.2.1.length:Int)))>(6:Int))=true then some (([]:List Int),(10:Int),v8.2.2.2.2.2.1,()) else ((dY n v8.2.2.2.2.2.2.2.1).bind fun ND=>(if decide ((IntKind.i64.wrap (((((v8.2.2.2.2.2.1.2.1.getD v8.2.1.toNat dF).2).2).1)+ND.1))>(1000:Int))=true then some (([]:List Int),(10:Int),v8.2.2.2.2.2.1,()) else (rounds (fun L11 (v11:Int×Int×Int×Int×fG×gX×(List ru)×(List Int)×Unit)=>(if decide (v11.2.2.2.1<v11.2.2.1)=true then (if aI v11.2.2.2.1 v11.2.2.2.2.2.2.1.length then ((jS n (v11.2.2.2.2.1.2.1.getD v11.2.1.toNat dF) (v11.2.2.2.2.2.2.1.getD v11.2.2.2.1.toNat kC)).bind fun Kb=>(if (v11.2.2.2.2.2.2.2.1.length+[Kb.1].length) * 8≤140737488355328 then L11 (v11.1,v11.2.1,v11.2.2.1,IntKind.i64.wrap (v11.2.2.2.1+(1:Int)),(v11.2.2.2.2.1.1,v11.2.2.2.2.1.2.1.set v11.2.1.toNat Kb.2.1,v11.2.2.2.2.1.2.2),v11.2.2.2.2.2.1,v11.2.2.2.2.2.2.1,v11.2.2.2.2.2.2.2.1++[Kb.1],()) else none)) else none) else (if decide (v11.2.2.2.2.2.1.1=(6:Int))=true then (if aI v11.1 v11.2.2.2.2.1.2.1.length then ((aF n (((((v11.2.2.2.2.1.2.1.getD v11.1.toNat dF).2).2).2).1) v11.2.2.2.2.2.1).bind fun NV=>(if ([v11.1]:List Int)=([v11.1]:List Int) then some (v11.2.2.2.2.2.2.2.1,(0:Int),(v11.2.2.2.2.1.1,(iM (iM v11.2.2.2.2.1.2.1 v11.1.toNat dF fun z1=>(z1.1,z1.2.1,z1.2.2.1,NV.2.1,z1.2.2.2.2)) v11.1.toNat dF fun z1=>(z1.1,z1.2.1,z1.2.2.1,((((((iM v11.2.2.2.2.1.2.1 v11.1.toNat dF fun z1=>(z1.1,z1.2.1,z1.2.2.1,NV.2.1,z1.2.2.2.2)).getD v11.1.toNat dF).2).2).2).1).take NV.1.toNat,z1.2.2.2.2)),v11.2.2.2.2.1.2.2),()) else none)) else none) else some (v11.2.2.2.2.2.2.2.1,(0:Int),v11.2.2.2.2.1,())))) n (v8.1,v8.2.1,(v8.2.2.2.2.2.2.2.1.length:Int),(0:Int),v8.2.2.2.2.2.1,v8.2.2.2.2.2.2.1,v8.2.2.2.2.2.2.2.1,([]:List Int),()))))) else none))) n (a1,r1.1,((((a0.2.1.getD a1.toNat dF).2).2).2).1,((((((a0.2.1.getD a1.toNat dF).2).2).2).1).length:Int),(0:Int),a0,a2,([]:List ru),())) else none))))
def abE:Entry:=⟨163,[.rw qo [5,114,117] [5,114,117,4294967295] [5,117], .val (.int .i64) [], .val jI []],[.own (.sl 2 (.int .i64)) [2] [] [], .val (.int .i64) [] []],fun n c=>kG n c.1 c.2.1 c.2.2.1⟩
def aeV:Hint:=⟨0,[62,104,111],[(1,[0,1,5,8,9,43,44,45],[0,162,1122]),(3,[0,1,5,12,13,85,86,87],[0,162,1122,2690])],[(35,[5])],[(158,some 22,VK),(190,some 53,N9),(191,some 80,abB),(160,some 94,abC),(192,some 113,VN)],[],[(2245,[0])],[],[]⟩
theorem ain:iy T aeV Tryz.f163 abE:=by intro n c; kernel_rfl
theorem ajm [Fr] (n:Nat):aj Tryz.prog n abE:=ak mixed aL Tryz.func163 (by kernel_rfl) (hi:=aeV) (aa (ab0 n) (aa (Y0 n) (aa (aji n) (aa (ajj n) (aa (ab4 n) aD))))) ain
def mF (n:Nat) (a0:fG) (a1:gX):Option ((List Int)×Int×fG×Unit):=(if decide (a1.1=(1:Int))=true then ((nT n a0 a1.2.1).bind fun r1=>some (([]:List Int),r1.1,r1.2.1,())) else ((iZ n a0 a1.2.1).bind fun r2=>(if decide (r2.1<(0:Int))=true then some (([]:List Int),(4:Int),a0,()) else (if aI r2.1 a0.2.1.length then (if decide (a1.1=(2:Int))=true then ((bP n a0.2.1 r2.1 (IntKind.i64.wrap (r2.1+(1:Int)))).bind fun r3=>(if ([]:List Int)=([]:List Int) then some (([]:List Int),(0:Int),(a0.1,r3.2.1.take r3.1.toNat,a0.2.2),()) else none)) else (if decide (a1.1=(3:Int))=true then (if decide (((((((a0.2.1.getD r2.1.toNat dF).2).2).2).1).length:Int)=(6:Int))=true then some (([]:List Int),(10:Int),a0,()) else (if decide (((((a0.2.1.getD r2.1.toNat dF).2).2).1)=(1000:Int))=true then some (([]:List Int),(10:Int),a0,()) else ((rY n (a0.2.1.getD r2.1.toNat dF) ((0:Int),a1.2.2.2.2.2.1,a1.2.2.2.2.2.2.1,a1.2.2.2.2.2.2.2.1,())).bind fun r4=>some ([r4.1],(0:Int),(a0.1,a0.2.1.set r2.1.toNat r4.2.1,a0.2.2),())))) else (if decide (a1.1=(4:Int))=true then ((mE n (a0.2.1.getD r2.1.toNat dF) a1).bind fun r5=>some (r5.1,(0:Int),(a0.1,a0.2.1.set r2.1.toNat r5.2.1,a0.2.2),())) else (if decide (a1.1=(7:Int))=true then ((fU n (a0.2.1.getD r2.1.toNat dF)).bind fun r6=>some (r6.1,(0:Int),(a0.1,a0.2.1.set r2.1.toNat r6.2.1,a0.2.2),())) else ((kG n a0 r2.1 a1).bind fun r7=>some (r7.1,r7.2.1,r7.2.2.1,())))))) else none))))
def abF:Entry:=⟨118,[.rw qo [5,114,117] [5,114,117,4294967295] [5,114,117,4294967294], .val jI []],[.own (.sl 2 (.int .i64)) [2] [] [], .val (.int .i64) [] []],fun n c=>mF n c.1 c.2.1⟩
def aeW:Hint:=⟨0,[26,37],[],[],[(157,some 14,aby),(158,some 20,VK),(159,some 41,VL),(160,some 67,abz),(161,some 73,abA),(162,some 77,VM),(163,some 81,abE)],[],[],[],[]⟩
theorem aio:iy T aeW Tryz.f118 abF:=by intro n c; kernel_rfl
theorem ajn [Fr] (n:Nat):aj Tryz.prog n abF:=ak mixed aL Tryz.func118 (by kernel_rfl) (hi:=aeW) (aa (ajf n) (aa (ab0 n) (aa (ab1 n) (aa (ajg n) (aa (ajh n) (aa (ab3 n) (aa (ajm n) aD))))))) aio
def rZ (n:Nat) (a0:fG) (a1:gX):Option (FJ×Unit):=((oQ n a1).bind fun r1=>(if (!decide (r1.1=(0:Int)))=true then some ((r1.1,([]:List Int),Ot,()),()) else ((kT n a0).bind fun r2=>((mF n r2.1 a1).bind fun r3=>(if (!decide (r3.2.1=(0:Int)))=true then some ((r3.2.1,([]:List Int),Ot,()),()) else some (((0:Int),r3.1,r3.2.2.1,()),()))))))
def abG:Entry:=⟨80,[.val qo [], .val jI []],[.own MN [2,5,114,117] [] []],fun n c=>rZ n c.1 c.2.1⟩
def aeX:Hint:=⟨0,[27],[],[],[(117,some 10,YR),(79,some 16,YT),(118,some 19,abF)],[],[],[],[]⟩
theorem aip:iy T aeX Tryz.f80 abG:=by intro n c; kernel_rfl
theorem ajo [Fr] (n:Nat):aj Tryz.prog n abG:=ak mixed aL Tryz.func80 (by kernel_rfl) (hi:=aeX) (aa (afh n) (aa (afj n) (aa (ajn n) aD))) aip
def jM (n:Nat) (a0:fG) (a1:List gX):Option (FJ×Unit):=(if decide ((a1.length:Int)>(60:Int))=true then some (((2:Int),([]:List Int),Ot,()),()) else ((ig n a0).bind fun r1=>(if (!decide (r1.1=(0:Int)))=true then some ((r1.1,([]:List Int),Ot,()),()) else ((kT n a0).bind fun r2=>(rounds (fun L3 (v3:(List gX)×Int×Int×FJ×fG×Unit)=>(if decide (v3.2.2.1<v3.2.1)=true then (if aI v3.2.2.1 v3.1.length then ((rZ n v3.2.2.2.2.1 (v3.1.getD v3.2.2.1.toNat Eg)).bind fun r4=>(if (!decide (r4.1.1=(0:Int)))=true then some ((r4.1.1,([]:List Int),Ot,()),()) else L3 (v3.1,v3.2.1,IntKind.i64.wrap (v3.2.2.1+(1:Int)),v3.2.2.2.1,r4.1.2.2.1,()))) else none) else some (((0:Int),([]:List Int),v3.2.2.2.2.1,()),()))) n (a1,(a1.length:Int),(0:Int),ab7,r2.1,()))))))
def YV:Entry:=⟨29,[.val qo [], .val (.sl 72 jI) []],[.own MN [2,5,114,117] [] []],fun n c=>jM n c.1 c.2.1⟩
def aeY:Hint:=⟨0,[38,40],[(0,[4,6,22,23,24],[130,194])],[],[(43,some 15,YQ),(79,some 21,YT),(80,some 30,abG)],[],[],[],[]⟩
theorem aiq:iy T aeY Tryz.f29 YV:=by intro n c; kernel_rfl
theorem afl [Fr] (n:Nat):aj Tryz.prog n YV:=ak mixed aL Tryz.func29 (by kernel_rfl) (hi:=aeY) (aa (afg n) (aa (afj n) (aa (ajo n) aD))) aiq
def gP (n:Nat) (a0:List Int) (a1:List Int):Option (Bool×Unit):=(if (!decide ((a0.length:Int)=(a1.length:Int)))=true then some (false,()) else (rounds (fun L1 (v1:(List Int)×(List Int)×Int×Int×Unit)=>(if decide (v1.2.2.2.1<v1.2.2.1)=true then (if aI v1.2.2.2.1 v1.1.length then (if aI v1.2.2.2.1 v1.2.1.length then (if (!decide ((v1.1.getD v1.2.2.2.1.toNat (0:Int))=(v1.2.1.getD v1.2.2.2.1.toNat (0:Int))))=true then some (false,()) else L1 (v1.1,v1.2.1,v1.2.2.1,IntKind.i64.wrap (v1.2.2.2.1+(1:Int)),())) else none) else none) else some (true,()))) n (a0,a1,(a0.length:Int),(0:Int),())))
def abH:Entry:=⟨119,[.val (.sl 5 (.int .u8)) [], .val (.sl 5 (.int .u8)) []],[.val .bool [] []],fun n c=>gP n c.1 c.2.1⟩
def aeZ:Hint:=⟨0,[],[(0,[0,1,12,13],[])],[],[],[],[],[],[]⟩
theorem air:iy T aeZ Tryz.f119 abH:=by intro n c; kernel_rfl
theorem ajp [Fr] (n:Nat):aj Tryz.prog n abH:=ak mixed aL Tryz.func119 (by kernel_rfl) (hi:=aeZ) aD air
def kH (n:Nat) (a0:ru) (a1:ru):Option (Bool×Unit):=(if decide (a0.1=a1.1)=true then (if decide (a0.2.1=a1.2.1)=true then (if decide (a0.2.2.1=a1.2.2.1)=true then ((gP n a0.2.2.2.1 a1.2.2.2.1).bind fun r1=>some (r1.1,())) else some (false,())) else some (false,())) else some (false,()))
def abI:Entry:=⟨84,[.val zb [], .val zb []],[.val .bool [] []],fun n c=>kH n c.1 c.2.1⟩
def ae0:Hint:=⟨0,[],[],[],[(119,some 29,abH)],[],[],[],[]⟩
theorem ais:iy T ae0 Tryz.f84 abI:=by intro n c; kernel_rfl
theorem ajq [Fr] (n:Nat):aj Tryz.prog n abI:=ak mixed aL Tryz.func84 (by kernel_rfl) (hi:=ae0) (aa (ajp n) aD) ais
def aM (n:Nat) (a0:List ru) (a1:List ru):Option (Bool×Unit):=(if (!decide ((a0.length:Int)=(a1.length:Int)))=true then some (false,()) else (rounds (fun L1 (v1:(List ru)×(List ru)×Int×Int×Unit)=>(if decide (v1.2.2.2.1<v1.2.2.1)=true then (if aI v1.2.2.2.1 v1.2.1.length then (if aI v1.2.2.2.1 v1.1.length then ((kH n (v1.2.1.getD v1.2.2.2.1.toNat kC) (v1.1.getD v1.2.2.2.1.toNat kC)).bind fun r2=>(if (!r2.1)=true then some (false,()) else L1 (v1.1,v1.2.1,v1.2.2.1,IntKind.i64.wrap (v1.2.2.2.1+(1:Int)),()))) else none) else none) else some (true,()))) n (a1,a0,(a0.length:Int),(0:Int),())))
def abJ:Entry:=⟨83,[.val (.sl 117 zb) [], .val (.sl 117 zb) [], .fn 84 []],[.val .bool [] []],fun n c=>aM n c.1 c.2.1⟩
def ae1:Hint:=⟨0,[],[(0,[1,2,15,16,17],[])],[],[(84,some 29,abI)],[],[],[],[]⟩
theorem ait:iy T ae1 Tryz.f83 abJ:=by intro n c; kernel_rfl
theorem ajr [Fr] (n:Nat):aj Tryz.prog n abJ:=ak mixed aL Tryz.func83 (by kernel_rfl) (hi:=ae1) (aa (ajq n) aD) ait
def kE (n:Nat) (a0:dP) (a1:dP):Option (Bool×Unit):=(if decide (a0.1=a1.1)=true then (if decide (a0.2.1=a1.2.1)=true then (if decide (a0.2.2.1=a1.2.2.1)=true then ((aM n a0.2.2.2.1 a1.2.2.2.1).bind fun r1=>some (r1.1,())) else some (false,())) else some (false,())) else some (false,()))
def abK:Entry:=⟨82,[.val nG [], .val nG []],[.val .bool [] []],fun n c=>kE n c.1 c.2.1⟩
def ae2:Hint:=⟨0,[],[],[],[(83,some 29,abJ)],[],[],[],[]⟩
theorem aiu:iy T ae2 Tryz.f82 abK:=by intro n c; kernel_rfl
theorem ajs [Fr] (n:Nat):aj Tryz.prog n abK:=ak mixed aL Tryz.func82 (by kernel_rfl) (hi:=ae2) (aa (ajr n) aD) aiu
def bu (n:Nat) (a0:List dP) (a1:List dP):Option (Bool×Unit):=(if (!decide ((a0.length:Int)=(a1.length:Int)))=true then some (false,()) else (rounds (fun L1 (v1:(List dP)×(List dP)×Int×Int×Unit)=>(if decide (v1.2.2.2.1<v1.2.2.1)=true then (if aI v1.2.2.2.1 v1.2.1.length then (if aI v1.2.2.2.1 v1.1.length then ((kE n (v1.2.1.getD v1.2.2.2.1.toNat dF) (v1.1.getD v1.2.2.2.1.toNat dF)).bind fun r2=>(if (!r2.1)=true then some (false,()) else L1 (v1.1,v1.2.1,v1.2.2.1,IntKind.i64.wrap (v1.2.2.2.1+(1:Int)),()))) else none) else none) else some (true,()))) n (a1,a0,(a0.length:Int),(0:Int),())))
def abL:Entry:=⟨81,[.val (.sl 114 nG) [], .val (.sl 114 nG) [], .fn 82 []],[.val .bool [] []],fun n c=>bu n c.1 c.2.1⟩
def ae3:Hint:=⟨0,[],[(0,[1,2,15,16,17],[])],[],[(82,some 29,abK)],[],[],[],[]⟩
theorem aiv:iy T ae3 Tryz.f81 abL:=by intro n c; kernel_rfl
theorem ajt [Fr] (n:Nat):aj Tryz.prog n abL:=ak mixed aL Tryz.func81 (by kernel_rfl) (hi:=ae3) (aa (ajs n) aD) aiv
def jU (n:Nat) (a0:fG) (a1:fG):Option (Bool×Unit):=(if decide (a0.1=a1.1)=true then ((bu n a0.2.1 a1.2.1).bind fun r1=>some (r1.1,())) else some (false,()))
def Vy:Entry:=⟨31,[.val qo [], .val qo []],[.val .bool [] []],fun n c=>jU n c.1 c.2.1⟩
def aaa:Hint:=⟨0,[],[],[],[(81,some 15,abL)],[],[],[],[]⟩
theorem adx:iy T aaa Tryz.f31 Vy:=by intro n c; kernel_rfl
theorem ae6 [Fr] (n:Nat):aj Tryz.prog n Vy:=ak mixed aL Tryz.func31 (by kernel_rfl) (hi:=aaa) (aa (ajt n) aD) adx
def nU (n:Nat) (a0:BB):Option (Int×Unit):=(if decide ((IntKind.i64.wrap ((a0.2.1.length:Int)+(a0.2.2.1.length:Int)))>(8000:Int))=true then some ((2:Int),()) else (if (!a0.1)=true then (if decide ((a0.2.2.1.length:Int)>(0:Int))=true then some ((1:Int),()) else (if (!decide (a0.2.2.2.1.1=(0:Int)))=true then some ((1:Int),()) else (if decide ((a0.2.2.2.1.2.1.length:Int)>(0:Int))=true then some ((1:Int),()) else (if (!a0.1)=true then some ((0:Int),()) else ((ig n a0.2.2.2.1).bind fun r1=>(if (!decide (r1.1=(0:Int)))=true then some (r1.1,()) else ((kU n a0).bind fun r2=>(if (!r2.2.1)=true then some ((5:Int),()) else ((pQ n).bind fun r3=>((jM n r3.1 r2.1).bind fun r4=>(if (!decide (r4.1.1=(0:Int)))=true then some ((9:Int),()) else ((jU n r4.1.2.2.1 a0.2.2.2.1).bind fun r5=>(if (!r5.1)=true then some ((9:Int),()) else some ((0:Int),())))))))))))))) else (if (!a0.1)=true then some ((0:Int),()) else ((ig n a0.2.2.2.1).bind fun r6=>(if (!decide (r6.1=(0:Int)))=true then some (r6.1,()) else ((kU n a0).bind fun r7=>(if (!r7.2.1)=true then some ((5:Int),()) else ((pQ n).bind fun r8=>((jM n r8.1 r7.1).bind fun r9=>(if (!decide (r9.1.1=(0:Int)))=true then some ((9:Int),()) else ((jU n r9.1.2.2.1 a0.2.2.2.1).bind fun ND=>(if (!ND.1)=true then some ((9:Int),()) else some ((0:Int),())))))))))))))
def Vz:Entry:=⟨11,[.val Dl []],[.val (.int .i64) [] []],fun n c=>nU n c.1⟩
def aab:Hint:=⟨0,[],[],[],[(43,some 45,YQ),(44,some 51,abv),(45,some 56,YS),(29,some 58,YV),(31,some 67,Vy)],[],[],[],[]⟩
theorem ady:iy T aab Tryz.f11 Vz:=by intro n c; kernel_rfl
theorem ae7 [Fr] (n:Nat):aj Tryz.prog n Vz:=ak mixed aL Tryz.func11 (by kernel_rfl) (hi:=aab) (aa (afg n) (aa (ajc n) (aa (afi n) (aa (afl n) (aa (ae6 n) aD))))) ady
def iK (n:Nat) (a0:BB):Option (Oq×Unit):=((nU n a0).bind fun r1=>(if (!decide (r1.1=(0:Int)))=true then some ((r1.1,([]:List Int),Zd,()),()) else (if a0.1=true then some (((9:Int),([]:List Int),Zd,()),()) else ((kW n a0.2.1).bind fun r2=>((pQ n).bind fun r3=>((jM n r3.1 r2.1).bind fun r4=>(if (!decide (r4.1.1=(0:Int)))=true then some ((r4.1.1,([]:List Int),Zd,()),()) else (if 0≤r2.2.1∧r2.2.1≤(a0.2.1.length:Int) then ((dz n (a0.2.1.take r2.2.1.toNat)).bind fun r5=>some (((0:Int),([]:List Int),(true,r5.1,([]:List Int),r4.1.2.2.1,()),()),())) else none))))))))
def Sj:Entry:=⟨19,[.val Dl []],[.own MO [2,5,114,117] [] []],fun n c=>iK n c.1⟩
def aac:Hint:=⟨0,[37],[],[],[(11,some 8,Vz),(62,some 19,VJ),(45,some 22,YS),(29,some 24,YV),(63,some 35,TG)],[],[],[],[]⟩
theorem adz:iy T aac Tryz.f19 Sj:=by intro n c; kernel_rfl
theorem aad [Fr] (n:Nat):aj Tryz.prog n Sj:=ak mixed aL Tryz.func19 (by kernel_rfl) (hi:=aac) (aa (ae7 n) (aa (abZ n) (aa (afi n) (aa (afl n) (aa (YZ n) aD))))) adz
def qJ (n:Nat) (a0:List Int) (a1:List Int):Option (Bool×Unit):=(if (!decide ((a0.length:Int)=(a1.length:Int)))=true then some (false,()) else (rounds (fun L1 (v1:(List Int)×Zt0)=>(if decide (v1.2.2.1<(v1.1.length:Int))=true then (if aI v1.2.2.1 v1.1.length then (if aI v1.2.2.1 v1.2.1.length then (if (!decide ((v1.1.getD v1.2.2.1.toNat (0:Int))=(v1.2.1.getD v1.2.2.1.toNat (0:Int))))=true then some (false,()) else L1 (v1.1,v1.2.1,IntKind.i64.wrap (v1.2.2.1+(1:Int)),())) else none) else none) else some (true,()))) n (a0,a1,(0:Int),())))
def qg:List dI:=[.val (.sl 2 (.int .i64)) [], .val (.sl 2 (.int .i64)) []]
def zC:List nO:=[.val .bool [] []]
def vM:Entry:=⟨64,qg,zC,fun n (c:Cont (kin qg))=>qJ n c.1 c.2.1⟩
def AA:Hint:=⟨0,[],[(0,[0,1,5],[])],[],[],[],[],[],[]⟩
theorem GQ:∀n (c:Cont (kin qg)),ko T AA Tryz.f64 qg zC n c=vM.F n c:=by intro n c; kernel_rfl
theorem GY [Fr] (n:Nat):aj Tryz.prog n vM:=ak mixed aL Tryz.func64 (by kernel_rfl) (hi:=AA) aD GQ
def kY (n:Nat) (a0:List Int) (a1:List Int):Option (Bool×Unit):=(if (!decide ((a0.length:Int)=(a1.length:Int)))=true then some (false,()) else (rounds (fun L1 (v1:(List Int)×Zt0)=>(if decide (v1.2.2.1<(v1.1.length:Int))=true then (if aI v1.2.2.1 v1.1.length then (if aI v1.2.2.1 v1.2.1.length then (if (!decide ((v1.1.getD v1.2.2.1.toNat (0:Int))=(v1.2.1.getD v1.2.2.1.toNat (0:Int))))=true then some (false,()) else L1 (v1.1,v1.2.1,IntKind.i64.wrap (v1.2.2.1+(1:Int)),())) else none) else none) else some (true,()))) n (a0,a1,(0:Int),())))
def qP:List dI:=[.val (.sl 5 (.int .u8)) [], .val (.sl 5 (.int .u8)) []]
def AY:List nO:=[.val .bool [] []]
def oN:Entry:=⟨46,qP,AY,fun n (c:Cont (kin qP))=>kY n c.1 c.2.1⟩
def Bn:Hint:=⟨0,[],[(0,[0,1,5],[])],[],[],[],[],[],[]⟩
theorem Ik:∀n (c:Cont (kin qP)),ko T Bn Tryz.f46 qP AY n c=oN.F n c:=by intro n c; kernel_rfl
theorem wY [Fr] (n:Nat):aj Tryz.prog n oN:=ak mixed aL Tryz.func46 (by kernel_rfl) (hi:=Bn) aD Ik
def kZ (n:Nat) (a0:ru) (a1:ru):Option (Bool×Unit):=(if (!decide (a0.1=a1.1))=true then some (false,()) else (if (!decide (a0.2.1=a1.2.1))=true then some (false,()) else (if (!decide (a0.2.2.1=a1.2.2.1))=true then some (false,()) else ((kY n a0.2.2.2.1 a1.2.2.2.1).bind fun r1=>(if (!r1.1)=true then some (false,()) else some (true,()))))))
def oC:List dI:=[.val zb [], .val zb []]
def yh:List nO:=[.val .bool [] []]
def tZ:Entry:=⟨202,oC,yh,fun n (c:Cont (kin oC))=>kZ n c.1 c.2.1⟩
def yU:Hint:=⟨0,[],[],[],[(46,some 24,oN)],[],[],[],[]⟩
theorem E5:∀n (c:Cont (kin oC)),ko T yU Tryz.f202 oC yh n c=tZ.F n c:=by intro n c; kernel_rfl
theorem Fq [Fr] (n:Nat):aj Tryz.prog n tZ:=ak mixed aL Tryz.func202 (by kernel_rfl) (hi:=yU) (aa (wY n) aD) E5
def nV (n:Nat) (a0:List ru) (a1:List ru):Option (Bool×Unit):=(if (!decide ((a0.length:Int)=(a1.length:Int)))=true then some (false,()) else (rounds (fun L1 (v1:(List ru)×(List ru)×Int×Unit)=>(if decide (v1.2.2.1<(v1.1.length:Int))=true then (if aI v1.2.2.1 v1.1.length then (if aI v1.2.2.1 v1.2.1.length then ((kZ n (v1.1.getD v1.2.2.1.toNat kC) (v1.2.1.getD v1.2.2.1.toNat kC)).bind fun r2=>(if (!r2.1)=true then some (false,()) else L1 (v1.1,v1.2.1,IntKind.i64.wrap (v1.2.2.1+(1:Int)),()))) else none) else none) else some (true,()))) n (a0,a1,(0:Int),())))
def mU:List dI:=[.val (.sl 117 zb) [], .val (.sl 117 zb) []]
def xE:List nO:=[.val .bool [] []]
def rR:Entry:=⟨174,mU,xE,fun n (c:Cont (kin mU))=>nV n c.1 c.2.1⟩
def xU:Hint:=⟨0,[],[(0,[0,1,5],[])],[],[(202,some 25,tZ)],[],[],[],[]⟩
theorem DW:∀n (c:Cont (kin mU)),ko T xU Tryz.f174 mU xE n c=rR.F n c:=by intro n c; kernel_rfl
theorem D9 [Fr] (n:Nat):aj Tryz.prog n rR:=ak mixed aL Tryz.func174 (by kernel_rfl) (hi:=xU) (aa (Fq n) aD) DW
def sj (n:Nat) (a0:dP) (a1:dP):Option (Bool×Unit):=(if (!decide (a0.1=a1.1))=true then some (false,()) else (if (!decide (a0.2.1=a1.2.1))=true then some (false,()) else (if (!decide (a0.2.2.1=a1.2.2.1))=true then some (false,()) else ((nV n a0.2.2.2.1 a1.2.2.2.1).bind fun r1=>(if (!r1.1)=true then some (false,()) else some (true,()))))))
def uZ:List dI:=[.val nG [], .val nG []]
def Db:List nO:=[.val .bool [] []]
def zP:Entry:=⟨135,uZ,Db,fun n (c:Cont (kin uZ))=>sj n c.1 c.2.1⟩
def D6:Hint:=⟨0,[],[],[],[(174,some 24,rR)],[],[],[],[]⟩
theorem MC:∀n (c:Cont (kin uZ)),ko T D6 Tryz.f135 uZ Db n c=zP.F n c:=by intro n c; kernel_rfl
theorem MG [Fr] (n:Nat):aj Tryz.prog n zP:=ak mixed aL Tryz.func135 (by kernel_rfl) (hi:=D6) (aa (D9 n) aD) MC
def uN (n:Nat) (a0:List dP) (a1:List dP):Option (Bool×Unit):=(if (!decide ((a0.length:Int)=(a1.length:Int)))=true then some (false,()) else (rounds (fun L1 (v1:(List dP)×(List dP)×Int×Unit)=>(if decide (v1.2.2.1<(v1.1.length:Int))=true then (if aI v1.2.2.1 v1.1.length then (if aI v1.2.2.1 v1.2.1.length then ((sj n (v1.1.getD v1.2.2.1.toNat dF) (v1.2.1.getD v1.2.2.1.toNat dF)).bind fun r2=>(if (!r2.1)=true then some (false,()) else L1 (v1.1,v1.2.1,IntKind.i64.wrap (v1.2.2.1+(1:Int)),()))) else none) else none) else some (true,()))) n (a0,a1,(0:Int),())))
def tF:List dI:=[.val (.sl 114 nG) [], .val (.sl 114 nG) []]
def Cb:List nO:=[.val .bool [] []]
def yE:Entry:=⟨101,tF,Cb,fun n (c:Cont (kin tF))=>uN n c.1 c.2.1⟩
def CV:Hint:=⟨0,[],[(0,[0,1,5],[])],[],[(135,some 25,zP)],[],[],[],[]⟩
theorem KF:∀n (c:Cont (kin tF)),ko T CV Tryz.f101 tF Cb n c=yE.F n c:=by intro n c; kernel_rfl
theorem KL [Fr] (n:Nat):aj Tryz.prog n yE:=ak mixed aL Tryz.func101 (by kernel_rfl) (hi:=CV) (aa (MG n) aD) KF
def su (n:Nat) (a0:fG) (a1:fG):Option (Bool×Unit):=(if (!decide (a0.1=a1.1))=true then some (false,()) else ((uN n a0.2.1 a1.2.1).bind fun r1=>(if (!r1.1)=true then some (false,()) else some (true,()))))
def qQ:List dI:=[.val qo [], .val qo []]
def AZ:List nO:=[.val .bool [] []]
def wQ:Entry:=⟨47,qQ,AZ,fun n (c:Cont (kin qQ))=>su n c.1 c.2.1⟩
def Bo:Hint:=⟨0,[],[],[],[(101,some 14,yE)],[],[],[],[]⟩
theorem Il:∀n (c:Cont (kin qQ)),ko T Bo Tryz.f47 qQ AZ n c=wQ.F n c:=by intro n c; kernel_rfl
theorem IA [Fr] (n:Nat):aj Tryz.prog n wQ:=ak mixed aL Tryz.func47 (by kernel_rfl) (hi:=Bo) (aa (KL n) aD) Il
def lq (n:Nat) (a0:BB) (a1:BB):Option (Bool×Unit):=(if (!(a0.1 == a1.1))=true then some (false,()) else ((kY n a0.2.1 a1.2.1).bind fun r1=>(if (!r1.1)=true then some (false,()) else ((kY n a0.2.2.1 a1.2.2.1).bind fun r2=>(if (!r2.1)=true then some (false,()) else ((su n a0.2.2.2.1 a1.2.2.2.1).bind fun r3=>(if (!r3.1)=true then some (false,()) else some (true,()))))))))
def qR:List dI:=[.val Dl [], .val Dl []]
def A7:List nO:=[.val .bool [] []]
def rT:Entry:=⟨12,qR,A7,fun n (c:Cont (kin qR))=>lq n c.1 c.2.1⟩
def Bp:Hint:=⟨0,[],[],[],[(46,some 14,oN),(46,some 20,oN),(47,some 26,wQ)],[],[],[],[]⟩
theorem Im:∀n (c:Cont (kin qR)),ko T Bp Tryz.f12 qR A7 n c=rT.F n c:=by intro n c; kernel_rfl
theorem Bz [Fr] (n:Nat):aj Tryz.prog n rT:=ak mixed aL Tryz.func12 (by kernel_rfl) (hi:=Bp) (aa (wY n) (aa (wY n) (aa (IA n) aD))) Im
def fE (n:Nat) (a0:Oq) (a1:Oq):Option (Bool×Unit):=(if (!decide (a0.1=a1.1))=true then some (false,()) else ((qJ n a0.2.1 a1.2.1).bind fun r1=>(if (!r1.1)=true then some (false,()) else ((lq n a0.2.2.1 a1.2.2.1).bind fun r2=>(if (!r2.1)=true then some (false,()) else some (true,()))))))
def jH:List dI:=[.val MO [], .val MO []]
def tX:List nO:=[.val .bool [] []]
def gV:Entry:=⟨20,jH,tX,fun n (c:Cont (kin jH))=>fE n c.1 c.2.1⟩
def vg:Hint:=⟨0,[],[],[],[(64,some 14,vM),(12,some 20,rT)],[],[],[],[]⟩
theorem Bj:∀n (c:Cont (kin jH)),ko T vg Tryz.f20 jH tX n c=gV.F n c:=by intro n c; kernel_rfl
theorem o7 [Fr] (n:Nat):aj Tryz.prog n gV:=ak mixed aL Tryz.func20 (by kernel_rfl) (hi:=vg) (aa (GY n) (aa (Bz n) aD)) Bj
def jc (n:Nat) (a0:List Int) (a1:Int):Option (Int×(List Int)×Unit):=(rounds (fun L1 (v1:Int×Int×(List Int)×Unit)=>(if decide (v1.2.1<(v1.2.2.1.length:Int))=true then (if aI v1.2.1 v1.2.2.1.length then L1 (IntKind.i64.wrap (v1.1+(1:Int)),IntKind.i64.wrap (v1.2.1+(1:Int)),v1.2.2.1.set v1.2.1.toNat (IntKind.u8.wrap v1.1),()) else none) else some (v1.1,v1.2.2.1,()))) n (a1,(0:Int),a0,()))
def oH:List dI:=[.jJ (.sl 5 (.int .u8)) [5] [5], .val (.int .i64) []]
def yt:List nO:=[.val (.int .i64) [] []]
def kQ:Entry:=⟨65,oH,yt,fun n (c:Cont (kin oH))=>jc n c.1 c.2.1⟩
def yZ:Hint:=⟨0,[],[(0,[0,1,5],[0])],[],[],[],[],[],[]⟩
theorem Fb:∀n (c:Cont (kin oH)),ko T yZ Tryz.f65 oH yt n c=kQ.F n c:=by intro n c; kernel_rfl
theorem uw [Fr] (n:Nat):aj Tryz.prog n kQ:=ak mixed aL Tryz.func65 (by kernel_rfl) (hi:=yZ) aD Fb
def iA (n:Nat) (a0:Int):Option ((List Int)×Unit):=(if decide (a0≤(0:Int))=true then some ([109,48],()) else (rounds (fun L1 (v1:Int×(List Int)×Unit)=>(if decide (v1.1>(0:Int))=true then (if (10:Int)≠0 then (if [IntKind.u8.wrap (IntKind.i64.wrap ((48:Int)+(v1.1.tmod (10:Int))))].length+v1.2.1.length≤9223372036854775807 then (if (10:Int)≠0 then L1 (IntKind.i64.wrap (v1.1.tdiv (10:Int)),[IntKind.u8.wrap (IntKind.i64.wrap ((48:Int)+(v1.1.tmod (10:Int))))]++v1.2.1,()) else none) else none) else none) else (if [109].length+v1.2.1.length≤9223372036854775807 then some ([109]++v1.2.1,()) else none))) n (a0,([]:List Int),())))
def qj:List dI:=[.val (.int .i64) []]
def zG:List nO:=[.val .str [] []]
def qI:Entry:=⟨148,qj,zG,fun n (c:Cont (kin qj))=>iA n c.1⟩
def AL:Hint:=⟨0,[],[(0,[0,3],[])],[],[],[],[],[],[]⟩
theorem GV:∀n (c:Cont (kin qj)),ko T AL Tryz.f148 qj zG n c=qI.F n c:=by intro n c; kernel_rfl
theorem AO [Fr] (n:Nat):aj Tryz.prog n qI:=ak mixed aL Tryz.func148 (by kernel_rfl) (hi:=AL) aD GV
def kJ (n:Nat) (a0:List ru) (a1:Int):Option (Int×(List ru)×Unit):=(rounds (fun L1 (v1:Int×Int×(List ru)×Unit)=>(if decide (v1.2.1<(v1.2.2.1.length:Int))=true then (if aI v1.2.1 v1.2.2.1.length then (if aI v1.2.1 (iM v1.2.2.1 v1.2.1.toNat kC fun z1=>(v1.1,z1.2)).length then (if aI v1.2.1 (iM (iM v1.2.2.1 v1.2.1.toNat kC fun z1=>(v1.1,z1.2)) v1.2.1.toNat kC fun z1=>(z1.1,IntKind.i64.wrap (v1.1+(1:Int)),z1.2.2)).length then (if aI v1.2.1 (iM (iM (iM v1.2.2.1 v1.2.1.toNat kC fun z1=>(v1.1,z1.2)) v1.2.1.toNat kC fun z1=>(z1.1,IntKind.i64.wrap (v1.1+(1:Int)),z1.2.2)) v1.2.1.toNat kC fun z1=>(z1.1,z1.2.1,IntKind.i64.wrap ((IntKind.i64.wrap (v1.1+(1:Int)))+(1:Int)),z1.2.2.2)).length then ((jc n ((((((iM (iM (iM v1.2.2.1 v1.2.1.toNat kC fun z1=>(v1.1,z1.2)) v1.2.1.toNat kC fun z1=>(z1.1,IntKind.i64.wrap (v1.1+(1:Int)),z1.2.2)) v1.2.1.toNat kC fun z1=>(z1.1,z1.2.1,IntKind.i64.wrap ((IntKind.i64.wrap (v1.1+(1:Int)))+(1:Int)),z1.2.2.2)).getD v1.2.1.toNat kC).2).2).2).1) (IntKind.i64.wrap ((IntKind.i64.wrap ((IntKind.i64.wrap (v1.1+(1:Int)))+(1:Int)))+(1:Int)))).bind fun r2=>L1 (r2.1,IntKind.i64.wrap (v1.2.1+(1:Int)),(iM (iM (iM (iM v1.2.2.1 v1.2.1.toNat kC fun z1=>(v1.1,z1.2)) v1.2.1.toNat kC fun z1=>(z1.1,IntKind.i64.wrap (v1.1+(1:Int)),z1.2.2)) v1.2.1.toNat kC fun z1=>(z1.1,z1.2.1,IntKind.i64.wrap ((IntKind.i64.wrap (v1.1+(1:Int)))+(1:Int)),z1.2.2.2)) v1.2.1.toNat kC fun z1=>(z1.1,z1.2.1,z1.2.2.1,r2.2.1,z1.2.2.2.2)),())) else none) else none) else none) else none) else some (v1.1,v1.2.2.1,()))) n (a1,(0:Int),a0,()))
def j5:List dI:=[.jJ (.sl 117 zb) [5,117] [5,117,4294967295], .val (.int .i64) []]
def vJ:List nO:=[.val (.int .i64) [] []]
def qm:Entry:=⟨149,j5,vJ,fun n (c:Cont (kin j5))=>kJ n c.1 c.2.1⟩
def vU:Hint:=⟨0,[37],[(0,[0,1,5],[0])],[],[(65,some 39,kQ)],[],[],[],[]⟩
theorem CK:∀n (c:Cont (kin j5)),ko T vU Tryz.f149 j5 vJ n c=qm.F n c:=by intro n c; kernel_rfl
theorem CO [Fr] (n:Nat):aj Tryz.prog n qm:=ak mixed aL Tryz.func149 (by kernel_rfl) (hi:=vU) (aa (uw n) aD) CK
def qK (n:Nat) (a0:List dP) (a1:Int):Option fG:=(rounds (fun L1 (v1:Int×fG)=>(if decide (v1.2.1<(v1.2.2.1.length:Int))=true then ((iA n v1.1).bind fun r2=>(if aI v1.2.1 v1.2.2.1.length then (if aI v1.2.1 (iM v1.2.2.1 v1.2.1.toNat dF fun z1=>(r2.1,z1.2)).length then (if aI v1.2.1 (iM (iM v1.2.2.1 v1.2.1.toNat dF fun z1=>(r2.1,z1.2)) v1.2.1.toNat dF fun z1=>(z1.1,IntKind.i64.wrap (v1.1+(1:Int)),z1.2.2)).length then (if aI v1.2.1 (iM (iM (iM v1.2.2.1 v1.2.1.toNat dF fun z1=>(r2.1,z1.2)) v1.2.1.toNat dF fun z1=>(z1.1,IntKind.i64.wrap (v1.1+(1:Int)),z1.2.2)) v1.2.1.toNat dF fun z1=>(z1.1,z1.2.1,IntKind.i64.wrap ((IntKind.i64.wrap (v1.1+(1:Int)))+(1:Int)),z1.2.2.2)).length then ((kJ n ((((((iM (iM (iM v1.2.2.1 v1.2.1.toNat dF fun z1=>(r2.1,z1.2)) v1.2.1.toNat dF fun z1=>(z1.1,IntKind.i64.wrap (v1.1+(1:Int)),z1.2.2)) v1.2.1.toNat dF fun z1=>(z1.1,z1.2.1,IntKind.i64.wrap ((IntKind.i64.wrap (v1.1+(1:Int)))+(1:Int)),z1.2.2.2)).getD v1.2.1.toNat dF).2).2).2).1) (IntKind.i64.wrap ((IntKind.i64.wrap ((IntKind.i64.wrap (v1.1+(1:Int)))+(1:Int)))+(1:Int)))).bind fun r3=>L1 (r3.1,IntKind.i64.wrap (v1.2.1+(1:Int)),(iM (iM (iM (iM v1.2.2.1 v1.2.1.toNat dF fun z1=>(r2.1,z1.2)) v1.2.1.toNat dF fun z1=>(z1.1,IntKind.i64.wrap (v1.1+(1:Int)),z1.2.2)) v1.2.1.toNat dF fun z1=>(z1.1,z1.2.1,IntKind.i64.wrap ((IntKind.i64.wrap (v1.1+(1:Int)))+(1:Int)),z1.2.2.2)) v1.2.1.toNat dF fun z1=>(z1.1,z1.2.1,z1.2.2.1,r3.2.1,z1.2.2.2.2)),())) else none) else none) else none) else none)) else some (v1.1,v1.2.2.1,()))) n (a1,(0:Int),a0,()))
def qi:List dI:=[.jJ (.sl 114 nG) [5,114,117] [5,114,117,4294967295], .val (.int .i64) []]
def zF:List nO:=[.val (.int .i64) [] []]
def vO:Entry:=⟨112,qi,zF,fun n (c:Cont (kin qi))=>qK n c.1 c.2.1⟩
def AJ:Hint:=⟨0,[38],[(0,[0,1,5],[0])],[],[(148,some 15,qI),(149,some 40,qm)],[],[],[],[]⟩
theorem GU:∀n (c:Cont (kin qi)),ko T AJ Tryz.f112 qi zF n c=vO.F n c:=by intro n c; kernel_rfl
theorem G5 [Fr] (n:Nat):aj Tryz.prog n vO:=ak mixed aL Tryz.func112 (by kernel_rfl) (hi:=AJ) (aa (AO n) (aa (CO n) aD)) GU
def pU (n:Nat) (a0:fG) (a1:Int):Option (Int×fG×Unit):=((qK n a0.2.1 a1).bind fun r1=>some (r1.1,(a0.1,r1.2.1,a0.2.2),()))
def oI:List dI:=[.jJ qo [5,114,117] [5,114,117,4294967295], .val (.int .i64) []]
def yu:List nO:=[.val (.int .i64) [] []]
def uh:Entry:=⟨66,oI,yu,fun n (c:Cont (kin oI))=>pU n c.1 c.2.1⟩
def y5:Hint:=⟨0,[],[],[],[(112,some 8,vO)],[],[],[],[]⟩
theorem Fe:∀n (c:Cont (kin oI)),ko T y5 Tryz.f66 oI yu n c=uh.F n c:=by intro n c; kernel_rfl
theorem Fw [Fr] (n:Nat):aj Tryz.prog n uh:=ak mixed aL Tryz.func66 (by kernel_rfl) (hi:=y5) (aa (G5 n) aD) Fe
def lD (n:Nat) (a0:BB) (a1:Int):Option (Int×BB×Unit):=((jc n a0.2.1 a1).bind fun r1=>((jc n a0.2.2.1 r1.1).bind fun r2=>((pU n a0.2.2.2.1 r2.1).bind fun r3=>some (r3.1,(a0.1,r1.2.1,r2.2.1,r3.2.1,a0.2.2.2.2),()))))
def oJ:List dI:=[.jJ Dl [5,114,117] [5,114,117,4294967295], .val (.int .i64) []]
def yw:List nO:=[.val (.int .i64) [] []]
def pM:Entry:=⟨21,oJ,yw,fun n (c:Cont (kin oJ))=>lD n c.1 c.2.1⟩
def y7:Hint:=⟨0,[],[],[],[(65,some 8,kQ),(65,some 12,kQ),(66,some 16,uh)],[],[],[],[]⟩
theorem Fg:∀n (c:Cont (kin oJ)),ko T y7 Tryz.f21 oJ yw n c=pM.F n c:=by intro n c; kernel_rfl
theorem za [Fr] (n:Nat):aj Tryz.prog n pM:=ak mixed aL Tryz.func21 (by kernel_rfl) (hi:=y7) (aa (uw n) (aa (uw n) (aa (Fw n) aD))) Fg
def nW (n:Nat) (a0:List Int) (a1:Int):Option (Int×(List Int)×Unit):=(rounds (fun L1 (v1:Int×Int×(List Int)×Unit)=>(if decide (v1.2.1<(v1.2.2.1.length:Int))=true then (if aI v1.2.1 v1.2.2.1.length then L1 (IntKind.i64.wrap (v1.1+(1:Int)),IntKind.i64.wrap (v1.2.1+(1:Int)),v1.2.2.1.set v1.2.1.toNat v1.1,()) else none) else some (v1.1,v1.2.2.1,()))) n (a1,(0:Int),a0,()))
def mY:List dI:=[.jJ (.sl 2 (.int .i64)) [2] [2], .val (.int .i64) []]
def xH:List nO:=[.val (.int .i64) [] []]
def rV:Entry:=⟨67,mY,xH,fun n (c:Cont (kin mY))=>nW n c.1 c.2.1⟩
def xW:Hint:=⟨0,[],[(0,[0,1,5],[0])],[],[],[],[],[],[]⟩
theorem DY:∀n (c:Cont (kin mY)),ko T xW Tryz.f67 mY xH n c=rV.F n c:=by intro n c; kernel_rfl
theorem Eb [Fr] (n:Nat):aj Tryz.prog n rV:=ak mixed aL Tryz.func67 (by kernel_rfl) (hi:=xW) aD DY
def iO (n:Nat) (a0:Oq) (a1:Int):Option (Int×Oq×Unit):=((nW n a0.2.1 a1).bind fun r1=>((lD n a0.2.2.1 r1.1).bind fun r2=>some (r2.1,(a0.1,r1.2.1,r2.2.1,a0.2.2.2),())))
def iw:List dI:=[.jJ MO [2,5,114,117] [2,5,114,117,4294967295], .val (.int .i64) []]
def rO:List nO:=[.val (.int .i64) [] []]
def mD:Entry:=⟨22,iw,rO,fun n (c:Cont (kin iw))=>iO n c.1 c.2.1⟩
def sN:Hint:=⟨0,[],[],[],[(67,some 8,rV),(21,some 12,pM)],[],[],[],[]⟩
theorem zN:∀n (c:Cont (kin iw)),ko T sN Tryz.f22 iw rO n c=mD.F n c:=by intro n c; kernel_rfl
theorem zS [Fr] (n:Nat):aj Tryz.prog n mD:=ak mixed aL Tryz.func22 (by kernel_rfl) (hi:=sN) (aa (Eb n) (aa (za n) aD)) zN
def jV (n:Nat) (a0:List Int) (a1:Int):Option (Int×Unit):=(rounds (fun L1 (v1:(List Int)×Int×Int×Unit)=>(if decide (v1.2.2.1<(v1.1.length:Int))=true then (if aI v1.2.2.1 v1.1.length then (if (!decide ((v1.1.getD v1.2.2.1.toNat (0:Int))=v1.2.1))=true then some ((-1:Int),()) else L1 (v1.1,IntKind.i64.wrap (v1.2.1+(1:Int)),IntKind.i64.wrap (v1.2.2.1+(1:Int)),())) else none) else some (v1.2.1,()))) n (a0,a1,(0:Int),()))
def mW:List dI:=[.val (.sl 2 (.int .i64)) [], .val (.int .i64) []]
def xG:List nO:=[.val (.int .i64) [] []]
def rU:Entry:=⟨68,mW,xG,fun n (c:Cont (kin mW))=>jV n c.1 c.2.1⟩
def xV:Hint:=⟨0,[],[(0,[0,1,5],[])],[],[],[],[],[],[]⟩
theorem DX:∀n (c:Cont (kin mW)),ko T xV Tryz.f68 mW xG n c=rU.F n c:=by intro n c; kernel_rfl
theorem Ea [Fr] (n:Nat):aj Tryz.prog n rU:=ak mixed aL Tryz.func68 (by kernel_rfl) (hi:=xV) aD DX
def fF (n:Nat) (a0:List Int) (a1:Int):Option (Int×Unit):=(rounds (fun L1 (v1:(List Int)×Int×Int×Unit)=>(if decide (v1.2.2.1<(v1.1.length:Int))=true then (if aI v1.2.2.1 v1.1.length then (if (!decide ((v1.1.getD v1.2.2.1.toNat (0:Int))=(IntKind.u8.wrap v1.2.1)))=true then some ((-1:Int),()) else L1 (v1.1,IntKind.i64.wrap (v1.2.1+(1:Int)),IntKind.i64.wrap (v1.2.2.1+(1:Int)),())) else none) else some (v1.2.1,()))) n (a0,a1,(0:Int),()))
def oD:List dI:=[.val (.sl 5 (.int .u8)) [], .val (.int .i64) []]
def yj:List nO:=[.val (.int .i64) [] []]
def kP:Entry:=⟨113,oD,yj,fun n (c:Cont (kin oD))=>fF n c.1 c.2.1⟩
def yV:Hint:=⟨0,[],[(0,[0,1,5],[])],[],[],[],[],[],[]⟩
theorem E8:∀n (c:Cont (kin oD)),ko T yV Tryz.f113 oD yj n c=kP.F n c:=by intro n c; kernel_rfl
theorem uu [Fr] (n:Nat):aj Tryz.prog n kP:=ak mixed aL Tryz.func113 (by kernel_rfl) (hi:=yV) aD E8
def kI (n:Nat) (a0:List ru) (a1:Int):Option (Int×Unit):=(rounds (fun L1 (v1:(List ru)×Int×Int×Unit)=>(if decide (v1.2.2.1<(v1.1.length:Int))=true then (if aI v1.2.2.1 v1.1.length then (if (!decide (((v1.1.getD v1.2.2.1.toNat kC).1)=v1.2.1))=true then some ((-1:Int),()) else (if aI v1.2.2.1 v1.1.length then (if (!decide ((((v1.1.getD v1.2.2.1.toNat kC).2).1)=(IntKind.i64.wrap (v1.2.1+(1:Int)))))=true then some ((-1:Int),()) else (if aI v1.2.2.1 v1.1.length then (if (!decide (((((v1.1.getD v1.2.2.1.toNat kC).2).2).1)=(IntKind.i64.wrap ((IntKind.i64.wrap (v1.2.1+(1:Int)))+(1:Int)))))=true then some ((-1:Int),()) else (if aI v1.2.2.1 v1.1.length then ((fF n (((((v1.1.getD v1.2.2.1.toNat kC).2).2).2).1) (IntKind.i64.wrap ((IntKind.i64.wrap ((IntKind.i64.wrap (v1.2.1+(1:Int)))+(1:Int)))+(1:Int)))).bind fun r2=>(if decide (r2.1<(0:Int))=true then some ((-1:Int),()) else L1 (v1.1,r2.1,IntKind.i64.wrap (v1.2.2.1+(1:Int)),()))) else none)) else none)) else none)) else none) else some (v1.2.1,()))) n (a0,a1,(0:Int),()))
def j4:List dI:=[.val (.sl 117 zb) [], .val (.int .i64) []]
def vI:List nO:=[.val (.int .i64) [] []]
def ql:Entry:=⟨185,j4,vI,fun n (c:Cont (kin j4))=>kI n c.1 c.2.1⟩
def vT:Hint:=⟨0,[],[(0,[0,1,5],[])],[],[(113,some 45,kP)],[],[],[],[]⟩
theorem CJ:∀n (c:Cont (kin j4)),ko T vT Tryz.f185 j4 vI n c=ql.F n c:=by intro n c; kernel_rfl
theorem CL [Fr] (n:Nat):aj Tryz.prog n ql:=ak mixed aL Tryz.func185 (by kernel_rfl) (hi:=vT) (aa (uu n) aD) CJ
def nC (n:Nat) (a0:List dP) (a1:Int):Option (Int×Unit):=(rounds (fun L1 (v1:(List dP)×Int×Int×Unit)=>(if decide (v1.2.2.1<(v1.1.length:Int))=true then (if aI v1.2.2.1 v1.1.length then ((iA n v1.2.1).bind fun r2=>(if (!decide (((v1.1.getD v1.2.2.1.toNat dF).1)=r2.1))=true then some ((-1:Int),()) else (if aI v1.2.2.1 v1.1.length then (if (!decide ((((v1.1.getD v1.2.2.1.toNat dF).2).1)=(IntKind.i64.wrap (v1.2.1+(1:Int)))))=true then some ((-1:Int),()) else (if aI v1.2.2.1 v1.1.length then (if (!decide (((((v1.1.getD v1.2.2.1.toNat dF).2).2).1)=(IntKind.i64.wrap ((IntKind.i64.wrap (v1.2.1+(1:Int)))+(1:Int)))))=true then some ((-1:Int),()) else (if aI v1.2.2.1 v1.1.length then ((kI n (((((v1.1.getD v1.2.2.1.toNat dF).2).2).2).1) (IntKind.i64.wrap ((IntKind.i64.wrap ((IntKind.i64.wrap (v1.2.1+(1:Int)))+(1:Int)))+(1:Int)))).bind fun r3=>(if decide (r3.1<(0:Int))=true then some ((-1:Int),()) else L1 (v1.1,r3.1,IntKind.i64.wrap (v1.2.2.1+(1:Int)),()))) else none)) else none)) else none))) else none) else some (v1.2.1,()))) n (a0,a1,(0:Int),()))
def qh:List dI:=[.val (.sl 114 nG) [], .val (.int .i64) []]
def zD:List nO:=[.val (.int .i64) [] []]
def vN:Entry:=⟨150,qh,zD,fun n (c:Cont (kin qh))=>nC n c.1 c.2.1⟩
def AB:Hint:=⟨0,[],[(0,[0,1,5],[])],[],[(148,some 18,qI),(185,some 46,ql)],[],[],[],[]⟩
theorem GR:∀n (c:Cont (kin qh)),ko T AB Tryz.f150 qh zD n c=vN.F n c:=by intro n c; kernel_rfl
theorem GZ [Fr] (n:Nat):aj Tryz.prog n vN:=ak mixed aL Tryz.func150 (by kernel_rfl) (hi:=AB) (aa (AO n) (aa (CL n) aD)) GR
def lu (n:Nat) (a0:fG) (a1:Int):Option (Int×Unit):=((nC n a0.2.1 a1).bind fun r1=>(if decide (r1.1<(0:Int))=true then some ((-1:Int),()) else some (r1.1,())))
def oF:List dI:=[.val qo [], .val (.int .i64) []]
def yl:List nO:=[.val (.int .i64) [] []]
def uf:Entry:=⟨114,oF,yl,fun n (c:Cont (kin oF))=>lu n c.1 c.2.1⟩
def yX:Hint:=⟨0,[],[],[],[(150,some 8,vN)],[],[],[],[]⟩
theorem E9:∀n (c:Cont (kin oF)),ko T yX Tryz.f114 oF yl n c=uf.F n c:=by intro n c; kernel_rfl
theorem Fu [Fr] (n:Nat):aj Tryz.prog n uf:=ak mixed aL Tryz.func114 (by kernel_rfl) (hi:=yX) (aa (GZ n) aD) E9
def lC (n:Nat) (a0:BB) (a1:Int):Option (Int×Unit):=((fF n a0.2.1 a1).bind fun r1=>(if decide (r1.1<(0:Int))=true then some ((-1:Int),()) else ((fF n a0.2.2.1 r1.1).bind fun r2=>(if decide (r2.1<(0:Int))=true then some ((-1:Int),()) else ((lu n a0.2.2.2.1 r2.1).bind fun r3=>(if decide (r3.1<(0:Int))=true then some ((-1:Int),()) else some (r3.1,())))))))
def oG:List dI:=[.val Dl [], .val (.int .i64) []]
def ym:List nO:=[.val (.int .i64) [] []]
def ug:Entry:=⟨69,oG,ym,fun n (c:Cont (kin oG))=>lC n c.1 c.2.1⟩
def yY:Hint:=⟨0,[],[],[],[(113,some 8,kP),(113,some 14,kP),(114,some 20,uf)],[],[],[],[]⟩
theorem Fa:∀n (c:Cont (kin oG)),ko T yY Tryz.f69 oG ym n c=ug.F n c:=by intro n c; kernel_rfl
theorem Fv [Fr] (n:Nat):aj Tryz.prog n ug:=ak mixed aL Tryz.func69 (by kernel_rfl) (hi:=yY) (aa (uu n) (aa (uu n) (aa (Fu n) aD))) Fa
def fV (n:Nat) (a0:Oq) (a1:Int):Option (Int×Unit):=((jV n a0.2.1 a1).bind fun r1=>(if decide (r1.1<(0:Int))=true then some ((-1:Int),()) else ((lC n a0.2.2.1 r1.1).bind fun r2=>(if decide (r2.1<(0:Int))=true then some ((-1:Int),()) else some (r2.1,())))))
def iq:List dI:=[.val MO [], .val (.int .i64) []]
def rM:List nO:=[.val (.int .i64) [] []]
def iN:Entry:=⟨23,iq,rM,fun n (c:Cont (kin iq))=>fV n c.1 c.2.1⟩
def sM:Hint:=⟨0,[],[],[],[(68,some 8,rU),(69,some 14,ug)],[],[],[],[]⟩
theorem zM:∀n (c:Cont (kin iq)),ko T sM Tryz.f23 iq rM n c=iN.F n c:=by intro n c; kernel_rfl
theorem sP [Fr] (n:Nat):aj Tryz.prog n iN:=ak mixed aL Tryz.func23 (by kernel_rfl) (hi:=sM) (aa (Ea n) (aa (Fv n) aD)) zM
def jq (n:Nat) (a0:BB):Option (Bool×Unit):=((sD n a0 (1048576:Int)).bind fun r1=>(if decide (r1.1<(0:Int))=true then some (true,()) else ((jr n a0).bind fun r2=>((kK n r2.1).bind fun r3=>((jr n a0).bind fun r4=>((iK n r4.1).bind fun r5=>((fE n r5.1 r3.1).bind fun r6=>(if (!r6.1)=true then some (false,()) else ((jr n a0).bind fun r7=>((lq n r4.1 r7.1).bind fun r8=>(if (!r8.1)=true then some (false,()) else ((lD n r4.1 (1:Int)).bind fun r9=>(if decide (r9.1<(0:Int))=true then some (false,()) else ((fE n r5.1 r3.1).bind fun ND=>(if (!ND.1)=true then some (false,()) else ((iO n r5.1 (1:Int)).bind fun Ih=>((fV n Ih.2.1 (1:Int)).bind fun Kb=>(if decide (Kb.1<(0:Int))=true then some (false,()) else (if (!decide (Kb.1=Ih.1))=true then some (false,()) else ((jr n a0).bind fun NV=>((iK n NV.1).bind fun Yc=>((fE n Yc.1 r3.1).bind fun Tq=>(if (!Tq.1)=true then some (false,()) else ((fV n Ih.2.1 (1:Int)).bind fun r16=>(if decide (r16.1<(0:Int))=true then some (false,()) else (if (!decide (r16.1=Ih.1))=true then some (false,()) else some (true,())))))))))))))))))))))))))))
def bM:List dI:=[.val Oo []]
def oM:List nO:=[.val .bool [] []]
def jo:Entry:=⟨5,bM,oM,fun n (c:Cont (kin bM))=>jq n c.1⟩
def oZ:Hint:=⟨0,[32,43],[],[],[(8,some 13,wS),(10,some 17,kR),(18,some 18,abf),(10,some 20,kR),(19,some 22,Sj),(20,some 25,gV),(10,some 29,kR),(12,some 30,rT),(21,some 34,pM),(20,some 40,gV),(22,some 45,mD),(23,some 48,iN),(10,some 55,kR),(19,some 56,Sj),(20,some 59,gV),(23,some 63,iN)],[],[],[],[]⟩
theorem wP:∀n (c:Cont (kin bM)),ko T oZ Tryz.f5 bM oM n c=jo.F n c:=by intro n c; kernel_rfl
theorem wX [Fr] (n:Nat):aj Tryz.prog n jo:=ak mixed aL Tryz.func5 (by kernel_rfl) (hi:=oZ) (aa (IC n) (aa (sQ n) (aa (aiW n) (aa (sQ n) (aa (aad n) (aa (o7 n) (aa (sQ n) (aa (Bz n) (aa (za n) (aa (o7 n) (aa (zS n) (aa (sP n) (aa (sQ n) (aa (aad n) (aa (o7 n) (aa (sP n) aD)))))))))))))))) wP
end Go.Proofs.YtailcbngagacaaaGreat.FD

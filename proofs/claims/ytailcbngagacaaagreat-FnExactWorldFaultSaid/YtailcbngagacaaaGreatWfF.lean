/- What the functions of this law compute, as plain functions, and that the reading comes to them. No condition. -/
import Derived.Test.YtailcbngagacaaaGreatProg
import Derived.Test.YtailcbngagacaaaGreatOwF
import Derived.Test.YtailcbngagacaaaGreatCutLib
import Derived.Test.YtailcbngagacaaaGreatPartLib
import Derived.Test.YtailcbngagacaaaGreatPurgeLib
import Derived.Test.YtailcbngagacaaaGreatTakeLib
import Derived.KernelRfl
set_option linter.unusedSectionVars false
set_option linter.unusedVariables false
set_option linter.unusedSimpArgs false
namespace Go.Proofs.YtailcbngagacaaaGreat.UZ
open Go Go.Proofs.YtailcbngagacaaaGreat Go.Proofs.YtailcbngagacaaaGreat.Ow
abbrev Xx:K:=(.st (.pair .str (.pair (.int .u64) .unit)))
abbrev Zt0:Type:=(List Int)×Int×Unit
abbrev Sc:K:=(.st (.pair (.sl 5 (.int .u8)) (.pair .bool .unit)))
abbrev Zt1:Type:=(List Int)×Bool×Unit
abbrev Xy:K:=(.st (.pair (.sl 5 (.int .u8)) (.pair (.int .i64) .unit)))
abbrev Sg:K:=(.st (.pair (.sl 5 (.int .u8)) (.pair (.int .i64) (.pair .bool .unit))))
abbrev Zh:Type:=(List Int)×Int×Bool×Unit
abbrev Zk4:K:=(.st (.pair .str (.pair (.int .i64) (.pair (.int .i64) (.pair (.id 117) .unit)))))
abbrev Zt4:Type:=(List Int)×Int×Int×Nat×Unit
abbrev Xz:K:=(.st (.pair (.int .i64) (.pair (.int .i64) (.pair .bool (.pair (.int .u8) .unit)))))
abbrev JL:K:=(.st (.pair (.int .i64) (.pair (.int .i64) (.pair (.int .i64) (.pair (.id 5) .unit)))))
abbrev Lu:Type:=Int×Int×Int×Nat×Unit
abbrev xY:K:=(.st (.pair .str (.pair (.int .i64) (.pair (.sl 2 (.int .i64)) (.pair (.int .i64) .unit)))))
abbrev Ke:Type:=(List Int)×Int×Zt0
abbrev yZ:K:=(.st (.pair (.int .i64) (.pair (.int .i64) (.pair (.int .i64) (.pair (.sl 5 (.int .u8)) .unit)))))
abbrev rV:Type:=Int×Int×Int×(List Int)×Unit
abbrev Zk9:K:=(.st (.pair (.int .i64) (.pair (.sl 114 Zk4) .unit)))
abbrev Zt9:Type:=Int×(List (Zt4))×Unit
abbrev JJ:K:=(.st (.pair .str (.pair (.int .i64) (.pair (.int .i64) (.pair (.sl 227 JL) .unit)))))
abbrev Sl:Type:=(List Int)×Int×Int×(List (Lu))×Unit
abbrev FN:K:=(.st (.pair .str (.pair (.int .i64) (.pair (.int .i64) (.pair (.sl 117 JL) .unit)))))
abbrev jy:K:=(.st (.pair (.int .i64) (.pair .str (.pair .str (.pair (.sl 2 (.int .i64)) (.pair (.int .i64) (.pair (.int .i64) (.pair (.int .i64) (.pair (.sl 5 (.int .u8)) .unit)))))))))
abbrev gX:Type:=Int×(List Int)×(List Int)×(List Int)×rV
abbrev GX:K:=(.st (.pair .str (.pair (.int .i64) (.pair (.int .i64) (.pair (.sl 227 yZ) .unit)))))
abbrev dX:Type:=(List Int)×Int×Int×(List (rV))×Unit
abbrev nE:K:=(.st (.pair .str (.pair (.int .i64) (.pair (.int .i64) (.pair (.sl 117 yZ) .unit)))))
abbrev aeL:K:=(.st (.pair (.int .i64) (.pair (.sl 2 (.int .i64)) (.pair Zk9 .unit))))
abbrev Pe:K:=(.st (.pair (.int .i64) (.pair (.sl 168 JJ) .unit)))
abbrev M9:K:=(.st (.pair (.int .i64) (.pair (.sl 114 FN) .unit)))
abbrev Yd:K:=(.st (.pair .bool (.pair (.sl 5 (.int .u8)) (.pair (.sl 5 (.int .u8)) (.pair Zk9 .unit)))))
abbrev Pf:K:=(.st (.pair (.int .i64) (.pair (.sl 168 GX) .unit)))
abbrev gB:Type:=Int×(List (dX))×Unit
abbrev qj:K:=(.st (.pair (.int .i64) (.pair (.sl 114 nE) .unit)))
abbrev GY:K:=(.st (.pair (.int .i64) (.pair (.int .i64) (.pair jy .unit))))
abbrev aiP:Type:=Int×Int×(gX)×Unit
abbrev JK:K:=(.st (.pair (.int .i64) (.pair (.int .i64) (.pair (.sl 72 jy) .unit))))
abbrev Sd:K:=(.st (.pair (.int .i64) (.pair (.sl 2 (.int .i64)) (.pair M9 .unit))))
abbrev aeM:K:=(.st (.pair (.int .i64) (.pair (.sl 2 (.int .i64)) (.pair Yd .unit))))
abbrev Lt:K:=(.st (.pair (.int .i64) (.pair (.sl 2 (.int .i64)) (.pair qj .unit))))
abbrev Er:Type:=Int×(List Int)×(gB)×Unit
abbrev Pg:K:=(.st (.pair .bool (.pair (.sl 5 (.int .u8)) (.pair (.sl 5 (.int .u8)) (.pair Pe .unit)))))
abbrev Na:K:=(.st (.pair .bool (.pair (.sl 5 (.int .u8)) (.pair (.sl 5 (.int .u8)) (.pair M9 .unit)))))
abbrev Ph:K:=(.st (.pair .bool (.pair (.sl 5 (.int .u8)) (.pair (.sl 5 (.int .u8)) (.pair Pf .unit)))))
abbrev JM:Type:=Bool×(List Int)×(List Int)×(gB)×Unit
abbrev GZ:K:=(.st (.pair .bool (.pair (.sl 5 (.int .u8)) (.pair (.sl 5 (.int .u8)) (.pair qj .unit)))))
abbrev aeN:K:=(.st (.pair Yd (.pair (.sl 91 xY) .unit)))
abbrev Si:K:=(.st (.pair (.int .i64) (.pair (.sl 2 (.int .i64)) (.pair Na .unit))))
abbrev aeO:K:=(.st (.pair (.int .i64) (.pair (.sl 2 (.int .i64)) (.pair GZ .unit))))
abbrev Sj:K:=(.st (.pair Na (.pair (.sl 91 xY) .unit)))
abbrev Sk:K:=(.st (.pair Pg (.pair (.sl 139 xY) .unit)))
abbrev Nb:K:=(.st (.pair GZ (.pair (.sl 91 xY) .unit)))
abbrev JN:Type:=(JM)×(List (Ke))×Unit
abbrev Pj:K:=(.st (.pair Ph (.pair (.sl 139 xY) .unit)))
abbrev Di:gX:=((0:Int),([]:List Int),([]:List Int),([]:List Int),(0:Int),(0:Int),(0:Int),([]:List Int),())
abbrev abd:Er:=((0:Int),([]:List Int),((0:Int),([]:List dX),()),())
abbrev Lx:Ke:=(([]:List Int),(0:Int),([]:List Int),(0:Int),())
abbrev eX:dX:=(([]:List Int),(0:Int),(0:Int),([]:List rV),())
abbrev oU:rV:=((0:Int),(0:Int),(0:Int),([]:List Int),())
abbrev Lv:Lu:=((0:Int),(0:Int),(0:Int),(0:Nat),())
abbrev Nc:gB:=((0:Int),([]:List dX),())
def tyL:Ul:={ ty:=[(2,(.int .i64)),(3,(.int .i64)),(4, .bool),(5,(.int .u8)),(6,(.int .u8)),(7,Xz),(8,Xz),(9, .str),(10, .str),(11, .str),(12,(.int .u64)),(13,Xx),(14,Xx),(21,(.int .i32)),(22,(.sl 5 (.int .u8))),(23,(.sl 168 GX)),(24,Pf),(25,Pf),(26,Ph),(27,Ph),(30,(.sl 114 nE)),(31,qj),(32,qj),(33,GZ),(34,GZ),(38,(.sl 139 xY)),(39,Pj),(40,Pj),(43,(.sl 91 xY)),(44,Nb),(45,Nb),(49,(.sl 2 (.int .i64))),(50,aeO),(51,aeO),(60,(.sl 72 jy)),(61,JK),(62,JK),(64,Lt),(65,Lt),(71,jy),(72,jy),(90,xY),(91,xY),(112,(.sl 117 yZ)),(113,nE),(114,nE),(116,yZ),(117,yZ),(139,xY),(145,GY),(146,GY),(152,Xy),(153,Xy),(155,(.sl 22 (.sl 5 (.int .u8)))),(166,(.sl 227 yZ)),(167,GX),(168,GX),(180,Sc),(181,Sc),(194,(.sl 9 .str)),(203,Sg),(204,Sg),(227,yZ),(245,(.int .u32)),(246,(.int .u8)),(247,(.int .u8)),(250,(.int .i32)),(251,(.int .i32))],bytes:=[(2,8),(3,8),(4,1),(5,1),(6,1),(7,24),(8,24),(9,16),(10,16),(11,16),(12,8),(13,24),(14,24),(21,4),(22,24),(23,24),(24,32),(25,32),(26,88),(27,88),(30,24),(31,32),(32,32),(33,88),(34,88),(38,24),(39,112),(40,112),(43,24),(44,112),(45,112),(49,24),(50,120),(51,120),(60,24),(61,40),(62,40),(64,64),(65,64),(71,112),(72,112),(90,56),(91,56),(112,24),(113,56),(114,56),(116,48),(117,48),(139,56),(145,128),(146,128),(152,32),(153,32),(155,24),(166,24),(167,56),(168,56),(180,32),(181,32),(194,24),(203,40),(204,40),(227,48),(245,4),(246,1),(247,1),(250,4),(251,4)],ptr:=[15,16,17,77,86,104,121,131,141,170,179,199,206,249] }
def T:iX:=tyL.tab
theorem aK:Bl Tryz.prog tyL=true:=by kernel_rfl
theorem mixed:Tryz.prog.follows .mixedOrders=true:=by kernel_rfl
def ko (n:Nat) (a0:List Int) (a1:Int):Option (Int×Unit):=(if decide ((IntKind.i64.wrap (a1 - (a0.length:Int)))<(0:Int))=true then some ((-1:Int),()) else some (IntKind.i64.wrap (a1 - (a0.length:Int)),()))
def pW:List dL:=[.val (.sl 5 (.int .u8)) [], .val (.int .i64) []]
def zU:List nP:=[.val (.int .i64) [] []]
def nI:Entry:=⟨38,pW,zU,fun n (c:Cont (kin pW))=>ko n c.1 c.2.1⟩
def Ak:Hint:=⟨0,[],[],[],[],[],[],[],[]⟩
theorem Gp:∀n (c:Cont (kin pW)),mg T Ak Tryz.f38 pW zU n c=nI.F n c:=by intro n c; kernel_rfl
theorem vS [Fr] (n:Nat):aj Tryz.prog n nI:=ak mixed aK Tryz.func38 (by kernel_rfl) (hi:=Ak) aD Gp
def kr (n:Nat) (a0:rV) (a1:Int):Option (Int×Unit):=((ko n a0.2.2.2.1 a1).bind fun r1=>(if decide (r1.1<(0:Int))=true then some ((-1:Int),()) else some (r1.1,())))
def ny:List dL:=[.val yZ [], .val (.int .i64) []]
def xy:List nP:=[.val (.int .i64) [] []]
def su:Entry:=⟨200,ny,xy,fun n (c:Cont (kin ny))=>kr n c.1 c.2.1⟩
def yg:Hint:=⟨0,[],[],[],[(38,some 8,nI)],[],[],[],[]⟩
theorem D8:∀n (c:Cont (kin ny)),mg T yg Tryz.f200 ny xy n c=su.F n c:=by intro n c; kernel_rfl
theorem Eg [Fr] (n:Nat):aj Tryz.prog n su:=ak mixed aK Tryz.func200 (by kernel_rfl) (hi:=yg) (aa (vS n) aD) D8
def mP (n:Nat) (a0:List rV) (a1:Int):Option (Int×Unit):=(if decide ((IntKind.i64.wrap (a1 - (a0.length:Int)))<(0:Int))=true then some ((-1:Int),()) else (rounds (fun L1 (v1:(List rV)×Int×Int×Unit)=>(if decide (v1.2.2.1<(v1.1.length:Int))=true then (if aM v1.2.2.1 v1.1.length then ((kr n (v1.1.getD v1.2.2.1.toNat oU) v1.2.1).bind fun r2=>(if decide (r2.1<(0:Int))=true then some ((-1:Int),()) else L1 (v1.1,r2.1,IntKind.i64.wrap (v1.2.2.1+(1:Int)),()))) else none) else some (v1.2.1,()))) n (a0,IntKind.i64.wrap (a1 - (a0.length:Int)),(0:Int),())))
def lF:List dL:=[.val (.sl 227 yZ) [], .val (.int .i64) []]
def wJ:List nP:=[.val (.int .i64) [] []]
def qG:Entry:=⟨170,lF,wJ,fun n (c:Cont (kin lF))=>mP n c.1 c.2.1⟩
def wY:Hint:=⟨0,[],[(0,[0,1,5],[])],[],[(200,some 23,su)],[],[],[],[]⟩
theorem CS:∀n (c:Cont (kin lF)),mg T wY Tryz.f170 lF wJ n c=qG.F n c:=by intro n c; kernel_rfl
theorem Da [Fr] (n:Nat):aj Tryz.prog n qG:=ak mixed aK Tryz.func170 (by kernel_rfl) (hi:=wY) (aa (Eg n) aD) CS
def qR (n:Nat) (a0:dX) (a1:Int):Option (Int×Unit):=(if decide ((IntKind.i64.wrap (a1 - (a0.1.length:Int)))<(0:Int))=true then some ((-1:Int),()) else ((mP n a0.2.2.2.1 (IntKind.i64.wrap (a1 - (a0.1.length:Int)))).bind fun r1=>(if decide (r1.1<(0:Int))=true then some ((-1:Int),()) else some (r1.1,()))))
def tZ:List dL:=[.val GX [], .val (.int .i64) []]
def Ca:List nP:=[.val (.int .i64) [] []]
def yS:Entry:=⟨129,tZ,Ca,fun n (c:Cont (kin tZ))=>qR n c.1 c.2.1⟩
def CY:Hint:=⟨0,[],[],[],[(170,some 15,qG)],[],[],[],[]⟩
theorem Lg:∀n (c:Cont (kin tZ)),mg T CY Tryz.f129 tZ Ca n c=yS.F n c:=by intro n c; kernel_rfl
theorem Lj [Fr] (n:Nat):aj Tryz.prog n yS:=ak mixed aK Tryz.func129 (by kernel_rfl) (hi:=CY) (aa (Da n) aD) Lg
def tC (n:Nat) (a0:List dX) (a1:Int):Option (Int×Unit):=(if decide ((IntKind.i64.wrap (a1 - (a0.length:Int)))<(0:Int))=true then some ((-1:Int),()) else (rounds (fun L1 (v1:(List dX)×Int×Int×Unit)=>(if decide (v1.2.2.1<(v1.1.length:Int))=true then (if aM v1.2.2.1 v1.1.length then ((qR n (v1.1.getD v1.2.2.1.toNat eX) v1.2.1).bind fun r2=>(if decide (r2.1<(0:Int))=true then some ((-1:Int),()) else L1 (v1.1,r2.1,IntKind.i64.wrap (v1.2.2.1+(1:Int)),()))) else none) else some (v1.2.1,()))) n (a0,IntKind.i64.wrap (a1 - (a0.length:Int)),(0:Int),())))
def rO:List dL:=[.val (.sl 168 GX) [], .val (.int .i64) []]
def Bd:List nP:=[.val (.int .i64) [] []]
def xK:Entry:=⟨94,rO,Bd,fun n (c:Cont (kin rO))=>tC n c.1 c.2.1⟩
def BO:Hint:=⟨0,[],[(0,[0,1,5],[])],[],[(129,some 23,yS)],[],[],[],[]⟩
theorem JC:∀n (c:Cont (kin rO)),mg T BO Tryz.f94 rO Bd n c=xK.F n c:=by intro n c; kernel_rfl
theorem JG [Fr] (n:Nat):aj Tryz.prog n xK:=ak mixed aK Tryz.func94 (by kernel_rfl) (hi:=BO) (aa (Lj n) aD) JC
def vP (n:Nat) (a0:gB) (a1:Int):Option (Int×Unit):=((tC n a0.2.1 a1).bind fun r1=>(if decide (r1.1<(0:Int))=true then some ((-1:Int),()) else some (r1.1,())))
def pX:List dL:=[.val Pf [], .val (.int .i64) []]
def zV:List nP:=[.val (.int .i64) [] []]
def vJ:Entry:=⟨39,pX,zV,fun n (c:Cont (kin pX))=>vP n c.1 c.2.1⟩
def Al:Hint:=⟨0,[],[],[],[(94,some 8,xK)],[],[],[],[]⟩
theorem Gq:∀n (c:Cont (kin pX)),mg T Al Tryz.f39 pX zV n c=vJ.F n c:=by intro n c; kernel_rfl
theorem GH [Fr] (n:Nat):aj Tryz.prog n vJ:=ak mixed aK Tryz.func39 (by kernel_rfl) (hi:=Al) (aa (JG n) aD) Gq
def qV (n:Nat) (a0:JM) (a1:Int):Option (Int×Unit):=((ko n a0.2.1 a1).bind fun r1=>(if decide (r1.1<(0:Int))=true then some ((-1:Int),()) else ((ko n a0.2.2.1 r1.1).bind fun r2=>(if decide (r2.1<(0:Int))=true then some ((-1:Int),()) else ((vP n a0.2.2.2.1 r2.1).bind fun r3=>(if decide (r3.1<(0:Int))=true then some ((-1:Int),()) else some (r3.1,())))))))
def pY:List dL:=[.val Ph [], .val (.int .i64) []]
def zW:List nP:=[.val (.int .i64) [] []]
def vK:Entry:=⟨8,pY,zW,fun n (c:Cont (kin pY))=>qV n c.1 c.2.1⟩
def Am:Hint:=⟨0,[],[],[],[(38,some 8,nI),(38,some 14,nI),(39,some 20,vJ)],[],[],[],[]⟩
theorem Gr:∀n (c:Cont (kin pY)),mg T Am Tryz.f8 pY zW n c=vK.F n c:=by intro n c; kernel_rfl
theorem GI [Fr] (n:Nat):aj Tryz.prog n vK:=ak mixed aK Tryz.func8 (by kernel_rfl) (hi:=Am) (aa (vS n) (aa (vS n) (aa (GH n) aD))) Gr
def uH (n:Nat) (a0:List Int) (a1:Int):Option (Int×Unit):=(if decide ((IntKind.i64.wrap (a1 - (a0.length:Int)))<(0:Int))=true then some ((-1:Int),()) else some (IntKind.i64.wrap (a1 - (a0.length:Int)),()))
def oM:List dL:=[.val (.sl 2 (.int .i64)) [], .val (.int .i64) []]
def yK:List nP:=[.val (.int .i64) [] []]
def uF:Entry:=⟨136,oM,yK,fun n (c:Cont (kin oM))=>uH n c.1 c.2.1⟩
def zI:Hint:=⟨0,[],[],[],[],[],[],[],[]⟩
theorem FE:∀n (c:Cont (kin oM)),mg T zI Tryz.f136 oM yK n c=uF.F n c:=by intro n c; kernel_rfl
theorem FL [Fr] (n:Nat):aj Tryz.prog n uF:=ak mixed aK Tryz.func136 (by kernel_rfl) (hi:=zI) aD FE
def ku (n:Nat) (a0:Ke) (a1:Int):Option (Int×Unit):=(if decide ((IntKind.i64.wrap (a1 - (a0.1.length:Int)))<(0:Int))=true then some ((-1:Int),()) else ((uH n a0.2.2.1 (IntKind.i64.wrap (a1 - (a0.1.length:Int)))).bind fun r1=>(if decide (r1.1<(0:Int))=true then some ((-1:Int),()) else some (r1.1,()))))
def nA:List dL:=[.val xY [], .val (.int .i64) []]
def xz:List nP:=[.val (.int .i64) [] []]
def sw:Entry:=⟨102,nA,xz,fun n (c:Cont (kin nA))=>ku n c.1 c.2.1⟩
def yh:Hint:=⟨0,[],[],[],[(136,some 15,uF)],[],[],[],[]⟩
theorem D9:∀n (c:Cont (kin nA)),mg T yh Tryz.f102 nA xz n c=sw.F n c:=by intro n c; kernel_rfl
theorem Eh [Fr] (n:Nat):aj Tryz.prog n sw:=ak mixed aK Tryz.func102 (by kernel_rfl) (hi:=yh) (aa (FL n) aD) D9
def qU (n:Nat) (a0:List Ke) (a1:Int):Option (Int×Unit):=(if decide ((IntKind.i64.wrap (a1 - (a0.length:Int)))<(0:Int))=true then some ((-1:Int),()) else (rounds (fun L1 (v1:(List Ke)×Int×Int×Unit)=>(if decide (v1.2.2.1<(v1.1.length:Int))=true then (if aM v1.2.2.1 v1.1.length then ((ku n (v1.1.getD v1.2.2.1.toNat Lx) v1.2.1).bind fun r2=>(if decide (r2.1<(0:Int))=true then some ((-1:Int),()) else L1 (v1.1,r2.1,IntKind.i64.wrap (v1.2.2.1+(1:Int)),()))) else none) else some (v1.2.1,()))) n (a0,IntKind.i64.wrap (a1 - (a0.length:Int)),(0:Int),())))
def lG:List dL:=[.val (.sl 139 xY) [], .val (.int .i64) []]
def wK:List nP:=[.val (.int .i64) [] []]
def qH:Entry:=⟨48,lG,wK,fun n (c:Cont (kin lG))=>qU n c.1 c.2.1⟩
def wZ:Hint:=⟨0,[],[(0,[0,1,5],[])],[],[(102,some 23,sw)],[],[],[],[]⟩
theorem CU:∀n (c:Cont (kin lG)),mg T wZ Tryz.f48 lG wK n c=qH.F n c:=by intro n c; kernel_rfl
theorem Db [Fr] (n:Nat):aj Tryz.prog n qH:=ak mixed aK Tryz.func48 (by kernel_rfl) (hi:=wZ) (aa (Eh n) aD) CU
def qW (n:Nat) (a0:JN) (a1:Int):Option (Int×Unit):=((qV n a0.1 a1).bind fun r1=>(if decide (r1.1<(0:Int))=true then some ((-1:Int),()) else ((qU n a0.2.1 r1.1).bind fun r2=>(if decide (r2.1<(0:Int))=true then some ((-1:Int),()) else some (r2.1,())))))
def p9:List dL:=[.val Pj [], .val (.int .i64) []]
def zX:List nP:=[.val (.int .i64) [] []]
def vL:Entry:=⟨13,p9,zX,fun n (c:Cont (kin p9))=>qW n c.1 c.2.1⟩
def Ao:Hint:=⟨0,[],[],[],[(8,some 8,vK),(48,some 14,qH)],[],[],[],[]⟩
theorem Gs:∀n (c:Cont (kin p9)),mg T Ao Tryz.f13 p9 zX n c=vL.F n c:=by intro n c; kernel_rfl
theorem GJ [Fr] (n:Nat):aj Tryz.prog n vL:=ak mixed aK Tryz.func13 (by kernel_rfl) (hi:=Ao) (aa (GI n) (aa (Db n) aD)) Gs
def kC (n:Nat) (a0:List Int):Option ((List Int)×Unit):=(if (a0.length:Int)=(a0.length:Int)∧0≤(a0.length:Int)∧(a0.length:Int) * 1≤140737488355328 then (rounds (fun L1 (v1:(List Int)×Int×(List Int)×Unit)=>(if decide (v1.2.1<(v1.1.length:Int))=true then (if aM v1.2.1 v1.1.length then (if aM v1.2.1 v1.2.2.1.length then L1 (v1.1,IntKind.i64.wrap (v1.2.1+(1:Int)),v1.2.2.1.set v1.2.1.toNat (v1.1.getD v1.2.1.toNat (0:Int)),()) else none) else none) else some (v1.2.2.1,()))) n (a0,(0:Int),List.replicate (a0.length:Int).toNat (0:Int),())) else none)
def qa:List dL:=[.val (.sl 5 (.int .u8)) []]
def zY:List nP:=[.own (.sl 5 (.int .u8)) [5] [] []]
def nJ:Entry:=⟨41,qa,zY,fun n (c:Cont (kin qa))=>kC n c.1⟩
def Ap:Hint:=⟨0,[],[(0,[0,3,4],[226])],[],[],[],[],[],[]⟩
theorem Gt:∀n (c:Cont (kin qa)),mg T Ap Tryz.f41 qa zY n c=nJ.F n c:=by intro n c; kernel_rfl
theorem vT [Fr] (n:Nat):aj Tryz.prog n nJ:=ak mixed aK Tryz.func41 (by kernel_rfl) (hi:=Ap) aD Gt
def kD (n:Nat) (a0:rV):Option (rV×Unit):=((kC n a0.2.2.2.1).bind fun r1=>some ((a0.1,a0.2.1,a0.2.2.1,r1.1,()),()))
def nC:List dL:=[.val yZ []]
def xA:List nP:=[.own yZ [5] [] []]
def sD:Entry:=⟨201,nC,xA,fun n (c:Cont (kin nC))=>kD n c.1⟩
def yj:Hint:=⟨0,[17],[],[],[(41,some 15,nJ)],[],[],[],[]⟩
theorem Ea:∀n (c:Cont (kin nC)),mg T yj Tryz.f201 nC xA n c=sD.F n c:=by intro n c; kernel_rfl
theorem Ei [Fr] (n:Nat):aj Tryz.prog n sD:=ak mixed aK Tryz.func201 (by kernel_rfl) (hi:=yj) (aa (vT n) aD) Ea
def mQ (n:Nat) (a0:List rV):Option ((List rV)×Unit):=(if (a0.length:Int)=(a0.length:Int)∧0≤(a0.length:Int)∧(a0.length:Int) * 48≤140737488355328 then (rounds (fun L1 (v1:(List rV)×Int×(List rV)×Unit)=>(if decide (v1.2.1<(v1.1.length:Int))=true then (if aM v1.2.1 v1.1.length then ((kD n (v1.1.getD v1.2.1.toNat oU)).bind fun r2=>(if aM v1.2.1 v1.2.2.1.length then L1 (v1.1,IntKind.i64.wrap (v1.2.1+(1:Int)),v1.2.2.1.set v1.2.1.toNat r2.1,()) else none)) else none) else some (v1.2.2.1,()))) n (a0,(0:Int),List.replicate (a0.length:Int).toNat oU,())) else none)
def lH:List dL:=[.val (.sl 227 yZ) []]
def wL:List nP:=[.own (.sl 117 yZ) [5,117] [] []]
def qI:Entry:=⟨173,lH,wL,fun n (c:Cont (kin lH))=>mQ n c.1⟩
def w9:Hint:=⟨0,[],[(0,[0,3,4],[226])],[],[(201,some 20,sD)],[],[],[],[]⟩
theorem CV:∀n (c:Cont (kin lH)),mg T w9 Tryz.f173 lH wL n c=qI.F n c:=by intro n c; kernel_rfl
theorem Dc [Fr] (n:Nat):aj Tryz.prog n qI:=ak mixed aK Tryz.func173 (by kernel_rfl) (hi:=w9) (aa (Ei n) aD) CV
def qX (n:Nat) (a0:dX):Option (dX×Unit):=((mQ n a0.2.2.2.1).bind fun r1=>some ((a0.1,a0.2.1,a0.2.2.1,r1.1,()),()))
def uf:List dL:=[.val GX []]
def Cb:List nP:=[.own nE [5,117] [] []]
def yT:Entry:=⟨132,uf,Cb,fun n (c:Cont (kin uf))=>qX n c.1⟩
def CZ:Hint:=⟨0,[17],[],[],[(173,some 15,qI)],[],[],[],[]⟩
theorem Lh:∀n (c:Cont (kin uf)),mg T CZ Tryz.f132 uf Cb n c=yT.F n c:=by intro n c; kernel_rfl
theorem Ll [Fr] (n:Nat):aj Tryz.prog n yT:=ak mixed aK Tryz.func132 (by kernel_rfl) (hi:=CZ) (aa (Dc n) aD) Lh
def tF (n:Nat) (a0:List dX):Option ((List dX)×Unit):=(if (a0.length:Int)=(a0.length:Int)∧0≤(a0.length:Int)∧(a0.length:Int) * 56≤140737488355328 then (rounds (fun L1 (v1:(List dX)×gB)=>(if decide (v1.2.1<(v1.1.length:Int))=true then (if aM v1.2.1 v1.1.length then ((qX n (v1.1.getD v1.2.1.toNat eX)).bind fun r2=>(if aM v1.2.1 v1.2.2.1.length then L1 (v1.1,IntKind.i64.wrap (v1.2.1+(1:Int)),v1.2.2.1.set v1.2.1.toNat r2.1,()) else none)) else none) else some (v1.2.2.1,()))) n (a0,(0:Int),List.replicate (a0.length:Int).toNat eX,())) else none)
def rP:List dL:=[.val (.sl 168 GX) []]
def Be:List nP:=[.own (.sl 114 nE) [5,114,117] [] []]
def xL:Entry:=⟨97,rP,Be,fun n (c:Cont (kin rP))=>tF n c.1⟩
def BP:Hint:=⟨0,[],[(0,[0,3,4],[226])],[],[(132,some 20,yT)],[],[],[],[]⟩
theorem JD:∀n (c:Cont (kin rP)),mg T BP Tryz.f97 rP Be n c=xL.F n c:=by intro n c; kernel_rfl
theorem JH [Fr] (n:Nat):aj Tryz.prog n xL:=ak mixed aK Tryz.func97 (by kernel_rfl) (hi:=BP) (aa (Ll n) aD) JD
def qZ (n:Nat) (a0:gB):Option (gB×Unit):=((tF n a0.2.1).bind fun r1=>some ((a0.1,r1.1,()),()))
def qb:List dL:=[.val Pf []]
def zZ:List nP:=[.own qj [5,114,117] [] []]
def vM:Entry:=⟨42,qb,zZ,fun n (c:Cont (kin qb))=>qZ n c.1⟩
def Aq:Hint:=⟨0,[11],[],[],[(97,some 9,xL)],[],[],[],[]⟩
theorem Gu:∀n (c:Cont (kin qb)),mg T Aq Tryz.f42 qb zZ n c=vM.F n c:=by intro n c; kernel_rfl
theorem GK [Fr] (n:Nat):aj Tryz.prog n vM:=ak mixed aK Tryz.func42 (by kernel_rfl) (hi:=Aq) (aa (JH n) aD) Gu
def q8 (n:Nat) (a0:JM):Option (JM×Unit):=((kC n a0.2.1).bind fun r1=>((kC n a0.2.2.1).bind fun r2=>((qZ n a0.2.2.2.1).bind fun r3=>some ((a0.1,r1.1,r2.1,r3.1,()),()))))
def qc:List dL:=[.val Ph []]
def z8:List nP:=[.own GZ [5,114,117] [] []]
def vN:Entry:=⟨10,qc,z8,fun n (c:Cont (kin qc))=>q8 n c.1⟩
def Ar:Hint:=⟨0,[19],[],[],[(41,some 9,nJ),(41,some 13,nJ),(42,some 17,vM)],[],[],[],[]⟩
theorem Gv:∀n (c:Cont (kin qc)),mg T Ar Tryz.f10 qc z8 n c=vN.F n c:=by intro n c; kernel_rfl
theorem GL [Fr] (n:Nat):aj Tryz.prog n vN:=ak mixed aK Tryz.func10 (by kernel_rfl) (hi:=Ar) (aa (vT n) (aa (vT n) (aa (GK n) aD))) Gv
def pJ (n:Nat) (a0:List Int):Option ((List Int)×Unit):=(if (a0.length:Int)=(a0.length:Int)∧0≤(a0.length:Int)∧(a0.length:Int) * 8≤140737488355328 then (rounds (fun L1 (v1:(List Int)×Int×(List Int)×Unit)=>(if decide (v1.2.1<(v1.1.length:Int))=true then (if aM v1.2.1 v1.1.length then (if aM v1.2.1 v1.2.2.1.length then L1 (v1.1,IntKind.i64.wrap (v1.2.1+(1:Int)),v1.2.2.1.set v1.2.1.toNat (v1.1.getD v1.2.1.toNat (0:Int)),()) else none) else none) else some (v1.2.2.1,()))) n (a0,(0:Int),List.replicate (a0.length:Int).toNat (0:Int),())) else none)
def oN:List dL:=[.val (.sl 2 (.int .i64)) []]
def yL:List nP:=[.own (.sl 2 (.int .i64)) [2] [] []]
def uG:Entry:=⟨140,oN,yL,fun n (c:Cont (kin oN))=>pJ n c.1⟩
def zJ:Hint:=⟨0,[],[(0,[0,3,4],[226])],[],[],[],[],[],[]⟩
theorem FH:∀n (c:Cont (kin oN)),mg T zJ Tryz.f140 oN yL n c=uG.F n c:=by intro n c; kernel_rfl
theorem FM [Fr] (n:Nat):aj Tryz.prog n uG:=ak mixed aK Tryz.func140 (by kernel_rfl) (hi:=zJ) aD FH
def oq (n:Nat) (a0:Ke):Option (Ke×Unit):=((pJ n a0.2.2.1).bind fun r1=>some ((a0.1,a0.2.1,r1.1,a0.2.2.2.1,()),()))
def nD:List dL:=[.val xY []]
def xB:List nP:=[.own xY [2] [] []]
def sF:Entry:=⟨104,nD,xB,fun n (c:Cont (kin nD))=>oq n c.1⟩
def yl:Hint:=⟨0,[17],[],[],[(140,some 12,uG)],[],[],[],[]⟩
theorem Eb:∀n (c:Cont (kin nD)),mg T yl Tryz.f104 nD xB n c=sF.F n c:=by intro n c; kernel_rfl
theorem Ej [Fr] (n:Nat):aj Tryz.prog n sF:=ak mixed aK Tryz.func104 (by kernel_rfl) (hi:=yl) (aa (FM n) aD) Eb
def qY (n:Nat) (a0:List Ke):Option ((List Ke)×Unit):=(if (a0.length:Int)=(a0.length:Int)∧0≤(a0.length:Int)∧(a0.length:Int) * 56≤140737488355328 then (rounds (fun L1 (v1:(List Ke)×Int×(List Ke)×Unit)=>(if decide (v1.2.1<(v1.1.length:Int))=true then (if aM v1.2.1 v1.1.length then ((oq n (v1.1.getD v1.2.1.toNat Lx)).bind fun r2=>(if aM v1.2.1 v1.2.2.1.length then L1 (v1.1,IntKind.i64.wrap (v1.2.1+(1:Int)),v1.2.2.1.set v1.2.1.toNat r2.1,()) else none)) else none) else some (v1.2.2.1,()))) n (a0,(0:Int),List.replicate (a0.length:Int).toNat Lx,())) else none)
def lI:List dL:=[.val (.sl 139 xY) []]
def wM:List nP:=[.own (.sl 91 xY) [2,91] [] []]
def qJ:Entry:=⟨50,lI,wM,fun n (c:Cont (kin lI))=>qY n c.1⟩
def xe:Hint:=⟨0,[],[(0,[0,3,4],[226])],[],[(104,some 20,sF)],[],[],[],[]⟩
theorem CW:∀n (c:Cont (kin lI)),mg T xe Tryz.f50 lI wM n c=qJ.F n c:=by intro n c; kernel_rfl
theorem De [Fr] (n:Nat):aj Tryz.prog n qJ:=ak mixed aK Tryz.func50 (by kernel_rfl) (hi:=xe) (aa (Ej n) aD) CW
def kE (n:Nat) (a0:JN):Option (JN×Unit):=((q8 n a0.1).bind fun r1=>((qY n a0.2.1).bind fun r2=>some ((r1.1,r2.1,()),())))
def qd:List dL:=[.val Pj []]
def Aa:List nP:=[.own Nb [2,5,91,114,117] [] []]
def nK:Entry:=⟨15,qd,Aa,fun n (c:Cont (kin qd))=>kE n c.1⟩
def Au:Hint:=⟨0,[12],[],[],[(10,some 6,vN),(50,some 10,qJ)],[],[],[],[]⟩
theorem Gw:∀n (c:Cont (kin qd)),mg T Au Tryz.f15 qd Aa n c=nK.F n c:=by intro n c; kernel_rfl
theorem vU [Fr] (n:Nat):aj Tryz.prog n nK:=ak mixed aK Tryz.func15 (by kernel_rfl) (hi:=Au) (aa (GL n) (aa (De n) aD)) Gw
def bL (n:Nat) (a0:Int) (a1:Int) (a2:Int):Option (Bool×Unit):=(if decide (a0≥a1)=true then some (decide (a0≤a2),()) else some (false,()))
def OU:Entry:=⟨78,[.val (.int .i64) [], .val (.int .i64) [], .val (.int .i64) []],[.val .bool [] []],fun n c=>bL n c.1 c.2.1 c.2.2.1⟩
def H_0:Hint:=⟨0,[],[],[],[],[],[],[],[]⟩
theorem D_0:gV T H_0 Tryz.f78 OU:=by intro n c; kernel_rfl
theorem QV [Fr] (n:Nat):aj Tryz.prog n OU:=ak mixed aK Tryz.func78 (by kernel_rfl) (hi:=H_0) aD D_0
def iR (n:Nat) (a0:List Int):Option (Bool×Unit):=(rounds (fun L1 (v1:Zt0)=>(if decide (v1.2.1<(v1.1.length:Int))=true then (if aM v1.2.1 v1.1.length then (if decide ((v1.1.getD v1.2.1.toNat 0)<(97:Int))=true then some (false,()) else (if aM v1.2.1 v1.1.length then (if decide ((v1.1.getD v1.2.1.toNat 0)>(122:Int))=true then some (false,()) else L1 (v1.1,IntKind.i64.wrap (v1.2.1+(1:Int)),())) else none)) else none) else ((bL n (v1.1.length:Int) (1:Int) (8:Int)).bind fun r2=>some (r2.1,())))) n (a0,(0:Int),()))
def E_1:Entry:=⟨139,[.val .str []],[.val .bool [] []],fun n c=>iR n c.1⟩
def H_1:Hint:=⟨0,[],[(0,[0,3],[])],[],[(78,some 22,OU)],[],[],[],[]⟩
theorem D_1:gV T H_1 Tryz.f139 E_1:=by intro n c; kernel_rfl
theorem K_1 [Fr] (n:Nat):aj Tryz.prog n E_1:=ak mixed aK Tryz.func139 (by kernel_rfl) (hi:=H_1) (aa (QV n) aD) D_1
def gJ (n:Nat) (a0:rV):Option (Int×Unit):=((bL n a0.1 (1:Int) (999:Int)).bind fun r1=>(if (!r1.1)=true then some ((3:Int),()) else ((bL n a0.2.1 (0:Int) (15:Int)).bind fun r2=>(if (!r2.1)=true then some ((3:Int),()) else ((bL n a0.2.2.1 (0:Int) (9999:Int)).bind fun r3=>(if (!r3.1)=true then some ((3:Int),()) else (if decide ((a0.2.2.2.1.length:Int)>(400:Int))=true then some ((2:Int),()) else some ((0:Int),()))))))))
def E_2:Entry:=⟨171,[.ro yZ],[.val (.int .i64) [] []],fun n c=>gJ n c.1⟩
def H_2:Hint:=⟨0,[],[],[],[(78,some 7,OU),(78,some 14,OU),(78,some 22,OU)],[],[],[],[]⟩
theorem D_2:gV T H_2 Tryz.f171 E_2:=by intro n c; kernel_rfl
theorem K_2 [Fr] (n:Nat):aj Tryz.prog n E_2:=ak mixed aK Tryz.func171 (by kernel_rfl) (hi:=H_2) (aa (QV n) (aa (QV n) (aa (QV n) aD))) D_2
def kX (n:Nat) (a0:dX):Option (Int×Unit):=((iR n a0.1).bind fun r1=>(if (!r1.1)=true then some ((5:Int),()) else ((bL n a0.2.1 (1:Int) (999:Int)).bind fun r2=>(if (!r2.1)=true then some ((3:Int),()) else ((bL n a0.2.2.1 (1:Int) (1000:Int)).bind fun r3=>(if (!r3.1)=true then some ((3:Int),()) else (if decide ((a0.2.2.2.1.length:Int)>(6:Int))=true then some ((2:Int),()) else (rounds (fun L4 (v4:dX×Int×Unit)=>(if decide (v4.2.1<(v4.1.2.2.2.1.length:Int))=true then (if aM v4.2.1 v4.1.2.2.2.1.length then ((gJ n (v4.1.2.2.2.1.getD v4.2.1.toNat oU)).bind fun r5=>(if (!decide (r5.1=(0:Int)))=true then some (r5.1,()) else (if decide (v4.2.1>(0:Int))=true then (if aM v4.2.1 v4.1.2.2.2.1.length then (if aM (IntKind.i64.wrap (v4.2.1 - (1:Int))) v4.1.2.2.2.1.length then (if decide (((v4.1.2.2.2.1.getD v4.2.1.toNat oU).1)≤((v4.1.2.2.2.1.getD (IntKind.i64.wrap (v4.2.1 - (1:Int))).toNat oU).1))=true then some ((1:Int),()) else (if aM v4.2.1 v4.1.2.2.2.1.length then (if decide (((v4.1.2.2.2.1.getD v4.2.1.toNat oU).1)≥v4.1.2.2.1)=true then some ((1:Int),()) else L4 (v4.1,IntKind.i64.wrap (v4.2.1+(1:Int)),())) else none)) else none) else none) else (if aM v4.2.1 v4.1.2.2.2.1.length then (if decide (((v4.1.2.2.2.1.getD v4.2.1.toNat oU).1)≥v4.1.2.2.1)=true then some ((1:Int),()) else L4 (v4.1,IntKind.i64.wrap (v4.2.1+(1:Int)),())) else none)))) else none) else some ((0:Int),()))) n (a0,(0:Int),())))))))))
def E_3:Entry:=⟨130,[.ro nE],[.val (.int .i64) [] []],fun n c=>kX n c.1⟩
def H_3:Hint:=⟨0,[],[(0,[0,3],[])],[],[(139,some 9,E_1),(78,some 15,OU),(78,some 22,OU),(171,some 46,E_2)],[],[],[],[]⟩
theorem D_3:gV T H_3 Tryz.f130 E_3:=by intro n c; kernel_rfl
theorem K_3 [Fr] (n:Nat):aj Tryz.prog n E_3:=ak mixed aK Tryz.func130 (by kernel_rfl) (hi:=H_3) (aa (K_1 n) (aa (QV n) (aa (QV n) (aa (K_2 n) aD)))) D_3
def jf (n:Nat) (a0:gB):Option (Int×Unit):=((bL n a0.1 (1:Int) (1000:Int)).bind fun r1=>(if (!r1.1)=true then some ((3:Int),()) else (if decide ((a0.2.1.length:Int)>(3:Int))=true then some ((2:Int),()) else (rounds (fun L2 (v2:gB×Int×Unit)=>(if decide (v2.2.1<(v2.1.2.1.length:Int))=true then (if aM v2.2.1 v2.1.2.1.length then ((kX n (v2.1.2.1.getD v2.2.1.toNat eX)).bind fun r3=>(if (!decide (r3.1=(0:Int)))=true then some (r3.1,()) else (if aM v2.2.1 v2.1.2.1.length then (if decide ((((v2.1.2.1.getD v2.2.1.toNat eX).2).1)≥v2.1.1)=true then some ((9:Int),()) else (rounds (fun L4 (v4:gB×Int×Int×Unit)=>(if decide (v4.2.2.1<v4.2.1)=true then (if aM v4.2.2.1 v4.1.2.1.length then (if aM v4.2.1 v4.1.2.1.length then (if decide (((v4.1.2.1.getD v4.2.2.1.toNat eX).1)=((v4.1.2.1.getD v4.2.1.toNat eX).1))=true then some ((6:Int),()) else (if aM v4.2.2.1 v4.1.2.1.length then (if aM v4.2.1 v4.1.2.1.length then (if decide ((((v4.1.2.1.getD v4.2.2.1.toNat eX).2).1)=(((v4.1.2.1.getD v4.2.1.toNat eX).2).1))=true then some ((6:Int),()) else L4 (v4.1,v4.2.1,IntKind.i64.wrap (v4.2.2.1+(1:Int)),())) else none) else none)) else none) else none) else L2 (v4.1,IntKind.i64.wrap (v4.2.1+(1:Int)),()))) n (v2.1,v2.2.1,(0:Int),()))) else none))) else none) else some ((0:Int),()))) n (a0,(0:Int),())))))
def E_4:Entry:=⟨95,[.ro qj],[.val (.int .i64) [] []],fun n c=>jf n c.1⟩
def H_4:Hint:=⟨0,[],[(0,[0,3],[]),(2,[0,3,5],[])],[],[(78,some 10,OU),(130,some 33,E_3)],[],[],[],[]⟩
theorem D_4:gV T H_4 Tryz.f95 E_4:=by intro n c; kernel_rfl
theorem K_4 [Fr] (n:Nat):aj Tryz.prog n E_4:=ak mixed aK Tryz.func95 (by kernel_rfl) (hi:=H_4) (aa (QV n) (aa (K_3 n) aD)) D_4
def dh (n:Nat) (a0:Zh):Option (Int×Zh×Unit):=(if decide (a0.2.1≥(a0.1.length:Int))=true then some ((0:Int),(a0.1,a0.2.1,true,a0.2.2.2),()) else (if aM (IntKind.i64.wrap ((IntKind.i64.wrap (a0.2.1+(1:Int))) - (1:Int))) a0.1.length then some (IntKind.i64.wrap (a0.1.getD (IntKind.i64.wrap ((IntKind.i64.wrap (a0.2.1+(1:Int))) - (1:Int))).toNat (0:Int)),(a0.1,IntKind.i64.wrap (a0.2.1+(1:Int)),a0.2.2),()) else none))
def UA:Entry:=⟨175,[.rw Sg [] [4294967295] []],[.val (.int .i64) [] []],fun n c=>dh n c.1⟩
def H_5:Hint:=⟨0,[],[],[],[],[],[],[],[]⟩
theorem D_5:gV T H_5 Tryz.f175 UA:=by intro n c; kernel_rfl
theorem XX [Fr] (n:Nat):aj Tryz.prog n UA:=ak mixed aK Tryz.func175 (by kernel_rfl) (hi:=H_5) aD D_5
def gW (n:Nat) (a0:Zh) (a1:Int):Option ((List Int)×Zh×Unit):=(rounds (fun L1 (v1:Int×Zh×(List Int)×Unit)=>(if decide (v1.1>(0:Int))=true then (if (!v1.2.1.2.2.1)=true then ((dh n v1.2.1).bind fun r2=>(if (v1.2.2.1.length+[IntKind.u8.wrap r2.1].length) * 1≤140737488355328 then L1 (IntKind.i64.wrap (v1.1 - (1:Int)),r2.2.1,v1.2.2.1++[IntKind.u8.wrap r2.1],()) else none)) else some (v1.2.2.1,v1.2.1,())) else some (v1.2.2.1,v1.2.1,()))) n (a1,a0,([]:List Int),()))
def E_6:Entry:=⟨176,[.rw Sg [] [4294967295] [], .val (.int .i64) []],[.own (.sl 5 (.int .u8)) [5] [] []],fun n c=>gW n c.1 c.2.1⟩
def H_6:Hint:=⟨0,[],[(0,[0,1,5],[0,194])],[],[(175,some 20,UA)],[],[],[],[]⟩
theorem D_6:gV T H_6 Tryz.f176 E_6:=by intro n c; kernel_rfl
theorem K_6 [Fr] (n:Nat):aj Tryz.prog n E_6:=ak mixed aK Tryz.func176 (by kernel_rfl) (hi:=H_6) (aa (XX n) aD) D_6
def fM (n:Nat) (a0:Zh):Option (Int×Zh×Unit):=((dh n a0).bind fun r1=>((dh n r1.2.1).bind fun r2=>some (IntKind.i64.wrap ((IntKind.i64.wrap (r1.1 * (256:Int)))+r2.1),r2.2.1,())))
def E_7:Entry:=⟨177,[.rw Sg [] [4294967295] []],[.val (.int .i64) [] []],fun n c=>fM n c.1⟩
def H_7:Hint:=⟨0,[],[],[],[(175,some 5,UA),(175,some 9,UA)],[],[],[],[]⟩
theorem D_7:gV T H_7 Tryz.f177 E_7:=by intro n c; kernel_rfl
theorem K_7 [Fr] (n:Nat):aj Tryz.prog n E_7:=ak mixed aK Tryz.func177 (by kernel_rfl) (hi:=H_7) (aa (XX n) (aa (XX n) aD)) D_7
def tT (n:Nat) (a0:List Int):Option (gX×Unit):=((dh n (a0,(2:Int),false,())).bind fun r1=>((dh n r1.2.1).bind fun r2=>((gW n r2.2.1 r2.1).bind fun r3=>((dh n r3.2.1).bind fun r4=>((gW n r4.2.1 r4.1).bind fun r5=>((dh n r5.2.1).bind fun r6=>(rounds (fun L7 (v7:Int×gX×Zh×gX×Unit)=>(if decide (v7.1>(0:Int))=true then (if (!v7.2.2.1.2.2.1)=true then ((fM n v7.2.2.1).bind fun r8=>(if (v7.2.2.2.1.2.2.2.1.length+[r8.1].length) * 8≤140737488355328 then L7 (IntKind.i64.wrap (v7.1 - (1:Int)),v7.2.1,r8.2.1,(v7.2.2.2.1.1,v7.2.2.2.1.2.1,v7.2.2.2.1.2.2.1,v7.2.2.2.1.2.2.2.1++[r8.1],v7.2.2.2.1.2.2.2.2),()) else none)) else ((dh n v7.2.2.1).bind fun r9=>((dh n r9.2.1).bind fun Oz=>((fM n Oz.2.1).bind fun MB=>((fM n MB.2.1).bind fun KS=>((gW n KS.2.1 KS.1).bind fun OY=>some ((v7.2.2.2.1.1,v7.2.2.2.1.2.1,v7.2.2.2.1.2.2.1,v7.2.2.2.1.2.2.2.1,r9.1,Oz.1,MB.1,OY.1,v7.2.2.2.1.2.2.2.2.2.2.2.2),()))))))) else ((dh n v7.2.2.1).bind fun YS=>((dh n YS.2.1).bind fun Uo=>((fM n Uo.2.1).bind fun r16=>((fM n r16.2.1).bind fun r17=>((gW n r17.2.1 r17.1).bind fun r18=>some ((v7.2.2.2.1.1,v7.2.2.2.1.2.1,v7.2.2.2.1.2.2.1,v7.2.2.2.1.2.2.2.1,YS.1,Uo.1,r16.1,r18.1,v7.2.2.2.1.2.2.2.2.2.2.2.2),())))))))) n (r6.1,Di,r6.2.1,(r1.1,r3.1,r5.1,([]:List Int),(0:Int),(0:Int),(0:Int),([]:List Int),()),()))))))))
def E_8:Entry:=⟨141,[.val (.sl 5 (.int .u8)) []],[.own jy [2,5] [] []],fun n c=>tT n c.1⟩
def H_8:Hint:=⟨0,[30,45],[(0,[2,3,4,5],[66,98,130])],[],[(175,some 9,UA),(175,some 11,UA),(176,some 12,E_6),(175,some 15,UA),(176,some 16,E_6),(175,some 19,UA),(177,some 31,E_7),(175,some 35,UA),(175,some 37,UA),(177,some 39,E_7),(177,some 41,E_7),(176,some 43,E_6)],[],[],[],[]⟩
theorem D_8:gV T H_8 Tryz.f141 E_8:=by intro n c; kernel_rfl
theorem K_8 [Fr] (n:Nat):aj Tryz.prog n E_8:=ak mixed aK Tryz.func141 (by kernel_rfl) (hi:=H_8) (aa (XX n) (aa (XX n) (aa (K_6 n) (aa (XX n) (aa (K_6 n) (aa (XX n) (aa (K_7 n) (aa (XX n) (aa (XX n) (aa (K_7 n) (aa (K_7 n) (aa (K_6 n) aD)))))))))))) D_8
def iw (n:Nat) (a0:Int):Option (Bool×Unit):=(if decide (a0=(5:Int))=true then some (true,()) else some (decide (a0=(6:Int)),()))
def E_9:Entry:=⟨167,[.val (.int .i64) []],[.val .bool [] []],fun n c=>iw n c.1⟩
def H_9:Hint:=⟨0,[],[],[],[],[],[],[],[]⟩
theorem D_9:gV T H_9 Tryz.f167 E_9:=by intro n c; kernel_rfl
theorem K_9 [Fr] (n:Nat):aj Tryz.prog n E_9:=ak mixed aK Tryz.func167 (by kernel_rfl) (hi:=H_9) aD D_9
def tN (n:Nat) (a0:gX):Option (Bool×Unit):=((bL n a0.1 (1:Int) (7:Int)).bind fun r1=>(if (!r1.1)=true then some (false,()) else ((iw n a0.1).bind fun r2=>(if (!r2.1)=true then (if (!decide (a0.2.2.1=([]:List Int)))=true then some (false,()) else ((iw n a0.1).bind fun r3=>(if (!r3.1)=true then (if (!decide (a0.1=(4:Int)))=true then (if decide ((a0.2.2.2.1.length:Int)>(0:Int))=true then some (false,()) else (if (!decide (a0.1=(4:Int)))=true then (if (!decide (a0.2.2.2.2.1=(0:Int)))=true then some (false,()) else (if (!decide (a0.1=(3:Int)))=true then (if (!decide (a0.2.2.2.2.2.2.1=(0:Int)))=true then some (false,()) else (if decide ((a0.2.2.2.2.2.2.2.1.length:Int)>(0:Int))=true then some (false,()) else (if decide (a0.1=(3:Int))=true then some (true,()) else (if decide (a0.1=(4:Int))=true then some (true,()) else some (decide (a0.2.2.2.2.2.1=(0:Int)),()))))) else (if decide (a0.1=(3:Int))=true then some (true,()) else (if decide (a0.1=(4:Int))=true then some (true,()) else some (decide (a0.2.2.2.2.2.1=(0:Int)),()))))) else (if (!decide (a0.1=(3:Int)))=true then (if (!decide (a0.2.2.2.2.2.2.1=(0:Int)))=true then some (false,()) else (if decide ((a0.2.2.2.2.2.2.2.1.length:Int)>(0:Int))=true then some (false,()) else (if decide (a0.1=(3:Int))=true then some (true,()) else (if decide (a0.1=(4:Int))=true then some (true,()) else some (decide (a0.2.2.2.2.2.1=(0:Int)),()))))) else (if decide (a0.1=(3:Int))=true then some (true,()) else (if decide (a0.1=(4:Int))=true then some (true,()) else some (decide (a0.2.2.2.2.2.1=(0:Int)),())))))) else (if (!decide (a0.1=(4:Int)))=true then (if (!decide (a0.2.2.2.2.1=(0:Int)))=true then some (false,()) else (if (!decide (a0.1=(3:Int)))=true then (if (!decide (a0.2.2.2.2.2.2.1=(0:Int)))=true then some (false,()) else (if decide ((a0.2.2.2.2.2.2.2.1.length:Int)>(0:Int))=true then some (false,()) else (if decide (a0.1=(3:Int))=true then some (true,()) else (if decide (a0.1=(4:Int))=true then some (true,()) else some (decide (a0.2.2.2.2.2.1=(0:Int)),()))))) else (if decide (a0.1=(3:Int))=true then some (true,()) else (if decide (a0.1=(4:Int))=true then some (true,()) else some (decide (a0.2.2.2.2.2.1=(0:Int)),()))))) else (if (!decide (a0.1=(3:Int)))=true then (if (!decide (a0.2.2.2.2.2.2.1=(0:Int)))=true then some (false,()) else (if decide ((a0.2.2.2.2.2.2.2.1.length:Int)>(0:Int))=true then some (false,()) else (if decide (a0.1=(3:Int))=true then some (true,()) else (if decide (a0.1=(4:Int))=true then some (true,()) else some (decide (a0.2.2.2.2.2.1=(0:Int)),()))))) else (if decide (a0.1=(3:Int))=true then some (true,()) else (if decide (a0.1=(4:Int))=true then some (true,()) else some (decide (a0.2.2.2.2.2.1=(0:Int)),())))))) else (if (!decide (a0.1=(4:Int)))=true then (if (!decide (a0.2.2.2.2.1=(0:Int)))=true then some (false,()) else (if (!decide (a0.1=(3:Int)))=true then (if (!decide (a0.2.2.2.2.2.2.1=(0:Int)))=true then some (false,()) else (if decide ((a0.2.2.2.2.2.2.2.1.length:Int)>(0:Int))=true then some (false,()) else (if decide (a0.1=(3:Int))=true then some (true,()) else (if decide (a0.1=(4:Int))=true then some (true,()) else some (decide (a0.2.2.2.2.2.1=(0:Int)),()))))) else (if decide (a0.1=(3:Int))=true then some (true,()) else (if decide (a0.1=(4:Int))=true then some (true,()) else some (decide (a0.2.2.2.2.2.1=(0:Int)),()))))) else (if (!decide (a0.1=(3:Int)))=true then (if (!decide (a0.2.2.2.2.2.2.1=(0:Int)))=true then some (false,()) else (if decide ((a0.2.2.2.2.2.2.2.1.length:Int)>(0:Int))=true then some (false,()) else (if decide (a0.1=(3:Int))=true then some (true,()) else (if decide (a0.1=(4:Int))=true then some (true,()) else some (decide (a0.2.2.2.2.2.1=(0:Int)),()))))) else (if decide (a0.1=(3:Int))=true then some (true,()) else (if decide (a0.1=(4:Int))=true then some (true,()) else some (decide (a0.2.2.2.2.2.1=(0:Int)),())))))))) else ((iw n a0.1).bind fun r4=>(if (!r4.1)=true then (if (!decide (a0.1=(4:Int)))=true then (if decide ((a0.2.2.2.1.length:Int)>(0:Int))=true then some (false,()) else (if (!decide (a0.1=(4:Int)))=true then (if (!decide (a0.2.2.2.2.1=(0:Int)))=true then some (false,()) else (if (!decide (a0.1=(3:Int)))=true then (if (!decide (a0.2.2.2.2.2.2.1=(0:Int)))=true then some (false,()) else (if decide ((a0.2.2.2.2.2.2.2.1.length:Int)>(0:Int))=true then some (false,()) else (if decide (a0.1=(3:Int))=true then some (true,()) else (if decide (a0.1=(4:Int))=true then some (true,()) else some (decide (a0.2.2.2.2.2.1=(0:Int)),()))))) else (if decide (a0.1=(3:Int))=true then some (true,()) else (if decide (a0.1=(4:Int))=true then some (true,()) else some (decide (a0.2.2.2.2.2.1=(0:Int)),()))))) else (if (!decide (a0.1=(3:Int)))=true then (if (!decide (a0.2.2.2.2.2.2.1=(0:Int)))=true then some (false,()) else (if decide ((a0.2.2.2.2.2.2.2.1.length:Int)>(0:Int))=true then some (false,()) else (if decide (a0.1=(3:Int))=true then some (true,()) else (if decide (a0.1=(4:Int))=true then some (true,()) else some (decide (a0.2.2.2.2.2.1=(0:Int)),()))))) else (if decide (a0.1=(3:Int))=true then some (true,()) else (if decide (a0.1=(4:Int))=true then some (true,()) else some (decide (a0.2.2.2.2.2.1=(0:Int)),())))))) else (if (!decide (a0.1=(4:Int)))=true then (if (!decide (a0.2.2.2.2.1=(0:Int)))=true then some (false,()) else (if (!decide (a0.1=(3:Int)))=true then (if (!decide (a0.2.2.2.2.2.2.1=(0:Int)))=true then some (false,()) else (if decide ((a0.2.2.2.2.2.2.2.1.length:Int)>(0:Int))=true then some (false,()) else (if decide (a0.1=(3:Int))=true then some (true,()) else (if decide (a0.1=(4:Int))=true then some (true,()) else some (decide (a0.2.2.2.2.2.1=(0:Int)),()))))) else (if decide (a0.1=(3:Int))=true then some (true,()) else (if decide (a0.1=(4:Int))=true then some (true,()) else some (decide (a0.2.2.2.2.2.1=(0:Int)),()))))) else (if (!decide (a0.1=(3:Int)))=true then (if (!decide (a0.2.2.2.2.2.2.1=(0:Int)))=true then some (false,()) else (if decide ((a0.2.2.2.2.2.2.2.1.length:Int)>(0:Int))=true then some (false,()) else (if decide (a0.1=(3:Int))=true then some (true,()) else (if decide (a0.1=(4:Int))=true then some (true,()) else some (decide (a0.2.2.2.2.2.1=(0:Int)),()))))) else (if decide (a0.1=(3:Int))=true then some (true,()) else (if decide (a0.1=(4:Int))=true then some (true,()) else some (decide (a0.2.2.2.2.2.1=(0:Int)),())))))) else (if (!decide (a0.1=(4:Int)))=true then (if (!decide (a0.2.2.2.2.1=(0:Int)))=true then some (false,()) else (if (!decide (a0.1=(3:Int)))=true then (if (!decide (a0.2.2.2.2.2.2.1=(0:Int)))=true then some (false,()) else (if decide ((a0.2.2.2.2.2.2.2.1.length:Int)>(0:Int))=true then some (false,()) else (if decide (a0.1=(3:Int))=true then some (true,()) else (if decide (a0.1=(4:Int))=true then some (true,()) else some (decide (a0.2.2.2.2.2.1=(0:Int)),()))))) else (if decide (a0.1=(3:Int))=true then some (true,()) else (if decide (a0.1=(4:Int))=true then some (true,()) else some (decide (a0.2.2.2.2.2.1=(0:Int)),()))))) else (if (!decide (a0.1=(3:Int)))=true then (if (!decide (a0.2.2.2.2.2.2.1=(0:Int)))=true then some (false,()) else (if decide ((a0.2.2.2.2.2.2.2.1.length:Int)>(0:Int))=true then some (false,()) else (if decide (a0.1=(3:Int))=true then some (true,()) else (if decide (a0.1=(4:Int))=true then some (true,()) else some (decide (a0.2.2.2.2.2.1=(0:Int)),()))))) else (if decide (a0.1=(3:Int))=true then some (true,()) else (if decide (a0.1=(4:Int))=true then some (true,()) else some (decide (a0.2.2.2.2.2.1=(0:Int)),())))))))))))
def Z6:Entry:=⟨178,[.ro jy],[.val .bool [] []],fun n c=>tN n c.1⟩
def acR:Hint:=⟨0,[],[],[],[(78,some 7,OU),(167,some 14,E_9),(167,some 28,E_9)],[],[],[],[]⟩
theorem agq:gV T acR Tryz.f178 Z6:=by intro n c; kernel_rfl
theorem ahU [Fr] (n:Nat):aj Tryz.prog n Z6:=ak mixed aK Tryz.func178 (by kernel_rfl) (hi:=acR) (aa (QV n) (aa (K_9 n) (aa (K_9 n) aD))) agq
def mF (n:Nat) (a0:List Int):Option (Bool×Unit):=(rounds (fun L1 (v1:Zt0)=>(if decide (v1.2.1<(v1.1.length:Int))=true then (if aM v1.2.1 v1.1.length then ((bL n (v1.1.getD v1.2.1.toNat (0:Int)) (1:Int) (999:Int)).bind fun r2=>(if (!r2.1)=true then some (false,()) else (if decide (v1.2.1>(0:Int))=true then (if aM v1.2.1 v1.1.length then (if aM (IntKind.i64.wrap (v1.2.1 - (1:Int))) v1.1.length then (if decide ((v1.1.getD v1.2.1.toNat (0:Int))≤(v1.1.getD (IntKind.i64.wrap (v1.2.1 - (1:Int))).toNat (0:Int)))=true then some (false,()) else L1 (v1.1,IntKind.i64.wrap (v1.2.1+(1:Int)),())) else none) else none) else L1 (v1.1,IntKind.i64.wrap (v1.2.1+(1:Int)),())))) else none) else some (true,()))) n (a0,(0:Int),()))
def XF:Entry:=⟨138,[.val (.sl 2 (.int .i64)) []],[.val .bool [] []],fun n c=>mF n c.1⟩
def acS:Hint:=⟨0,[],[(0,[0,3],[])],[],[(78,some 14,OU)],[],[],[],[]⟩
theorem agr:gV T acS Tryz.f138 XF:=by intro n c; kernel_rfl
theorem aep [Fr] (n:Nat):aj Tryz.prog n XF:=ak mixed aK Tryz.func138 (by kernel_rfl) (hi:=acS) (aa (QV n) aD) agr
def nO (n:Nat) (a0:gX):Option (Int×Unit):=((tN n a0).bind fun r1=>(if (!r1.1)=true then some ((1:Int),()) else ((iR n a0.2.1).bind fun r2=>(if (!r2.1)=true then some ((5:Int),()) else ((iw n a0.1).bind fun r3=>(if r3.1=true then ((iR n a0.2.2.1).bind fun r4=>(if (!r4.1)=true then some ((5:Int),()) else (if decide ((a0.2.2.2.1.length:Int)>(6:Int))=true then some ((2:Int),()) else ((mF n a0.2.2.2.1).bind fun r5=>(if (!r5.1)=true then some ((3:Int),()) else (if decide (a0.1=(4:Int))=true then ((bL n a0.2.2.2.2.1 (1:Int) (3:Int)).bind fun r6=>(if (!r6.1)=true then some ((3:Int),()) else ((bL n a0.2.2.2.2.2.1 (0:Int) (15:Int)).bind fun r7=>(if (!r7.1)=true then some ((3:Int),()) else ((bL n a0.2.2.2.2.2.2.1 (0:Int) (9999:Int)).bind fun r8=>(if (!r8.1)=true then some ((3:Int),()) else (if decide ((a0.2.2.2.2.2.2.2.1.length:Int)>(400:Int))=true then some ((2:Int),()) else some ((0:Int),())))))))) else ((bL n a0.2.2.2.2.2.1 (0:Int) (15:Int)).bind fun r9=>(if (!r9.1)=true then some ((3:Int),()) else ((bL n a0.2.2.2.2.2.2.1 (0:Int) (9999:Int)).bind fun Oz=>(if (!Oz.1)=true then some ((3:Int),()) else (if decide ((a0.2.2.2.2.2.2.2.1.length:Int)>(400:Int))=true then some ((2:Int),()) else some ((0:Int),())))))))))))) else (if decide ((a0.2.2.2.1.length:Int)>(6:Int))=true then some ((2:Int),()) else ((mF n a0.2.2.2.1).bind fun MB=>(if (!MB.1)=true then some ((3:Int),()) else (if decide (a0.1=(4:Int))=true then ((bL n a0.2.2.2.2.1 (1:Int) (3:Int)).bind fun KS=>(if (!KS.1)=true then some ((3:Int),()) else ((bL n a0.2.2.2.2.2.1 (0:Int) (15:Int)).bind fun OY=>(if (!OY.1)=true then some ((3:Int),()) else ((bL n a0.2.2.2.2.2.2.1 (0:Int) (9999:Int)).bind fun YS=>(if (!YS.1)=true then some ((3:Int),()) else (if decide ((a0.2.2.2.2.2.2.2.1.length:Int)>(400:Int))=true then some ((2:Int),()) else some ((0:Int),())))))))) else ((bL n a0.2.2.2.2.2.1 (0:Int) (15:Int)).bind fun Uo=>(if (!Uo.1)=true then some ((3:Int),()) else ((bL n a0.2.2.2.2.2.2.1 (0:Int) (9999:Int)).bind fun r16=>(if (!r16.1)=true then some ((3:Int),()) else (if decide ((a0.2.2.2.2.2.2.2.1.length:Int)>(400:Int))=true then some ((2:Int),()) else some ((0:Int),()))))))))))))))))
def XG:Entry:=⟨142,[.ro jy],[.val (.int .i64) [] []],fun n c=>nO n c.1⟩
def acT:Hint:=⟨0,[],[],[],[(178,some 4,Z6),(139,some 10,E_1),(167,some 17,E_9),(139,some 23,E_1),(138,some 37,XF),(78,some 50,OU),(78,some 59,OU),(78,some 67,OU)],[],[],[],[]⟩
theorem ags:gV T acT Tryz.f142 XG:=by intro n c; kernel_rfl
theorem aer [Fr] (n:Nat):aj Tryz.prog n XG:=ak mixed aK Tryz.func142 (by kernel_rfl) (hi:=acT) (aa (ahU n) (aa (K_1 n) (aa (K_9 n) (aa (K_1 n) (aa (aep n) (aa (QV n) (aa (QV n) (aa (QV n) aD)))))))) ags
def lq (n:Nat) (a0:Int):Option ((List Int)×Unit):=(if (256:Int)≠0 then (if (256:Int)≠0 then some ([IntKind.u8.wrap (IntKind.i64.wrap (a0.tdiv (256:Int))),IntKind.u8.wrap (a0.tmod (256:Int))],()) else none) else none)
def OZ:Entry:=⟨124,[.val (.int .i64) []],[.own (.sl 5 (.int .u8)) [5] [] []],fun n c=>lq n c.1⟩
def acU:Hint:=⟨0,[],[],[],[],[],[],[],[]⟩
theorem agt:gV T acU Tryz.f124 OZ:=by intro n c; kernel_rfl
theorem UN [Fr] (n:Nat):aj Tryz.prog n OZ:=ak mixed aK Tryz.func124 (by kernel_rfl) (hi:=acU) aD agt
def uU (n:Nat) (a0:List Int):Option (Int×Unit):=(rounds (fun L1 (v1:(List Int)×Int×Int×Unit)=>(if decide (v1.2.2.1<(v1.1.length:Int))=true then (if aM v1.2.2.1 v1.1.length then (if (65521:Int)≠0 then L1 (v1.1,(IntKind.i64.wrap ((IntKind.i64.wrap (v1.2.1 * (31:Int)))+(IntKind.i64.wrap (v1.1.getD v1.2.2.1.toNat (0:Int))))).tmod (65521:Int),IntKind.i64.wrap (v1.2.2.1+(1:Int)),()) else none) else none) else some (v1.2.1,()))) n (a0,(1:Int),(0:Int),()))
def Z7:Entry:=⟨125,[.val (.sl 5 (.int .u8)) []],[.val (.int .i64) [] []],fun n c=>uU n c.1⟩
def acV:Hint:=⟨0,[],[(0,[0,3,4],[])],[],[],[],[],[],[]⟩
theorem agu:gV T acV Tryz.f125 Z7:=by intro n c; kernel_rfl
theorem ahV [Fr] (n:Nat):aj Tryz.prog n Z7:=ak mixed aK Tryz.func125 (by kernel_rfl) (hi:=acV) aD agu
def tQ (n:Nat) (a0:gX):Option ((List Int)×Unit):=(if ([(0:Int),(0:Int),IntKind.u8.wrap a0.1,IntKind.u8.wrap (a0.2.1.length:Int)].length+a0.2.1.length) * 1≤140737488355328 then (if (([(0:Int),(0:Int),IntKind.u8.wrap a0.1,IntKind.u8.wrap (a0.2.1.length:Int)]++a0.2.1).length+[IntKind.u8.wrap (a0.2.2.1.length:Int)].length) * 1≤140737488355328 then (if ((([(0:Int),(0:Int),IntKind.u8.wrap a0.1,IntKind.u8.wrap (a0.2.1.length:Int)]++a0.2.1)++[IntKind.u8.wrap (a0.2.2.1.length:Int)]).length+a0.2.2.1.length) * 1≤140737488355328 then (if (((([(0:Int),(0:Int),IntKind.u8.wrap a0.1,IntKind.u8.wrap (a0.2.1.length:Int)]++a0.2.1)++[IntKind.u8.wrap (a0.2.2.1.length:Int)])++a0.2.2.1).length+[IntKind.u8.wrap (a0.2.2.2.1.length:Int)].length) * 1≤140737488355328 then (rounds (fun L1 (v1:gX×Int×(List Int)×Unit)=>(if decide (v1.2.1<(v1.1.2.2.2.1.length:Int))=true then (if aM v1.2.1 v1.1.2.2.2.1.length then ((lq n (v1.1.2.2.2.1.getD v1.2.1.toNat (0:Int))).bind fun r2=>(if (v1.2.2.1.length+r2.1.length) * 1≤140737488355328 then L1 (v1.1,IntKind.i64.wrap (v1.2.1+(1:Int)),v1.2.2.1++r2.1,()) else none)) else none) else (if (v1.2.2.1.length+[IntKind.u8.wrap v1.1.2.2.2.2.1,IntKind.u8.wrap v1.1.2.2.2.2.2.1].length) * 1≤140737488355328 then ((lq n v1.1.2.2.2.2.2.2.1).bind fun r3=>(if ((v1.2.2.1++[IntKind.u8.wrap v1.1.2.2.2.2.1,IntKind.u8.wrap v1.1.2.2.2.2.2.1]).length+r3.1.length) * 1≤140737488355328 then ((lq n (v1.1.2.2.2.2.2.2.2.1.length:Int)).bind fun r4=>(if (((v1.2.2.1++[IntKind.u8.wrap v1.1.2.2.2.2.1,IntKind.u8.wrap v1.1.2.2.2.2.2.1])++r3.1).length+r4.1.length) * 1≤140737488355328 then (if ((((v1.2.2.1++[IntKind.u8.wrap v1.1.2.2.2.2.1,IntKind.u8.wrap v1.1.2.2.2.2.2.1])++r3.1)++r4.1).length+v1.1.2.2.2.2.2.2.2.1.length) * 1≤140737488355328 then ((lq n (IntKind.i64.wrap ((((((v1.2.2.1++[IntKind.u8.wrap v1.1.2.2.2.2.1,IntKind.u8.wrap v1.1.2.2.2.2.2.1])++r3.1)++r4.1)++v1.1.2.2.2.2.2.2.2.1).length:Int)+(2:Int)))).bind fun r5=>(if r5.1.length≤((((v1.2.2.1++[IntKind.u8.wrap v1.1.2.2.2.2.1,IntKind.u8.wrap v1.1.2.2.2.2.2.1])++r3.1)++r4.1)++v1.1.2.2.2.2.2.2.2.1).length then ((uU n (r5.1++((((v1.2.2.1++[IntKind.u8.wrap v1.1.2.2.2.2.1,IntKind.u8.wrap v1.1.2.2.2.2.2.1])++r3.1)++r4.1)++v1.1.2.2.2.2.2.2.2.1).drop r5.1.length)).bind fun r6=>((lq n r6.1).bind fun r7=>(if ((r5.1++((((v1.2.2.1++[IntKind.u8.wrap v1.1.2.2.2.2.1,IntKind.u8.wrap v1.1.2.2.2.2.2.1])++r3.1)++r4.1)++v1.1.2.2.2.2.2.2.2.1).drop r5.1.length).length+r7.1.length) * 1≤140737488355328 then some ((r5.1++((((v1.2.2.1++[IntKind.u8.wrap v1.1.2.2.2.2.1,IntKind.u8.wrap v1.1.2.2.2.2.2.1])++r3.1)++r4.1)++v1.1.2.2.2.2.2.2.2.1).drop r5.1.length)++r7.1,()) else none))) else none)) else none) else none)) else none)) else none))) n (a0,(0:Int),((([(0:Int),(0:Int),IntKind.u8.wrap a0.1,IntKind.u8.wrap (a0.2.1.length:Int)]++a0.2.1)++[IntKind.u8.wrap (a0.2.2.1.length:Int)])++a0.2.2.1)++[IntKind.u8.wrap (a0.2.2.2.1.length:Int)],())) else none) else none) else none) else none)
def Z8:Entry:=⟨91,[.ro jy],[.own (.sl 5 (.int .u8)) [5] [] []],fun n c=>tQ n c.1⟩
def acW:Hint:=⟨0,[],[(0,[0,3,4],[514])],[],[(124,some 64,OZ),(124,some 83,OZ),(124,some 91,OZ),(124,some 102,OZ),(125,some 106,Z7),(124,some 107,OZ)],[],[],[103],[]⟩
theorem agv:gV T acW Tryz.f91 Z8:=by intro n c; kernel_rfl
theorem ahW [Fr] (n:Nat):aj Tryz.prog n Z8:=ak mixed aK Tryz.func91 (by kernel_rfl) (hi:=acW) (aa (UN n) (aa (UN n) (aa (UN n) (aa (UN n) (aa (ahV n) (aa (UN n) aD)))))) agv
def tH (n:Nat) (a0:List Int):Option (aiP×Unit):=(if decide ((a0.length:Int)<(2:Int))=true then some (((5:Int),(0:Int),Di,()),()) else (if aM (0:Int) a0.length then (if aM (1:Int) a0.length then (if decide ((IntKind.i64.wrap ((IntKind.i64.wrap ((IntKind.i64.wrap (a0.getD (0:Int).toNat (0:Int))) * (256:Int)))+(IntKind.i64.wrap (a0.getD (1:Int).toNat (0:Int)))))<(2:Int))=true then some (((5:Int),(0:Int),Di,()),()) else (if decide ((IntKind.i64.wrap ((IntKind.i64.wrap ((IntKind.i64.wrap (a0.getD (0:Int).toNat (0:Int))) * (256:Int)))+(IntKind.i64.wrap (a0.getD (1:Int).toNat (0:Int)))))>(a0.length:Int))=true then some (((5:Int),(0:Int),Di,()),()) else (if 0≤(IntKind.i64.wrap ((IntKind.i64.wrap ((IntKind.i64.wrap (a0.getD (0:Int).toNat (0:Int))) * (256:Int)))+(IntKind.i64.wrap (a0.getD (1:Int).toNat (0:Int)))))∧(IntKind.i64.wrap ((IntKind.i64.wrap ((IntKind.i64.wrap (a0.getD (0:Int).toNat (0:Int))) * (256:Int)))+(IntKind.i64.wrap (a0.getD (1:Int).toNat (0:Int)))))≤(a0.length:Int) then ((tT n (a0.take (IntKind.i64.wrap ((IntKind.i64.wrap ((IntKind.i64.wrap (a0.getD (0:Int).toNat (0:Int))) * (256:Int)))+(IntKind.i64.wrap (a0.getD (1:Int).toNat (0:Int))))).toNat)).bind fun r1=>((nO n r1.1).bind fun r2=>(if (!decide (r2.1=(0:Int)))=true then some (((5:Int),(0:Int),Di,()),()) else ((tQ n r1.1).bind fun r3=>(if 0≤(IntKind.i64.wrap ((IntKind.i64.wrap ((IntKind.i64.wrap (a0.getD (0:Int).toNat (0:Int))) * (256:Int)))+(IntKind.i64.wrap (a0.getD (1:Int).toNat (0:Int)))))∧(IntKind.i64.wrap ((IntKind.i64.wrap ((IntKind.i64.wrap (a0.getD (0:Int).toNat (0:Int))) * (256:Int)))+(IntKind.i64.wrap (a0.getD (1:Int).toNat (0:Int)))))≤(a0.length:Int) then (if (!decide (r3.1=(a0.take (IntKind.i64.wrap ((IntKind.i64.wrap ((IntKind.i64.wrap (a0.getD (0:Int).toNat (0:Int))) * (256:Int)))+(IntKind.i64.wrap (a0.getD (1:Int).toNat (0:Int))))).toNat)))=true then some (((5:Int),(0:Int),Di,()),()) else some (((0:Int),IntKind.i64.wrap ((IntKind.i64.wrap ((IntKind.i64.wrap (a0.getD (0:Int).toNat (0:Int))) * (256:Int)))+(IntKind.i64.wrap (a0.getD (1:Int).toNat (0:Int)))),r1.1,()),())) else none))))) else none))) else none) else none))
def Z9:Entry:=⟨108,[.val (.sl 5 (.int .u8)) []],[.own GY [2,5] [] []],fun n c=>tH n c.1⟩
def acX:Hint:=⟨0,[45],[],[],[(141,some 31,E_8),(142,some 32,XG),(91,some 35,Z8)],[],[],[],[]⟩
theorem agw:gV T acX Tryz.f108 Z9:=by intro n c; kernel_rfl
theorem ahX [Fr] (n:Nat):aj Tryz.prog n Z9:=ak mixed aK Tryz.func108 (by kernel_rfl) (hi:=acX) (aa (K_8 n) (aa (aer n) (aa (ahW n) aD))) agw
def kF (n:Nat) (a0:List Int):Option ((List gX)×Int×Unit):=(rounds (fun L1 (v1:(List Int)×Int×(List gX)×Unit)=>(if decide (v1.2.1<(v1.1.length:Int))=true then (if 0≤v1.2.1∧v1.2.1≤(v1.1.length:Int) then ((tH n (v1.1.drop v1.2.1.toNat)).bind fun r2=>(if (!decide (r2.1.1=(0:Int)))=true then some (v1.2.2.1,v1.2.1,()) else (if (v1.2.2.1.length+[r2.1.2.2.1].length) * 112≤140737488355328 then L1 (v1.1,IntKind.i64.wrap (v1.2.1+r2.1.2.1),v1.2.2.1++[r2.1.2.2.1],()) else none))) else none) else some (v1.2.2.1,v1.2.1,()))) n (a0,(0:Int),([]:List gX),()))
def XH:Entry:=⟨58,[.val (.sl 5 (.int .u8)) []],[.own (.sl 72 jy) [2,5,72] [] [], .val (.int .i64) [] []],fun n c=>kF n c.1⟩
def acY:Hint:=⟨0,[21],[(0,[0,4,5],[226])],[],[(108,some 15,Z9)],[],[],[],[]⟩
theorem agx:gV T acY Tryz.f58 XH:=by intro n c; kernel_rfl
theorem aes [Fr] (n:Nat):aj Tryz.prog n XH:=ak mixed aK Tryz.func58 (by kernel_rfl) (hi:=acY) (aa (ahX n) aD) agx
def tJ (n:Nat) (a0:JM):Option ((List gX)×Bool×Unit):=((kF n a0.2.1).bind fun r1=>((kF n a0.2.2.1).bind fun r2=>(if (r1.1.length+r2.1.length) * 112≤140737488355328 then (if decide (r1.2.1=(a0.2.1.length:Int))=true then some (r1.1++r2.1,decide (r2.2.1=(a0.2.2.1.length:Int)),()) else some (r1.1++r2.1,false,())) else none)))
def aaa:Entry:=⟨88,[.ro GZ],[.own (.sl 72 jy) [2,5,72] [] [], .val .bool [] []],fun n c=>tJ n c.1⟩
def acZ:Hint:=⟨0,[],[],[],[(58,some 13,XH),(58,some 21,XH)],[],[],[],[]⟩
theorem agy:gV T acZ Tryz.f88 aaa:=by intro n c; kernel_rfl
theorem ahY [Fr] (n:Nat):aj Tryz.prog n aaa:=ak mixed aK Tryz.func88 (by kernel_rfl) (hi:=acZ) (aa (aes n) (aa (aes n) aD)) agy
def uI (n:Nat)  : Option (gB×Unit):=some (((1:Int),([]:List dX),()),())
def aab:Entry:=⟨60,[],[.own qj [5,114,117] [] []],fun n c=>uI n⟩
def ac0:Hint:=⟨0,[],[],[],[],[],[],[],[]⟩
theorem agz:gV T ac0 Tryz.f60 aab:=by intro n c; kernel_rfl
theorem ahZ [Fr] (n:Nat):aj Tryz.prog n aab:=ak mixed aK Tryz.func60 (by kernel_rfl) (hi:=ac0) aD agz
def dU (n:Nat) (a0:Int):Option (Er×Unit):=some ((a0,([]:List Int),Nc,()),())
def FJ:Entry:=⟨109,[.val (.int .i64) []],[.own Lt [2,5,114,117] [] []],fun n c=>dU n c.1⟩
def ac1:Hint:=⟨0,[],[],[],[],[],[],[],[]⟩
theorem agA:gV T ac1 Tryz.f109 FJ:=by intro n c; kernel_rfl
theorem JE [Fr] (n:Nat):aj Tryz.prog n FJ:=ak mixed aK Tryz.func109 (by kernel_rfl) (hi:=ac1) aD agA
def o8 (n:Nat) (a0:List Int):Option ((List Int)×Unit):=(if (([]:List Int).length+a0.length) * 1≤140737488355328 then some (([]:List Int)++a0,()) else none)
def XI:Entry:=⟨61,[.val (.sl 5 (.int .u8)) []],[.own (.sl 5 (.int .u8)) [5] [] []],fun n c=>o8 n c.1⟩
def ac2:Hint:=⟨0,[],[],[],[],[],[],[],[]⟩
theorem agB:gV T ac2 Tryz.f61 XI:=by intro n c; kernel_rfl
theorem aet [Fr] (n:Nat):aj Tryz.prog n XI:=ak mixed aK Tryz.func61 (by kernel_rfl) (hi:=ac2) aD agB
def mV (n:Nat) (a0:List rV):Option ((List rV)×Unit):=(rounds (fun L1 (v1:(List rV)×Int×(List rV)×Unit)=>(if decide (v1.2.1<(v1.1.length:Int))=true then (if aM v1.2.1 v1.1.length then ((o8 n (((((v1.1.getD v1.2.1.toNat oU).2).2).2).1)).bind fun r2=>(if (v1.2.2.1.length+[((v1.1.getD v1.2.1.toNat oU).1,((v1.1.getD v1.2.1.toNat oU).2).1,(((v1.1.getD v1.2.1.toNat oU).2).2).1,r2.1,((((v1.1.getD v1.2.1.toNat oU).2).2).2).2)].length) * 48≤140737488355328 then L1 (v1.1,IntKind.i64.wrap (v1.2.1+(1:Int)),v1.2.2.1++[((v1.1.getD v1.2.1.toNat oU).1,((v1.1.getD v1.2.1.toNat oU).2).1,(((v1.1.getD v1.2.1.toNat oU).2).2).1,r2.1,((((v1.1.getD v1.2.1.toNat oU).2).2).2).2)],()) else none)) else none) else some (v1.2.2.1,()))) n (a0,(0:Int),([]:List rV),()))
def aac:Entry:=⟨166,[.val (.sl 117 yZ) []],[.own (.sl 117 yZ) [5,117] [] []],fun n c=>mV n c.1⟩
def ac3:Hint:=⟨0,[22],[(0,[0,3,4],[194])],[],[(61,some 19,XI)],[],[],[],[]⟩
theorem agD:gV T ac3 Tryz.f166 aac:=by intro n c; kernel_rfl
theorem ah0 [Fr] (n:Nat):aj Tryz.prog n aac:=ak mixed aK Tryz.func166 (by kernel_rfl) (hi:=ac3) (aa (aet n) aD) agD
def iW (n:Nat) (a0:dX):Option (dX×Unit):=((mV n a0.2.2.2.1).bind fun r1=>some ((a0.1,a0.2.1,a0.2.2.1,r1.1,a0.2.2.2.2),()))
def XJ:Entry:=⟨123,[.val nE []],[.own nE [5,117] [] []],fun n c=>iW n c.1⟩
def ac4:Hint:=⟨0,[7],[],[],[(166,some 5,aac)],[],[],[],[]⟩
theorem agE:gV T ac4 Tryz.f123 XJ:=by intro n c; kernel_rfl
theorem aeu [Fr] (n:Nat):aj Tryz.prog n XJ:=ak mixed aK Tryz.func123 (by kernel_rfl) (hi:=ac4) (aa (ah0 n) aD) agE
def mE (n:Nat) (a0:gB):Option (gB×Unit):=(rounds (fun L1 (v1:Int×gB×gB×gB×Unit)=>(if decide (v1.1<(v1.2.1.2.1.length:Int))=true then (if aM v1.1 v1.2.1.2.1.length then ((iW n (v1.2.1.2.1.getD v1.1.toNat eX)).bind fun r2=>(if (v1.2.2.2.1.2.1.length+[r2.1].length) * 56≤140737488355328 then L1 (IntKind.i64.wrap (v1.1+(1:Int)),v1.2.1,v1.2.2.1,(v1.2.2.2.1.1,v1.2.2.2.1.2.1++[r2.1],v1.2.2.2.1.2.2),()) else none)) else none) else some (v1.2.2.2.1,()))) n ((0:Int),a0,Nc,(a0.1,([]:List dX),()),()))
def Uy:Entry:=⟨89,[.val qj []],[.own qj [5,114,117] [] []],fun n c=>mE n c.1⟩
def ac5:Hint:=⟨0,[16,26],[(0,[1,2,3,4],[34,66,98])],[],[(123,some 22,XJ)],[],[],[],[]⟩
theorem agF:gV T ac5 Tryz.f89 Uy:=by intro n c; kernel_rfl
theorem aa0 [Fr] (n:Nat):aj Tryz.prog n Uy:=ak mixed aK Tryz.func89 (by kernel_rfl) (hi:=ac5) (aa (aeu n) aD) agF
def qp (n:Nat) (a0:gB) (a1:List Int):Option (Int×Unit):=(rounds (fun L1 (v1:gB×Zt0)=>(if decide (v1.2.2.1<(v1.1.2.1.length:Int))=true then (if aM v1.2.2.1 v1.1.2.1.length then (if decide (((v1.1.2.1.getD v1.2.2.1.toNat eX).1)=v1.2.1)=true then some (v1.2.2.1,()) else L1 (v1.1,v1.2.1,IntKind.i64.wrap (v1.2.2.1+(1:Int)),())) else none) else some ((-1:Int),()))) n (a0,a1,(0:Int),()))
def Uz:Entry:=⟨180,[.ro qj, .val .str []],[.val (.int .i64) [] []],fun n c=>qp n c.1 c.2.1⟩
def ac6:Hint:=⟨0,[],[(0,[0,1,5],[])],[],[],[],[],[],[]⟩
theorem agG:gV T ac6 Tryz.f180 Uz:=by intro n c; kernel_rfl
theorem aa1 [Fr] (n:Nat):aj Tryz.prog n Uz:=ak mixed aK Tryz.func180 (by kernel_rfl) (hi:=ac6) aD agG
def tO (n:Nat) (a0:gB) (a1:gX):Option (Er×Unit):=((qp n a0 a1.2.1).bind fun r1=>(if decide (r1.1≥(0:Int))=true then ((dU n (6:Int)).bind fun r2=>some (r2.1,())) else (if decide ((a0.2.1.length:Int)≥(3:Int))=true then ((dU n (10:Int)).bind fun r3=>some (r3.1,())) else (if decide (a0.1≥(1000:Int))=true then ((dU n (10:Int)).bind fun r4=>some (r4.1,())) else ((mE n a0).bind fun r5=>(if (r5.1.2.1.length+[(a1.2.1,a0.1,(1:Int),([]:List rV),())].length) * 56≤140737488355328 then some (((0:Int),([]:List Int),(IntKind.i64.wrap (a0.1+(1:Int)),r5.1.2.1++[(a1.2.1,a0.1,(1:Int),([]:List rV),())],r5.1.2.2),()),()) else none))))))
def aad:Entry:=⟨179,[.val qj [], .ro jy],[.own Lt [2,5,114,117] [] []],fun n c=>tO n c.1 c.2.1⟩
def ac7:Hint:=⟨0,[26,41],[],[],[(180,some 10,Uz),(109,some 12,FJ),(109,some 22,FJ),(89,some 24,Uy)],[],[],[],[]⟩
theorem agH:gV T ac7 Tryz.f179 aad:=by intro n c; kernel_rfl
theorem ah1 [Fr] (n:Nat):aj Tryz.prog n aad:=ak mixed aK Tryz.func179 (by kernel_rfl) (hi:=ac7) (aa (aa1 n) (aa (JE n) (aa (JE n) (aa (aa0 n) aD)))) agH
def kZ (n:Nat) (a0:dX) (a1:rV):Option (Int×dX×Unit):=((o8 n a1.2.2.2.1).bind fun r1=>(if (a0.2.2.2.1.length+[(a0.2.2.1,a1.2.1,a1.2.2.1,r1.1,a1.2.2.2.2)].length) * 48≤140737488355328 then some (a0.2.2.1,(a0.1,a0.2.1,IntKind.i64.wrap (a0.2.2.1+(1:Int)),a0.2.2.2.1++[(a0.2.2.1,a1.2.1,a1.2.2.1,r1.1,a1.2.2.2.2)],a0.2.2.2.2),()) else none))
def XK:Entry:=⟨181,[.rw nE [5,117] [5,117,4294967295] [5,117], .val yZ []],[.val (.int .i64) [] []],fun n c=>kZ n c.1 c.2.1⟩
def ac8:Hint:=⟨0,[18,19],[],[],[(61,some 12,XI)],[],[],[],[]⟩
theorem agI:gV T ac8 Tryz.f181 XK:=by intro n c; kernel_rfl
theorem aev [Fr] (n:Nat):aj Tryz.prog n XK:=ak mixed aK Tryz.func181 (by kernel_rfl) (hi:=ac8) (aa (aet n) aD) agI
def kY (n:Nat) (a0:List Int) (a1:Int):Option (Bool×Unit):=(rounds (fun L1 (v1:(List Int)×Int×Int×Unit)=>(if decide (v1.2.2.1<(v1.1.length:Int))=true then (if aM v1.2.2.1 v1.1.length then (if decide ((v1.1.getD v1.2.2.1.toNat (0:Int))=v1.2.1)=true then some (true,()) else L1 (v1.1,v1.2.1,IntKind.i64.wrap (v1.2.2.1+(1:Int)),())) else none) else some (false,()))) n (a0,a1,(0:Int),()))
def O0:Entry:=⟨203,[.val (.sl 2 (.int .i64)) [], .val (.int .i64) []],[.val .bool [] []],fun n c=>kY n c.1 c.2.1⟩
def UJ:Hint:=⟨0,[],[(0,[0,1,5],[])],[],[],[],[],[],[]⟩
theorem ZZ:gV T UJ Tryz.f203 O0:=by intro n c; kernel_rfl
theorem aa2 [Fr] (n:Nat):aj Tryz.prog n O0:=ak mixed aK Tryz.func203 (by kernel_rfl) (hi:=UJ) aD ZZ
def ry (n:Nat) (a0:Int) (a1:Int) (a2:Int):Option (Int×Unit):=(if decide (a1=(2:Int))=true then some (IntKind.i64.wrap ((BitVec.ofInt (IntKind.bits .i64) a0 ||| BitVec.ofInt (IntKind.bits .i64) a2).toNat),()) else (if decide (a1=(3:Int))=true then some (IntKind.i64.wrap ((BitVec.ofInt (IntKind.bits .i64) a0 &&& ~~~ BitVec.ofInt (IntKind.bits .i64) a2).toNat),()) else some (a2,())))
def aae:Entry:=⟨204,[.val (.int .i64) [], .val (.int .i64) [], .val (.int .i64) []],[.val (.int .i64) [] []],fun n c=>ry n c.1 c.2.1 c.2.2.1⟩
def ac9:Hint:=⟨0,[],[],[],[],[],[],[],[]⟩
theorem agJ:gV T ac9 Tryz.f204 aae:=by intro n c; kernel_rfl
theorem ah2 [Fr] (n:Nat):aj Tryz.prog n aae:=ak mixed aK Tryz.func204 (by kernel_rfl) (hi:=ac9) aD agJ
def tL (n:Nat) (a0:dX) (a1:gX):Option ((List Int)×dX×Unit):=(rounds (fun L1 (v1:gX×Int×dX×(List Int)×Unit)=>(if decide (v1.2.1<(v1.2.2.1.2.2.2.1.length:Int))=true then (if aM v1.2.1 v1.2.2.1.2.2.2.1.length then ((kY n v1.1.2.2.2.1 ((v1.2.2.1.2.2.2.1.getD v1.2.1.toNat oU).1)).bind fun r2=>(if r2.1=true then ((ry n (((v1.2.2.1.2.2.2.1.getD v1.2.1.toNat oU).2).1) v1.1.2.2.2.2.1 v1.1.2.2.2.2.2.1).bind fun r3=>(if (v1.2.2.2.1.length+[((CE v1.2.2.1.2.2.2.1 v1.2.1.toNat oU fun z1=>(z1.1,r3.1,z1.2.2)).getD v1.2.1.toNat oU).1].length) * 8≤140737488355328 then L1 (v1.1,IntKind.i64.wrap (v1.2.1+(1:Int)),(v1.2.2.1.1,v1.2.2.1.2.1,v1.2.2.1.2.2.1,(CE v1.2.2.1.2.2.2.1 v1.2.1.toNat oU fun z1=>(z1.1,r3.1,z1.2.2)),v1.2.2.1.2.2.2.2),v1.2.2.2.1++[((CE v1.2.2.1.2.2.2.1 v1.2.1.toNat oU fun z1=>(z1.1,r3.1,z1.2.2)).getD v1.2.1.toNat oU).1],()) else none)) else L1 (v1.1,IntKind.i64.wrap (v1.2.1+(1:Int)),v1.2.2.1,v1.2.2.2.1,()))) else none) else some (v1.2.2.2.1,v1.2.2.1,()))) n (a1,(0:Int),a0,([]:List Int),()))
def aaf:Entry:=⟨182,[.rw nE [5,117] [117] [], .ro jy],[.own (.sl 2 (.int .i64)) [2] [] []],fun n c=>tL n c.1 c.2.1⟩
def ada:Hint:=⟨0,[21],[(0,[0,1,5,6],[0,258])],[],[(203,some 32,O0),(204,some 46,aae)],[],[],[],[]⟩
theorem agK:gV T ada Tryz.f182 aaf:=by intro n c; kernel_rfl
theorem ah3 [Fr] (n:Nat):aj Tryz.prog n aaf:=ak mixed aK Tryz.func182 (by kernel_rfl) (hi:=ada) (aa (aa2 n) (aa (ah2 n) aD)) agK
namespace IdT
def Xu:Ul:={ ty:=[(2,(.int .i64)),(3,(.int .i64)),(4, .bool),(5,(.int .u8)),(6,(.int .u8)),(7,Xz),(8,Xz),(9, .str),(10, .str),(11, .str),(12,(.int .u64)),(13,Xx),(14,Xx),(21,(.int .i32)),(22,(.sl 5 (.int .u8))),(23,(.sl 168 JJ)),(24,Pe),(25,Pe),(26,Pg),(27,Pg),(30,(.sl 114 FN)),(31,M9),(32,M9),(33,Na),(34,Na),(38,(.sl 139 xY)),(39,Sk),(40,Sk),(43,(.sl 91 xY)),(44,Sj),(45,Sj),(49,(.sl 2 (.int .i64))),(50,Si),(51,Si),(60,(.sl 72 jy)),(61,JK),(62,JK),(64,Sd),(65,Sd),(71,jy),(72,jy),(90,xY),(91,xY),(112,(.sl 117 JL)),(113,FN),(114,FN),(116,JL),(117,JL),(139,xY),(145,GY),(146,GY),(152,Xy),(153,Xy),(155,(.sl 22 (.sl 5 (.int .u8)))),(166,(.sl 227 JL)),(167,JJ),(168,JJ),(180,Sc),(181,Sc),(194,(.sl 9 .str)),(203,Sg),(204,Sg),(227,JL),(245,(.int .u32)),(246,(.int .u8)),(247,(.int .u8)),(250,(.int .i32)),(251,(.int .i32))],bytes:=[(2,8),(3,8),(4,1),(5,1),(6,1),(7,24),(8,24),(9,16),(10,16),(11,16),(12,8),(13,24),(14,24),(21,4),(22,24),(23,24),(24,32),(25,32),(26,88),(27,88),(30,24),(31,32),(32,32),(33,88),(34,88),(38,24),(39,112),(40,112),(43,24),(44,112),(45,112),(49,24),(50,120),(51,120),(60,24),(61,40),(62,40),(64,64),(65,64),(71,112),(72,112),(90,56),(91,56),(112,24),(113,56),(114,56),(116,48),(117,48),(139,56),(145,128),(146,128),(152,32),(153,32),(155,24),(166,24),(167,56),(168,56),(180,32),(181,32),(194,24),(203,40),(204,40),(227,48),(245,4),(246,1),(247,1),(250,4),(251,4)],ptr:=[15,16,17,77,86,104,121,131,141,170,179,199,206,249],ids:=true }
def T:iX:=Xu.tab
theorem aK:Bl Tryz.prog Xu=true:=by kernel_rfl
theorem mixed:Tryz.prog.follows .mixedOrders=true:=by kernel_rfl
def kY (n:Nat) (a0:List Int) (a1:Int):Option (Bool×Unit):=(rounds (fun L1 (v1:(List Int)×Int×Int×Unit)=>(if decide (v1.2.2.1<(v1.1.length:Int))=true then (if aM v1.2.2.1 v1.1.length then (if decide ((v1.1.getD v1.2.2.1.toNat (0:Int))=v1.2.1)=true then some (true,()) else L1 (v1.1,v1.2.1,IntKind.i64.wrap (v1.2.2.1+(1:Int)),())) else none) else some (false,()))) n (a0,a1,(0:Int),()))
def O0:Entry:=⟨203,[.val (.sl 2 (.int .i64)) [], .val (.int .i64) []],[.val .bool [] []],fun n c=>kY n c.1 c.2.1⟩
def UJ:Hint:=⟨0,[],[(0,[0,1,5],[])],[],[],[],[],[],[]⟩
theorem ZZ:gV T UJ Tryz.f203 O0:=by intro n c; kernel_rfl
theorem aa2 [Fr] (n:Nat):aj Tryz.prog n O0:=ak mixed aK Tryz.func203 (by kernel_rfl) (hi:=UJ) aD ZZ
def fK (n:Nat) (a0:Sl) (a1:List Int) (a2:Int):Option ((List Lu)×Sl×Unit):=(rounds (fun L1 (v1:(List Int)×Int×Int×Sl×(List Lu)×(List Lu)×Unit)=>(if decide (v1.2.2.1<(v1.2.2.2.1.2.2.2.1.length:Int))=true then (if aM v1.2.2.1 v1.2.2.2.1.2.2.2.1.length then ((kY n v1.1 ((v1.2.2.2.1.2.2.2.1.getD v1.2.2.1.toNat Lv).1)).bind fun r2=>(if r2.1=true then (if (v1.2.2.2.2.1.length+[v1.2.2.2.1.2.2.2.1.getD v1.2.2.1.toNat Lv].length) * 48≤140737488355328 then L1 (v1.1,v1.2.1,IntKind.i64.wrap (v1.2.2.1+(1:Int)),v1.2.2.2.1,v1.2.2.2.2.1++[v1.2.2.2.1.2.2.2.1.getD v1.2.2.1.toNat Lv],v1.2.2.2.2.2.1,()) else none) else (if (!decide ((IntKind.i64.wrap ((BitVec.ofInt (IntKind.bits .i64) (((v1.2.2.2.1.2.2.2.1.getD v1.2.2.1.toNat Lv).2).1) &&& BitVec.ofInt (IntKind.bits .i64) v1.2.1).toNat))=(0:Int)))=true then (if (v1.2.2.2.2.1.length+[v1.2.2.2.1.2.2.2.1.getD v1.2.2.1.toNat Lv].length) * 48≤140737488355328 then L1 (v1.1,v1.2.1,IntKind.i64.wrap (v1.2.2.1+(1:Int)),v1.2.2.2.1,v1.2.2.2.2.1++[v1.2.2.2.1.2.2.2.1.getD v1.2.2.1.toNat Lv],v1.2.2.2.2.2.1,()) else none) else (if (v1.2.2.2.2.2.1.length+[v1.2.2.2.1.2.2.2.1.getD v1.2.2.1.toNat Lv].length) * 48≤140737488355328 then L1 (v1.1,v1.2.1,IntKind.i64.wrap (v1.2.2.1+(1:Int)),v1.2.2.2.1,v1.2.2.2.2.1,v1.2.2.2.2.2.1++[v1.2.2.2.1.2.2.2.1.getD v1.2.2.1.toNat Lv],()) else none)))) else none) else some (v1.2.2.2.2.1,(v1.2.2.2.1.1,v1.2.2.2.1.2.1,v1.2.2.2.1.2.2.1,v1.2.2.2.2.2.1,v1.2.2.2.1.2.2.2.2),()))) n (a1,a2,(0:Int),a0,([]:List Lu),([]:List Lu),()))
def RZ:Entry:=⟨183,[.rw FN [5,117] [4294967295] [117], .val (.sl 2 (.int .i64)) [], .val (.int .i64) []],[.own (.sl 117 JL) [117] [] []],fun n c=>fK n c.1 c.2.1 c.2.2.1⟩
def adb:Hint:=⟨0,[],[(0,[0,1,2,7,8,9],[0,354,386])],[],[(203,some 32,O0)],[],[],[],[]⟩
theorem agL:gV T adb Tryz.f183 RZ:=by intro n c; kernel_rfl
theorem XV [Fr] (n:Nat):aj Tryz.prog n RZ:=ak mixed aK Tryz.func183 (by kernel_rfl) (hi:=adb) (aa (aa2 n) aD) agL
end IdT
def fK (n:Nat) (a0:List Int×Int×Int×List jJ.yY×Unit) (a1:List Int) (a2:Int):Option (List jJ.yY×(List Int×Int×Int×List jJ.yY×Unit)×Unit):=jr.Af jr.pick n a0 a1 a2
def ZL:List dL:=[.rw nE [5,117] [4294967295,5] [117,4294967294], .val (.sl 2 (.int .i64)) [], .val (.int .i64) []]
def afZ:List nP:=[.own (.sl 117 yZ) [5,117] [] []]
def RZ:Entry:=⟨183,ZL,afZ,fun n (c:Cont (kin ZL))=>fK n c.1 c.2.1 c.2.2.1⟩
theorem ahR {n:Nat} {nm:List Int} {w h:Int} {xs:List Lu} {us:List Int} {fl:Int} (hc:xs.length * 48≤140737488355328) (hn:xs.length<n) (hb:us.length≤1048576) (hu:us.length<n) :
  IdT.fK n (nm,w,h,xs,()) us fl=some (xs.filter (fun x=>jr.pick us fl x.1 x.2.1),(nm,w,h,xs.filter (fun x=>!jr.pick us fl x.1 x.2.1),()),()):=
 jr.Uh (has:=IdT.kY n) (fun _ _=>rfl) (fun x=>jr.NL (fun _ _=>rfl) hb hu) hc hn
theorem XV [Fr] (n:Nat):aj Tryz.prog n RZ:=jr.QE (p:=jr.pick) (e:=5) (m:=117) (i:=2) (ow:=[117]) (FI:=fun n c=>IdT.fK n c.1 c.2.1 c.2.2.1) rfl (fun fr=>IdT.XV n) (fun _ _ _ _ _ _ hc hn hb hu=>ahR hc hn hb hu)
def ru (n:Nat) (a0:gB) (a1:Int) (a2:gX):Option ((List Int)×Int×gB×Unit):=((qp n a0 a2.2.2.1).bind fun r1=>(if decide (r1.1<(0:Int))=true then some (([]:List Int),(4:Int),a0,()) else (if decide (a2.1=(6:Int))=true then (if decide (r1.1=a1)=true then some (([]:List Int),(9:Int),a0,()) else (if aM a1 a0.2.1.length then ((iW n (a0.2.1.getD a1.toNat eX)).bind fun r2=>((fK n r2.1 a2.2.2.2.1 (0:Int)).bind fun r3=>(if aM r1.1 a0.2.1.length then (if decide ((IntKind.i64.wrap (((((((a0.2.1.getD r1.1.toNat eX).2).2).2).1).length:Int)+(r3.1.length:Int)))>(6:Int))=true then some (([]:List Int),(10:Int),a0,()) else (if decide ((IntKind.i64.wrap (((((a0.2.1.getD r1.1.toNat eX).2).2).1)+(r3.1.length:Int)))>(1000:Int))=true then some (([]:List Int),(10:Int),a0,()) else (rounds (fun L4 (v4:Int×gX×Int×Int×gB×dX×(List rV)×(List Int)×Unit)=>(if decide (v4.2.2.2.1<(v4.2.2.2.2.2.2.1.length:Int))=true then (if aM v4.2.2.2.1 v4.2.2.2.2.2.2.1.length then ((kZ n (v4.2.2.2.2.1.2.1.getD v4.2.2.1.toNat eX) (v4.2.2.2.2.2.2.1.getD v4.2.2.2.1.toNat oU)).bind fun r5=>(if (v4.2.2.2.2.2.2.2.1.length+[r5.1].length) * 8≤140737488355328 then L4 (v4.1,v4.2.1,v4.2.2.1,IntKind.i64.wrap (v4.2.2.2.1+(1:Int)),(v4.2.2.2.2.1.1,v4.2.2.2.2.1.2.1.set v4.2.2.1.toNat r5.2.1,v4.2.2.2.2.1.2.2),v4.2.2.2.2.2.1,v4.2.2.2.2.2.2.1,v4.2.2.2.2.2.2.2.1++[r5.1],()) else none)) else none) else (if decide (v4.2.1.1=(6:Int))=true then (if aM v4.1 v4.2.2.2.2.1.2.1.length then some (v4.2.2.2.2.2.2.2.1,(0:Int),(v4.2.2.2.2.1.1,v4.2.2.2.2.1.2.1.set v4.1.toNat v4.2.2.2.2.2.1,v4.2.2.2.2.1.2.2),()) else none) else some (v4.2.2.2.2.2.2.2.1,(0:Int),v4.2.2.2.2.1,())))) n (a1,a2,r1.1,(0:Int),a0,r3.2.1,r3.1,([]:List Int),())))) else none))) else none)) else (if aM a1 a0.2.1.length then ((iW n (a0.2.1.getD a1.toNat eX)).bind fun r6=>((fK n r6.1 a2.2.2.2.1 (0:Int)).bind fun r7=>(if aM r1.1 a0.2.1.length then (if decide ((IntKind.i64.wrap (((((((a0.2.1.getD r1.1.toNat eX).2).2).2).1).length:Int)+(r7.1.length:Int)))>(6:Int))=true then some (([]:List Int),(10:Int),a0,()) else (if decide ((IntKind.i64.wrap (((((a0.2.1.getD r1.1.toNat eX).2).2).1)+(r7.1.length:Int)))>(1000:Int))=true then some (([]:List Int),(10:Int),a0,()) else (rounds (fun L8 (v8:Int×gX×Int×Int×gB×dX×(List rV)×(List Int)×Unit)=>(if decide (v8.2.2.2.1<(v8.2.2.2.2.2.2.1.length:Int))=true then (if aM v8.2.2.2.1 v8.2.2.2.2.2.2.1.length then ((kZ n (v8.2.2.2.2.1.2.1.getD v8.2.2.1.toNat eX) (v8.2.2.2.2.2.2.1.getD v8.2.2.2.1.toNat oU)).bind fun r9=>(if (v8.2.2.2.2.2.2.2.1.length+[r9.1].length) * 8≤140737488355328 then L8 (v8.1,v8.2.1,v8.2.2.1,IntKind.i64.wrap (v8.2.2.2.1+(1:Int)),(v8.2.2.2.2.1.1,v8.2.2.2.2.1.2.1.set v8.2.2.1.toNat r9.2.1,v8.2.2.2.2.1.2.2),v8.2.2.2.2.2.1,v8.2.2.2.2.2.2.1,v8.2.2.2.2.2.2.2.1++[r9.1],()) else none)) else none) else (if decide (v8.2.1.1=(6:Int))=true then (if aM v8.1 v8.2.2.2.2.1.2.1.length then some (v8.2.2.2.2.2.2.2.1,(0:Int),(v8.2.2.2.2.1.1,v8.2.2.2.2.1.2.1.set v8.1.toNat v8.2.2.2.2.2.1,v8.2.2.2.2.1.2.2),()) else none) else some (v8.2.2.2.2.2.2.2.1,(0:Int),v8.2.2.2.2.1,())))) n (a1,a2,r1.1,(0:Int),a0,r7.2.1,r7.1,([]:List Int),())))) else none))) else none))))
def aag:Entry:=⟨184,[.rw qj [5,114,117] [5,114,117,4294967295] [5,117], .val (.int .i64) [], .ro jy],[.own (.sl 2 (.int .i64)) [2] [] [], .val (.int .i64) [] []],fun n c=>ru n c.1 c.2.1 c.2.2.1⟩
def ade:Hint:=⟨0,[48,94,96],[(0,[0,1,2,9,10,11,12,13],[0,290,1410,2242])],[],[(180,some 19,Uz),(123,some 39,XJ),(183,some 44,RZ),(181,some 83,XK)],[],[],[],[]⟩
theorem agM:gV T ade Tryz.f184 aag:=by intro n c; kernel_rfl
theorem ah4 [Fr] (n:Nat):aj Tryz.prog n aag:=ak mixed aK Tryz.func184 (by kernel_rfl) (hi:=ade) (aa (aa1 n) (aa (aeu n) (aa (XV n) (aa (aev n) aD)))) agM
def rq (n:Nat) (a0:gB) (a1:gX):Option (Er×Unit):=(if decide (a1.1=(1:Int))=true then ((tO n a0 a1).bind fun r1=>some (r1.1,())) else ((qp n a0 a1.2.1).bind fun r2=>(if decide (r2.1<(0:Int))=true then ((dU n (4:Int)).bind fun r3=>some (r3.1,())) else ((mE n a0).bind fun r4=>(if aM r2.1 r4.1.2.1.length then (if decide (a1.1=(2:Int))=true then (if 0≤r2.1∧r2.1≤(r4.1.2.1.length:Int) then (if (([]:List dX).length+(r4.1.2.1.take r2.1.toNat).length) * 56≤140737488355328 then (if 0≤(IntKind.i64.wrap (r2.1+(1:Int)))∧(IntKind.i64.wrap (r2.1+(1:Int)))≤(r4.1.2.1.length:Int) then (if ((([]:List dX)++(r4.1.2.1.take r2.1.toNat)).length+(r4.1.2.1.drop (IntKind.i64.wrap (r2.1+(1:Int))).toNat).length) * 56≤140737488355328 then some (((0:Int),([]:List Int),(r4.1.1,(([]:List dX)++(r4.1.2.1.take r2.1.toNat))++(r4.1.2.1.drop (IntKind.i64.wrap (r2.1+(1:Int))).toNat),r4.1.2.2),()),()) else none) else none) else none) else none) else (if decide (a1.1=(3:Int))=true then (if decide (((((((r4.1.2.1.getD r2.1.toNat eX).2).2).2).1).length:Int)≥(6:Int))=true then ((dU n (10:Int)).bind fun r5=>some (r5.1,())) else (if decide (((((r4.1.2.1.getD r2.1.toNat eX).2).2).1)≥(1000:Int))=true then ((dU n (10:Int)).bind fun r6=>some (r6.1,())) else ((kZ n (r4.1.2.1.getD r2.1.toNat eX) ((0:Int),a1.2.2.2.2.2.1,a1.2.2.2.2.2.2.1,a1.2.2.2.2.2.2.2.1,())).bind fun r7=>some (((0:Int),[r7.1],(r4.1.1,r4.1.2.1.set r2.1.toNat r7.2.1,r4.1.2.2),()),())))) else (if decide (a1.1=(4:Int))=true then ((tL n (r4.1.2.1.getD r2.1.toNat eX) a1).bind fun r8=>some (((0:Int),r8.1,(r4.1.1,r4.1.2.1.set r2.1.toNat r8.2.1,r4.1.2.2),()),())) else (if decide (a1.1=(7:Int))=true then ((fK n (r4.1.2.1.getD r2.1.toNat eX) ([]:List Int) (8:Int)).bind fun r9=>(rounds (fun L10 (v10:Int×Er×Er×(List rV)×Unit)=>(if decide (v10.1<(v10.2.2.2.1.length:Int))=true then (if aM v10.1 v10.2.2.2.1.length then (if (v10.2.2.1.2.1.length+[(v10.2.2.2.1.getD v10.1.toNat oU).1].length) * 8≤140737488355328 then L10 (IntKind.i64.wrap (v10.1+(1:Int)),v10.2.1,(v10.2.2.1.1,v10.2.2.1.2.1++[(v10.2.2.2.1.getD v10.1.toNat oU).1],v10.2.2.1.2.2),v10.2.2.2.1,()) else none) else none) else some (v10.2.2.1,()))) n ((0:Int),abd,((0:Int),([]:List Int),(r4.1.1,r4.1.2.1.set r2.1.toNat r9.2.1,r4.1.2.2),()),r9.1,()))) else ((ru n r4.1 r2.1 a1).bind fun MB=>(if (!decide (MB.2.1=(0:Int)))=true then ((dU n MB.2.1).bind fun KS=>some (KS.1,())) else some (((0:Int),MB.1,MB.2.2.1,()),()))))))) else none)))))
def aah:Entry:=⟨143,[.val qj [], .ro jy],[.val Lt [] []],fun n c=>rq n c.1 c.2.1⟩
def adf:Hint:=⟨0,[34,123,132],[(1,[4,6,9,10],[130,194,3682])],[],[(179,some 20,aad),(180,some 25,Uz),(109,some 28,FJ),(89,some 30,Uy),(109,some 88,FJ),(181,some 103,XK),(182,some 110,aaf),(183,some 115,RZ),(184,some 45,aag),(109,some 51,FJ)],[],[],[],[]⟩
theorem agN:gV T adf Tryz.f143 aah:=by intro n c; kernel_rfl
theorem ah5 [Fr] (n:Nat):aj Tryz.prog n aah:=ak mixed aK Tryz.func143 (by kernel_rfl) (hi:=adf) (aa (ah1 n) (aa (aa1 n) (aa (JE n) (aa (aa0 n) (aa (JE n) (aa (aev n) (aa (ah3 n) (aa (XV n) (aa (ah4 n) (aa (JE n) aD)))))))))) agN
def q9 (n:Nat) (a0:gB) (a1:gX):Option (Er×Unit):=((jf n a0).bind fun r1=>(if (!decide (r1.1=(0:Int)))=true then ((dU n r1.1).bind fun r2=>some (r2.1,())) else ((nO n a1).bind fun r3=>(if (!decide (r3.1=(0:Int)))=true then ((dU n r3.1).bind fun r4=>some (r4.1,())) else ((rq n a0 a1).bind fun r5=>some (r5.1,()))))))
def aai:Entry:=⟨110,[.val qj [], .val jy []],[.val Lt [] []],fun n c=>q9 n c.1 c.2.1⟩
def adg:Hint:=⟨0,[],[],[],[(95,some 7,E_4),(109,some 11,FJ),(142,some 12,XG),(109,some 16,FJ),(143,some 18,aah)],[],[],[],[]⟩
theorem agO:gV T adg Tryz.f110 aai:=by intro n c; kernel_rfl
theorem ah6 [Fr] (n:Nat):aj Tryz.prog n aai:=ak mixed aK Tryz.func110 (by kernel_rfl) (hi:=adg) (aa (K_4 n) (aa (JE n) (aa (aer n) (aa (JE n) (aa (ah5 n) aD))))) agO
def lX (n:Nat) (a0:gB) (a1:List gX):Option (Er×Unit):=(if decide ((a1.length:Int)>(60:Int))=true then ((dU n (2:Int)).bind fun r1=>some (r1.1,())) else ((jf n a0).bind fun r2=>(if (!decide (r2.1=(0:Int)))=true then ((dU n r2.1).bind fun r3=>some (r3.1,())) else ((mE n a0).bind fun r4=>(rounds (fun L5 (v5:(List gX)×Int×Er×Er×Unit)=>(if decide (v5.2.1<(v5.1.length:Int))=true then (if aM v5.2.1 v5.1.length then ((q9 n v5.2.2.2.1.2.2.1 (v5.1.getD v5.2.1.toNat Di)).bind fun r6=>(if (!decide (r6.1.1=(0:Int)))=true then ((dU n r6.1.1).bind fun r7=>some (r7.1,())) else L5 (v5.1,IntKind.i64.wrap (v5.2.1+(1:Int)),v5.2.2.1,(v5.2.2.2.1.1,v5.2.2.2.1.2.1,r6.1.2.2.1,v5.2.2.2.1.2.2.2),()))) else none) else some (v5.2.2.2.1,()))) n (a1,(0:Int),abd,((0:Int),([]:List Int),r4.1,()),()))))))
def aaj:Entry:=⟨59,[.val qj [], .val (.sl 72 jy) []],[.val Lt [] []],fun n c=>lX n c.1 c.2.1⟩
def adh:Hint:=⟨0,[43],[(0,[1,4,6,7],[130,194])],[(1000194,[5,114,117])],[(109,some 12,FJ),(95,some 13,E_4),(109,some 17,FJ),(89,some 19,Uy),(110,some 33,aai),(109,some 39,FJ)],[],[],[],[]⟩
theorem agP:gV T adh Tryz.f59 aaj:=by intro n c; kernel_rfl
theorem ah7 [Fr] (n:Nat):aj Tryz.prog n aaj:=ak mixed aK Tryz.func59 (by kernel_rfl) (hi:=adh) (aa (JE n) (aa (K_4 n) (aa (JE n) (aa (aa0 n) (aa (ah6 n) (aa (JE n) aD)))))) agP
def jI (n:Nat) (a0:rV) (a1:rV):Option (Bool×Unit):=(if decide (a0.1=a1.1)=true then (if decide (a0.2.1=a1.2.1)=true then (if decide (a0.2.2.1=a1.2.2.1)=true then some (decide (a0.2.2.2.1=a1.2.2.2.1),()) else some (false,())) else some (false,())) else some (false,()))
def aak:Entry:=⟨172,[.ro yZ, .ro yZ],[.val .bool [] []],fun n c=>jI n c.1 c.2.1⟩
def adi:Hint:=⟨0,[],[],[],[],[],[],[],[]⟩
theorem agQ:gV T adi Tryz.f172 aak:=by intro n c; kernel_rfl
theorem ah8 [Fr] (n:Nat):aj Tryz.prog n aak:=ak mixed aK Tryz.func172 (by kernel_rfl) (hi:=adi) aD agQ
def ou (n:Nat) (a0:dX) (a1:dX):Option (Bool×Unit):=(if (!decide (a0.1=a1.1))=true then some (false,()) else (if (!decide (a0.2.1=a1.2.1))=true then some (false,()) else (if (!decide (a0.2.2.1=a1.2.2.1))=true then some (false,()) else (if (!decide ((a0.2.2.2.1.length:Int)=(a1.2.2.2.1.length:Int)))=true then some (false,()) else (rounds (fun L1 (v1:dX×dX×Int×Unit)=>(if decide (v1.2.2.1<(v1.1.2.2.2.1.length:Int))=true then (if aM v1.2.2.1 v1.1.2.2.2.1.length then (if aM v1.2.2.1 v1.2.1.2.2.2.1.length then ((jI n (v1.1.2.2.2.1.getD v1.2.2.1.toNat oU) (v1.2.1.2.2.2.1.getD v1.2.2.1.toNat oU)).bind fun r2=>(if (!r2.1)=true then some (false,()) else L1 (v1.1,v1.2.1,IntKind.i64.wrap (v1.2.2.1+(1:Int)),()))) else none) else none) else some (true,()))) n (a0,a1,(0:Int),()))))))
def aal:Entry:=⟨131,[.ro nE, .ro nE],[.val .bool [] []],fun n c=>ou n c.1 c.2.1⟩
def adj:Hint:=⟨0,[],[(0,[0,1,5],[])],[],[(172,some 71,aak)],[],[],[],[]⟩
theorem agR:gV T adj Tryz.f131 aal:=by intro n c; kernel_rfl
theorem ah9 [Fr] (n:Nat):aj Tryz.prog n aal:=ak mixed aK Tryz.func131 (by kernel_rfl) (hi:=adj) (aa (ah8 n) aD) agR
def tK (n:Nat) (a0:gB) (a1:gB):Option (Bool×Unit):=(if (!decide (a0.1=a1.1))=true then some (false,()) else (if (!decide ((a0.2.1.length:Int)=(a1.2.1.length:Int)))=true then some (false,()) else (rounds (fun L1 (v1:gB×gB×Int×Unit)=>(if decide (v1.2.2.1<(v1.1.2.1.length:Int))=true then (if aM v1.2.2.1 v1.1.2.1.length then (if aM v1.2.2.1 v1.2.1.2.1.length then ((ou n (v1.1.2.1.getD v1.2.2.1.toNat eX) (v1.2.1.2.1.getD v1.2.2.1.toNat eX)).bind fun r2=>(if (!r2.1)=true then some (false,()) else L1 (v1.1,v1.2.1,IntKind.i64.wrap (v1.2.2.1+(1:Int)),()))) else none) else none) else some (true,()))) n (a0,a1,(0:Int),()))))
def aam:Entry:=⟨96,[.ro qj, .ro qj],[.val .bool [] []],fun n c=>tK n c.1 c.2.1⟩
def adk:Hint:=⟨0,[],[(0,[0,1,5],[])],[],[(131,some 49,aal)],[],[],[],[]⟩
theorem agS:gV T adk Tryz.f96 aam:=by intro n c; kernel_rfl
theorem aia [Fr] (n:Nat):aj Tryz.prog n aam:=ak mixed aK Tryz.func96 (by kernel_rfl) (hi:=adk) (aa (ah9 n) aD) agS
def lY (n:Nat) (a0:JM):Option (Int×Unit):=(if decide ((IntKind.i64.wrap ((a0.2.1.length:Int)+(a0.2.2.1.length:Int)))>(8000:Int))=true then some ((2:Int),()) else (if (!a0.1)=true then (if decide ((a0.2.2.1.length:Int)>(0:Int))=true then some ((1:Int),()) else (if (!decide (a0.2.2.2.1.1=(0:Int)))=true then some ((1:Int),()) else (if decide ((a0.2.2.2.1.2.1.length:Int)>(0:Int))=true then some ((1:Int),()) else some ((0:Int),())))) else ((jf n a0.2.2.2.1).bind fun r1=>(if (!decide (r1.1=(0:Int)))=true then some (r1.1,()) else ((tJ n a0).bind fun r2=>(if (!r2.2.1)=true then some ((5:Int),()) else ((uI n).bind fun r3=>((lX n r3.1 r2.1).bind fun r4=>(if (!decide (r4.1.1=(0:Int)))=true then some ((9:Int),()) else ((tK n r4.1.2.2.1 a0.2.2.2.1).bind fun r5=>(if (!r5.1)=true then some ((9:Int),()) else some ((0:Int),()))))))))))))
def aan:Entry:=⟨40,[.ro GZ],[.val (.int .i64) [] []],fun n c=>lY n c.1⟩
def adl:Hint:=⟨0,[],[],[],[(95,some 50,E_4),(88,some 56,aaa),(60,some 61,aab),(59,some 63,aaj),(96,some 72,aam)],[],[],[],[]⟩
theorem agT:gV T adl Tryz.f40 aan:=by intro n c; kernel_rfl
theorem aic [Fr] (n:Nat):aj Tryz.prog n aan:=ak mixed aK Tryz.func40 (by kernel_rfl) (hi:=adl) (aa (K_4 n) (aa (ahY n) (aa (ahZ n) (aa (ah7 n) (aa (aia n) aD))))) agT
def yU (n:Nat) (a0:Int):Option (Bool×Unit):=((bL n a0 (1:Int) (3:Int)).bind fun r1=>some (r1.1,()))
def aao:Entry:=⟨137,[.val (.int .i64) []],[.val .bool [] []],fun n c=>yU n c.1⟩
def adm:Hint:=⟨0,[],[],[],[(78,some 4,OU)],[],[],[],[]⟩
theorem agU:gV T adm Tryz.f137 aao:=by intro n c; kernel_rfl
theorem aid [Fr] (n:Nat):aj Tryz.prog n aao:=ak mixed aK Tryz.func137 (by kernel_rfl) (hi:=adm) (aa (QV n) aD) agU
def mU (n:Nat) (a0:Ke):Option (Int×Unit):=((yU n a0.2.2.2.1).bind fun r1=>(if (!r1.1)=true then some ((3:Int),()) else ((bL n a0.2.1 (0:Int) (999:Int)).bind fun r2=>(if (!r2.1)=true then some ((3:Int),()) else (if decide ((a0.2.2.1.length:Int)>(6:Int))=true then some ((3:Int),()) else ((mF n a0.2.2.1).bind fun r3=>(if (!r3.1)=true then some ((3:Int),()) else (if decide (a0.1=([]:List Int))=true then (if (!decide (a0.2.1=(0:Int)))=true then some ((1:Int),()) else (if decide ((a0.2.2.1.length:Int)>(0:Int))=true then some ((1:Int),()) else some ((0:Int),()))) else ((iR n a0.1).bind fun r4=>(if (!r4.1)=true then some ((1:Int),()) else (if decide (a0.2.1=(0:Int))=true then some ((1:Int),()) else some ((0:Int),()))))))))))))
def aap:Entry:=⟨103,[.ro xY],[.val (.int .i64) [] []],fun n c=>mU n c.1⟩
def adn:Hint:=⟨0,[],[],[],[(137,some 7,aao),(78,some 14,OU),(138,some 30,XF),(139,some 55,E_1)],[],[],[],[]⟩
theorem agV:gV T adn Tryz.f103 aap:=by intro n c; kernel_rfl
theorem aie [Fr] (n:Nat):aj Tryz.prog n aap:=ak mixed aK Tryz.func103 (by kernel_rfl) (hi:=adn) (aa (aid n) (aa (QV n) (aa (aep n) (aa (K_1 n) aD)))) agV
def iq (n:Nat) (a0:JN):Option (Int×Unit):=((lY n a0.1).bind fun r1=>(if (!decide (r1.1=(0:Int)))=true then some (r1.1,()) else (if decide ((a0.2.1.length:Int)<(1:Int))=true then some ((2:Int),()) else (if decide ((a0.2.1.length:Int)>(3:Int))=true then some ((2:Int),()) else (rounds (fun L2 (v2:JN×Int×Unit)=>(if decide (v2.2.1<(v2.1.2.1.length:Int))=true then (if aM v2.2.1 v2.1.2.1.length then ((mU n (v2.1.2.1.getD v2.2.1.toNat Lx)).bind fun r3=>(if (!decide (r3.1=(0:Int)))=true then some (r3.1,()) else L2 (v2.1,IntKind.i64.wrap (v2.2.1+(1:Int)),()))) else none) else some ((0:Int),()))) n (a0,(0:Int),()))))))
def aaq:Entry:=⟨49,[.ro Nb],[.val (.int .i64) [] []],fun n c=>iq n c.1⟩
def ado:Hint:=⟨0,[],[(0,[0,4],[])],[],[(40,some 9,aan),(103,some 42,aap)],[],[],[],[]⟩
theorem agW:gV T ado Tryz.f49 aaq:=by intro n c; kernel_rfl
theorem aif [Fr] (n:Nat):aj Tryz.prog n aaq:=ak mixed aK Tryz.func49 (by kernel_rfl) (hi:=ado) (aa (aic n) (aa (aie n) aD)) agW
def mR (n:Nat) (a0:JN):Option (Int×Unit):=((iq n a0).bind fun r1=>some (r1.1,()))
def aar:Entry:=⟨14,[.val Nb []],[.val (.int .i64) [] []],fun n c=>mR n c.1⟩
def adp:Hint:=⟨0,[],[],[],[(49,some 3,aaq)],[],[],[],[]⟩
theorem agX:gV T adp Tryz.f14 aar:=by intro n c; kernel_rfl
theorem aih [Fr] (n:Nat):aj Tryz.prog n aar:=ak mixed aK Tryz.func14 (by kernel_rfl) (hi:=adp) (aa (aif n) aD) agX
def dH (n:Nat) (a0:Int) (a1:Int) (a2:Int):Option (Bool×Unit):=(if decide (a0≥a1)=true then some (decide (a0≤a2),()) else some (false,()))
def Ec:Entry:=⟨51,[.val (.int .i64) [], .val (.int .i64) [], .val (.int .i64) []],[.val .bool [] []],fun n c=>dH n c.1 c.2.1 c.2.2.1⟩
def adq:Hint:=⟨0,[],[],[],[],[],[],[],[]⟩
theorem agY:gV T adq Tryz.f51 Ec:=by intro n c; kernel_rfl
theorem Gy [Fr] (n:Nat):aj Tryz.prog n Ec:=ak mixed aK Tryz.func51 (by kernel_rfl) (hi:=adq) aD agY
def kW (n:Nat) (a0:List Int) (a1:Int):Option (Bool×Unit):=(rounds (fun L1 (v1:(List Int)×Int×Int×Int×Unit)=>(if decide (v1.2.2.2.1<v1.2.2.1)=true then (if aM v1.2.2.2.1 v1.1.length then (if decide ((v1.1.getD v1.2.2.2.1.toNat 0)<(97:Int))=true then some (false,()) else (if aM v1.2.2.2.1 v1.1.length then (if decide ((v1.1.getD v1.2.2.2.1.toNat 0)>(122:Int))=true then some (false,()) else L1 (v1.1,v1.2.1,v1.2.2.1,IntKind.i64.wrap (v1.2.2.2.1+(1:Int)),())) else none)) else none) else (if decide ((v1.1.length:Int)≥(1:Int))=true then some (decide ((v1.1.length:Int)≤v1.2.1),()) else some (false,())))) n (a0,a1,(a0.length:Int),(0:Int),()))
def aas:Entry:=⟨106,[.val .str [], .val (.int .i64) []],[.val .bool [] []],fun n c=>kW n c.1 c.2.1⟩
def adr:Hint:=⟨0,[],[(0,[0,1,7,8],[])],[],[],[],[],[],[]⟩
theorem agZ:gV T adr Tryz.f106 aas:=by intro n c; kernel_rfl
theorem aii [Fr] (n:Nat):aj Tryz.prog n aas:=ak mixed aK Tryz.func106 (by kernel_rfl) (hi:=adr) aD agZ
def iQ (n:Nat) (a0:List Int):Option (Bool×Unit):=((kW n a0 (8:Int)).bind fun r1=>some (r1.1,()))
def R3:Entry:=⟨55,[.val .str []],[.val .bool [] []],fun n c=>iQ n c.1⟩
def ads:Hint:=⟨0,[],[],[],[(106,some 4,aas)],[],[],[],[]⟩
theorem ag0:gV T ads Tryz.f55 R3:=by intro n c; kernel_rfl
theorem XW [Fr] (n:Nat):aj Tryz.prog n R3:=ak mixed aK Tryz.func55 (by kernel_rfl) (hi:=ads) (aa (aii n) aD) ag0
def om (n:Nat) (a0:Int):Option (Bool×Unit):=((dH n a0 (1:Int) (999:Int)).bind fun r1=>some (r1.1,()))
def XL:Entry:=⟨105,[.val (.int .i64) []],[.val .bool [] []],fun n c=>om n c.1⟩
def adt:Hint:=⟨0,[],[],[],[(51,some 4,Ec)],[],[],[],[]⟩
theorem ag1:gV T adt Tryz.f105 XL:=by intro n c; kernel_rfl
theorem aew [Fr] (n:Nat):aj Tryz.prog n XL:=ak mixed aK Tryz.func105 (by kernel_rfl) (hi:=adt) (aa (Gy n) aD) ag1
def fA (n:Nat) (a0:Int):Option (Bool×Unit):=((dH n a0 (0:Int) (15:Int)).bind fun r1=>some (r1.1,()))
def XM:Entry:=⟨155,[.val (.int .i64) []],[.val .bool [] []],fun n c=>fA n c.1⟩
def adu:Hint:=⟨0,[],[],[],[(51,some 4,Ec)],[],[],[],[]⟩
theorem ag2:gV T adu Tryz.f155 XM:=by intro n c; kernel_rfl
theorem aex [Fr] (n:Nat):aj Tryz.prog n XM:=ak mixed aK Tryz.func155 (by kernel_rfl) (hi:=adu) (aa (Gy n) aD) ag2
def gN (n:Nat) (a0:Int):Option (Bool×Unit):=((dH n a0 (0:Int) (9999:Int)).bind fun r1=>some (r1.1,()))
def XN:Entry:=⟨156,[.val (.int .i64) []],[.val .bool [] []],fun n c=>gN n c.1⟩
def adv:Hint:=⟨0,[],[],[],[(51,some 4,Ec)],[],[],[],[]⟩
theorem ag3:gV T adv Tryz.f156 XN:=by intro n c; kernel_rfl
theorem aey [Fr] (n:Nat):aj Tryz.prog n XN:=ak mixed aK Tryz.func156 (by kernel_rfl) (hi:=adv) (aa (Gy n) aD) ag3
def iG (n:Nat) (a0:rV):Option (Int×Unit):=((om n a0.1).bind fun r1=>(if (!r1.1)=true then some ((3:Int),()) else ((fA n a0.2.1).bind fun r2=>(if (!r2.1)=true then some ((3:Int),()) else ((gN n a0.2.2.1).bind fun r3=>(if (!r3.1)=true then some ((3:Int),()) else (if decide ((a0.2.2.2.1.length:Int)>(400:Int))=true then some ((2:Int),()) else some ((0:Int),()))))))))
def aat:Entry:=⟨133,[.val yZ []],[.val (.int .i64) [] []],fun n c=>iG n c.1⟩
def adw:Hint:=⟨0,[],[],[],[(105,some 6,XL),(155,some 11,XM),(156,some 17,XN)],[],[],[],[]⟩
theorem ag4:gV T adw Tryz.f133 aat:=by intro n c; kernel_rfl
theorem aij [Fr] (n:Nat):aj Tryz.prog n aat:=ak mixed aK Tryz.func133 (by kernel_rfl) (hi:=adw) (aa (aew n) (aa (aex n) (aa (aey n) aD))) ag4
def lT (n:Nat) (a0:dX):Option (Int×Unit):=((iQ n a0.1).bind fun r1=>(if (!r1.1)=true then some ((5:Int),()) else ((dH n a0.2.1 (1:Int) (999:Int)).bind fun r2=>(if (!r2.1)=true then some ((3:Int),()) else ((dH n a0.2.2.1 (1:Int) (1000:Int)).bind fun r3=>(if (!r3.1)=true then some ((3:Int),()) else (if decide ((a0.2.2.2.1.length:Int)>(6:Int))=true then some ((2:Int),()) else (rounds (fun L4 (v4:Int×(List rV)×Int×Int×dX×Unit)=>(if decide (v4.2.2.2.1<v4.2.2.1)=true then (if aM v4.2.2.2.1 v4.2.1.length then ((iG n (v4.2.1.getD v4.2.2.2.1.toNat oU)).bind fun r5=>(if (!decide (r5.1=(0:Int)))=true then some (r5.1,()) else (if decide (((v4.2.1.getD v4.2.2.2.1.toNat oU).1)≤v4.1)=true then some ((1:Int),()) else (if decide (((v4.2.1.getD v4.2.2.2.1.toNat oU).1)≥v4.2.2.2.2.1.2.2.1)=true then some ((1:Int),()) else L4 ((v4.2.1.getD v4.2.2.2.1.toNat oU).1,v4.2.1,v4.2.2.1,IntKind.i64.wrap (v4.2.2.2.1+(1:Int)),v4.2.2.2.2.1,()))))) else none) else some ((0:Int),()))) n ((0:Int),a0.2.2.2.1,(a0.2.2.2.1.length:Int),(0:Int),a0,())))))))))
def aau:Entry:=⟨98,[.val nE []],[.val (.int .i64) [] []],fun n c=>lT n c.1⟩
def adx:Hint:=⟨0,[],[(1,[1,3,29,30,31],[34])],[],[(55,some 10,R3),(51,some 15,Ec),(51,some 20,Ec),(133,some 36,aat)],[],[],[],[]⟩
theorem ag5:gV T adx Tryz.f98 aau:=by intro n c; kernel_rfl
theorem aik [Fr] (n:Nat):aj Tryz.prog n aau:=ak mixed aK Tryz.func98 (by kernel_rfl) (hi:=adx) (aa (XW n) (aa (Gy n) (aa (Gy n) (aa (aij n) aD)))) ag5
def jU (n:Nat) (a0:dX) (a1:dX):Option (Bool×Unit):=(if decide (a0.1=a1.1)=true then some (true,()) else some (decide (a0.2.1=a1.2.1),()))
def aav:Entry:=⟨100,[.val nE [], .ro nE],[.val .bool [] []],fun n c=>jU n c.1 c.2.1⟩
def ady:Hint:=⟨0,[],[],[],[],[],[],[],[]⟩
theorem ag6:gV T ady Tryz.f100 aav:=by intro n c; kernel_rfl
theorem ail [Fr] (n:Nat):aj Tryz.prog n aav:=ak mixed aK Tryz.func100 (by kernel_rfl) (hi:=ady) aD ag6
def aX (n:Nat) (a0:List dX) (FO:dX):Option (Int×Unit):=(rounds (fun L1 (v1:(List dX)×dX×Int×Int×Unit)=>(if decide (v1.2.2.2.1<v1.2.2.1)=true then (if aM v1.2.2.2.1 v1.1.length then ((jU n (v1.1.getD v1.2.2.2.1.toNat eX) v1.2.1).bind fun r2=>(if r2.1=true then some (v1.2.2.2.1,()) else L1 (v1.1,v1.2.1,v1.2.2.1,IntKind.i64.wrap (v1.2.2.2.1+(1:Int)),()))) else none) else some ((-1:Int),()))) n (a0,FO,(a0.length:Int),(0:Int),()))
def aaw:Entry:=⟨134,[.val (.sl 114 nE) [], .fn 100 [nE]],[.val (.int .i64) [] []],fun n c=>aX n c.1 c.2.1⟩
def adz:Hint:=⟨0,[],[(0,[0,1,7,8],[])],[],[(100,some 16,aav)],[],[],[],[]⟩
theorem ag7:gV T adz Tryz.f134 aaw:=by intro n c; kernel_rfl
theorem aim [Fr] (n:Nat):aj Tryz.prog n aaw:=ak mixed aK Tryz.func134 (by kernel_rfl) (hi:=adz) (aa (ail n) aD) ag7
def bB (n:Nat) (a0:List dX) (FO:dX):Option (Bool×Unit):=((aX n a0 FO).bind fun r1=>some (decide (r1.1≥(0:Int)),()))
def aax:Entry:=⟨99,[.val (.sl 114 nE) [], .fn 100 [nE]],[.val .bool [] []],fun n c=>bB n c.1 c.2.1⟩
def adA:Hint:=⟨0,[],[],[],[(134,some 7,aaw)],[],[],[],[]⟩
theorem ag8:gV T adA Tryz.f99 aax:=by intro n c; kernel_rfl
theorem ain [Fr] (n:Nat):aj Tryz.prog n aax:=ak mixed aK Tryz.func99 (by kernel_rfl) (hi:=adA) (aa (aim n) aD) ag8
def ig (n:Nat) (a0:gB):Option (Int×Unit):=((dH n a0.1 (1:Int) (1000:Int)).bind fun r1=>(if (!r1.1)=true then some ((3:Int),()) else (if decide ((a0.2.1.length:Int)>(3:Int))=true then some ((2:Int),()) else (rounds (fun L2 (v2:(List dX)×Int×Int×gB×Unit)=>(if decide (v2.2.2.1<v2.2.1)=true then (if aM v2.2.2.1 v2.1.length then ((lT n (v2.1.getD v2.2.2.1.toNat eX)).bind fun r3=>(if (!decide (r3.1=(0:Int)))=true then some (r3.1,()) else (if decide ((((v2.1.getD v2.2.2.1.toNat eX).2).1)≥v2.2.2.2.1.1)=true then some ((9:Int),()) else (if 0≤v2.2.2.1∧v2.2.2.1≤(v2.2.2.2.1.2.1.length:Int) then ((bB n (v2.2.2.2.1.2.1.take v2.2.2.1.toNat) (v2.1.getD v2.2.2.1.toNat eX)).bind fun r4=>(if r4.1=true then some ((6:Int),()) else L2 (v2.1,v2.2.1,IntKind.i64.wrap (v2.2.2.1+(1:Int)),v2.2.2.2.1,()))) else none)))) else none) else some ((0:Int),()))) n (a0.2.1,(a0.2.1.length:Int),(0:Int),a0,())))))
def XO:Entry:=⟨43,[.val qj []],[.val (.int .i64) [] []],fun n c=>ig n c.1⟩
def adB:Hint:=⟨0,[],[(1,[1,17,18,19],[34])],[],[(51,some 9,Ec),(98,some 25,aau),(99,some 41,aax)],[],[],[],[]⟩
theorem ag9:gV T adB Tryz.f43 XO:=by intro n c; kernel_rfl
theorem aez [Fr] (n:Nat):aj Tryz.prog n XO:=ak mixed aK Tryz.func43 (by kernel_rfl) (hi:=adB) (aa (Gy n) (aa (aik n) (aa (ain n) aD))) ag9
def cK (n:Nat) (a0:List Int):Option (Int×Unit):=some ((a0.length:Int),())
def MW:Entry:=⟨75,[.val (.sl 5 (.int .u8)) []],[.val (.int .i64) [] []],fun n c=>cK n c.1⟩
def adC:Hint:=⟨0,[],[],[],[],[],[],[],[]⟩
theorem aha:gV T adC Tryz.f75 MW:=by intro n c; kernel_rfl
theorem R6 [Fr] (n:Nat):aj Tryz.prog n MW:=ak mixed aK Tryz.func75 (by kernel_rfl) (hi:=adC) aD aha
def eT (n:Nat) (a0:Zt1) (a1:Int):Option ((List Int)×Zt1×Unit):=(if a0.2.1=true then (if a1=a1∧0≤a1∧a1 * 1≤140737488355328 then some (List.replicate a1.toNat (0:Int),(a0.1,true,a0.2.2),()) else none) else ((cK n a0.1).bind fun r1=>(if decide (a1>r1.1)=true then (if a1=a1∧0≤a1∧a1 * 1≤140737488355328 then some (List.replicate a1.toNat (0:Int),(a0.1,true,a0.2.2),()) else none) else (if 0≤a1∧a1≤(a0.1.length:Int) then (if 0≤a1∧a1≤(a0.1.length:Int) then some (a0.1.take a1.toNat,(a0.1.drop a1.toNat,a0.2),()) else none) else none))))
def O1:Entry:=⟨146,[.rw Sc [] [4294967295] [5], .val (.int .i64) []],[.val (.sl 5 (.int .u8)) [0] []],fun n c=>eT n c.1 c.2.1⟩
def adD:Hint:=⟨0,[],[],[],[(75,some 16,MW)],[],[],[],[]⟩
theorem ahb:gV T adD Tryz.f146 O1:=by intro n c; kernel_rfl
theorem UO [Fr] (n:Nat):aj Tryz.prog n O1:=ak mixed aK Tryz.func146 (by kernel_rfl) (hi:=adD) (aa (R6 n) aD) ahb
def gI (n:Nat) (a0:Zt1):Option (Int×Zt1×Unit):=((eT n a0 (2:Int)).bind fun r1=>(if aM (0:Int) r1.1.length then (if aM (1:Int) r1.1.length then some (IntKind.i64.wrap ((IntKind.i64.wrap ((IntKind.i64.wrap (r1.1.getD (0:Int).toNat (0:Int))) * (256:Int)))+(IntKind.i64.wrap (r1.1.getD (1:Int).toNat (0:Int)))),r1.2.1,()) else none) else none))
def R4:Entry:=⟨144,[.rw Sc [] [4294967295] [5]],[.val (.int .i64) [] []],fun n c=>gI n c.1⟩
def adE:Hint:=⟨0,[],[],[],[(146,some 5,O1)],[],[],[],[]⟩
theorem ahc:gV T adE Tryz.f144 R4:=by intro n c; kernel_rfl
theorem XY [Fr] (n:Nat):aj Tryz.prog n R4:=ak mixed aK Tryz.func144 (by kernel_rfl) (hi:=adE) (aa (UO n) aD) ahc
def eO (n:Nat) (a0:Zt1):Option (Int×Zt1×Unit):=((eT n a0 (1:Int)).bind fun r1=>(if aM (0:Int) r1.1.length then some (IntKind.i64.wrap (r1.1.getD (0:Int).toNat (0:Int)),r1.2.1,()) else none))
def MX:Entry:=⟨145,[.rw Sc [] [4294967295] [5]],[.val (.int .i64) [] []],fun n c=>eO n c.1⟩
def adF:Hint:=⟨0,[],[],[],[(146,some 4,O1)],[],[],[],[]⟩
theorem ahd:gV T adF Tryz.f145 MX:=by intro n c; kernel_rfl
theorem R7 [Fr] (n:Nat):aj Tryz.prog n MX:=ak mixed aK Tryz.func145 (by kernel_rfl) (hi:=adF) (aa (UO n) aD) ahd
def lU (n:Nat) (a0:gX):Option (Bool×Unit):=(if decide (a0.1=(5:Int))=true then some (true,()) else some (decide (a0.1=(6:Int)),()))
def UB:Entry:=⟨154,[.val jy []],[.val .bool [] []],fun n c=>lU n c.1⟩
def adG:Hint:=⟨0,[],[],[],[],[],[],[],[]⟩
theorem ahe:gV T adG Tryz.f154 UB:=by intro n c; kernel_rfl
theorem aa3 [Fr] (n:Nat):aj Tryz.prog n UB:=ak mixed aK Tryz.func154 (by kernel_rfl) (hi:=adG) aD ahe
def jF (n:Nat) (a0:gX):Option (Bool×Unit):=((lU n a0).bind fun r1=>(if r1.1=true then some (true,()) else some (decide (a0.1=(4:Int)),())))
def aay:Entry:=⟨188,[.val jy []],[.val .bool [] []],fun n c=>jF n c.1⟩
def adH:Hint:=⟨0,[],[],[],[(154,some 4,UB)],[],[],[],[]⟩
theorem ahf:gV T adH Tryz.f188 aay:=by intro n c; kernel_rfl
theorem aip [Fr] (n:Nat):aj Tryz.prog n aay:=ak mixed aK Tryz.func188 (by kernel_rfl) (hi:=adH) (aa (aa3 n) aD) ahf
def oh (n:Nat) (a0:gX):Option (Bool×Unit):=((lU n a0).bind fun r1=>(if r1.1=true then ((jF n a0).bind fun r2=>(if r2.1=true then (if decide (a0.1=(4:Int))=true then (if decide (a0.1=(4:Int))=true then (if decide (a0.1=(3:Int))=true then some (true,()) else (if decide (a0.2.2.2.2.2.2.1=(0:Int))=true then some (decide ((a0.2.2.2.2.2.2.2.1.length:Int)=(0:Int)),()) else some (false,()))) else (if decide (a0.1=(3:Int))=true then (if decide (a0.1=(3:Int))=true then some (true,()) else (if decide (a0.2.2.2.2.2.2.1=(0:Int))=true then some (decide ((a0.2.2.2.2.2.2.2.1.length:Int)=(0:Int)),()) else some (false,()))) else (if decide (a0.2.2.2.2.2.1=(0:Int))=true then (if decide (a0.1=(3:Int))=true then some (true,()) else (if decide (a0.2.2.2.2.2.2.1=(0:Int))=true then some (decide ((a0.2.2.2.2.2.2.2.1.length:Int)=(0:Int)),()) else some (false,()))) else some (false,())))) else (if decide (a0.2.2.2.2.1=(0:Int))=true then (if decide (a0.1=(4:Int))=true then (if decide (a0.1=(3:Int))=true then some (true,()) else (if decide (a0.2.2.2.2.2.2.1=(0:Int))=true then some (decide ((a0.2.2.2.2.2.2.2.1.length:Int)=(0:Int)),()) else some (false,()))) else (if decide (a0.1=(3:Int))=true then (if decide (a0.1=(3:Int))=true then some (true,()) else (if decide (a0.2.2.2.2.2.2.1=(0:Int))=true then some (decide ((a0.2.2.2.2.2.2.2.1.length:Int)=(0:Int)),()) else some (false,()))) else (if decide (a0.2.2.2.2.2.1=(0:Int))=true then (if decide (a0.1=(3:Int))=true then some (true,()) else (if decide (a0.2.2.2.2.2.2.1=(0:Int))=true then some (decide ((a0.2.2.2.2.2.2.2.1.length:Int)=(0:Int)),()) else some (false,()))) else some (false,())))) else some (false,()))) else (if decide ((a0.2.2.2.1.length:Int)=(0:Int))=true then (if decide (a0.1=(4:Int))=true then (if decide (a0.1=(4:Int))=true then (if decide (a0.1=(3:Int))=true then some (true,()) else (if decide (a0.2.2.2.2.2.2.1=(0:Int))=true then some (decide ((a0.2.2.2.2.2.2.2.1.length:Int)=(0:Int)),()) else some (false,()))) else (if decide (a0.1=(3:Int))=true then (if decide (a0.1=(3:Int))=true then some (true,()) else (if decide (a0.2.2.2.2.2.2.1=(0:Int))=true then some (decide ((a0.2.2.2.2.2.2.2.1.length:Int)=(0:Int)),()) else some (false,()))) else (if decide (a0.2.2.2.2.2.1=(0:Int))=true then (if decide (a0.1=(3:Int))=true then some (true,()) else (if decide (a0.2.2.2.2.2.2.1=(0:Int))=true then some (decide ((a0.2.2.2.2.2.2.2.1.length:Int)=(0:Int)),()) else some (false,()))) else some (false,())))) else (if decide (a0.2.2.2.2.1=(0:Int))=true then (if decide (a0.1=(4:Int))=true then (if decide (a0.1=(3:Int))=true then some (true,()) else (if decide (a0.2.2.2.2.2.2.1=(0:Int))=true then some (decide ((a0.2.2.2.2.2.2.2.1.length:Int)=(0:Int)),()) else some (false,()))) else (if decide (a0.1=(3:Int))=true then (if decide (a0.1=(3:Int))=true then some (true,()) else (if decide (a0.2.2.2.2.2.2.1=(0:Int))=true then some (decide ((a0.2.2.2.2.2.2.2.1.length:Int)=(0:Int)),()) else some (false,()))) else (if decide (a0.2.2.2.2.2.1=(0:Int))=true then (if decide (a0.1=(3:Int))=true then some (true,()) else (if decide (a0.2.2.2.2.2.2.1=(0:Int))=true then some (decide ((a0.2.2.2.2.2.2.2.1.length:Int)=(0:Int)),()) else some (false,()))) else some (false,())))) else some (false,()))) else some (false,())))) else (if decide (a0.2.2.1=([]:List Int))=true then ((jF n a0).bind fun r3=>(if r3.1=true then (if decide (a0.1=(4:Int))=true then (if decide (a0.1=(4:Int))=true then (if decide (a0.1=(3:Int))=true then some (true,()) else (if decide (a0.2.2.2.2.2.2.1=(0:Int))=true then some (decide ((a0.2.2.2.2.2.2.2.1.length:Int)=(0:Int)),()) else some (false,()))) else (if decide (a0.1=(3:Int))=true then (if decide (a0.1=(3:Int))=true then some (true,()) else (if decide (a0.2.2.2.2.2.2.1=(0:Int))=true then some (decide ((a0.2.2.2.2.2.2.2.1.length:Int)=(0:Int)),()) else some (false,()))) else (if decide (a0.2.2.2.2.2.1=(0:Int))=true then (if decide (a0.1=(3:Int))=true then some (true,()) else (if decide (a0.2.2.2.2.2.2.1=(0:Int))=true then some (decide ((a0.2.2.2.2.2.2.2.1.length:Int)=(0:Int)),()) else some (false,()))) else some (false,())))) else (if decide (a0.2.2.2.2.1=(0:Int))=true then (if decide (a0.1=(4:Int))=true then (if decide (a0.1=(3:Int))=true then some (true,()) else (if decide (a0.2.2.2.2.2.2.1=(0:Int))=true then some (decide ((a0.2.2.2.2.2.2.2.1.length:Int)=(0:Int)),()) else some (false,()))) else (if decide (a0.1=(3:Int))=true then (if decide (a0.1=(3:Int))=true then some (true,()) else (if decide (a0.2.2.2.2.2.2.1=(0:Int))=true then some (decide ((a0.2.2.2.2.2.2.2.1.length:Int)=(0:Int)),()) else some (false,()))) else (if decide (a0.2.2.2.2.2.1=(0:Int))=true then (if decide (a0.1=(3:Int))=true then some (true,()) else (if decide (a0.2.2.2.2.2.2.1=(0:Int))=true then some (decide ((a0.2.2.2.2.2.2.2.1.length:Int)=(0:Int)),()) else some (false,()))) else some (false,())))) else some (false,()))) else (if decide ((a0.2.2.2.1.length:Int)=(0:Int))=true then (if decide (a0.1=(4:Int))=true then (if decide (a0.1=(4:Int))=true then (if decide (a0.1=(3:Int))=true then some (true,()) else (if decide (a0.2.2.2.2.2.2.1=(0:Int))=true then some (decide ((a0.2.2.2.2.2.2.2.1.length:Int)=(0:Int)),()) else some (false,()))) else (if decide (a0.1=(3:Int))=true then (if decide (a0.1=(3:Int))=true then some (true,()) else (if decide (a0.2.2.2.2.2.2.1=(0:Int))=true then some (decide ((a0.2.2.2.2.2.2.2.1.length:Int)=(0:Int)),()) else some (false,()))) else (if decide (a0.2.2.2.2.2.1=(0:Int))=true then (if decide (a0.1=(3:Int))=true then some (true,()) else (if decide (a0.2.2.2.2.2.2.1=(0:Int))=true then some (decide ((a0.2.2.2.2.2.2.2.1.length:Int)=(0:Int)),()) else some (false,()))) else some (false,())))) else (if decide (a0.2.2.2.2.1=(0:Int))=true then (if decide (a0.1=(4:Int))=true then (if decide (a0.1=(3:Int))=true then some (true,()) else (if decide (a0.2.2.2.2.2.2.1=(0:Int))=true then some (decide ((a0.2.2.2.2.2.2.2.1.length:Int)=(0:Int)),()) else some (false,()))) else (if decide (a0.1=(3:Int))=true then (if decide (a0.1=(3:Int))=true then some (true,()) else (if decide (a0.2.2.2.2.2.2.1=(0:Int))=true then some (decide ((a0.2.2.2.2.2.2.2.1.length:Int)=(0:Int)),()) else some (false,()))) else (if decide (a0.2.2.2.2.2.1=(0:Int))=true then (if decide (a0.1=(3:Int))=true then some (true,()) else (if decide (a0.2.2.2.2.2.2.1=(0:Int))=true then some (decide ((a0.2.2.2.2.2.2.2.1.length:Int)=(0:Int)),()) else some (false,()))) else some (false,())))) else some (false,()))) else some (false,())))) else some (false,()))))
def aaz:Entry:=⟨153,[.val jy []],[.val .bool [] []],fun n c=>oh n c.1⟩
def adI:Hint:=⟨0,[],[],[],[(154,some 12,UB),(188,some 20,aay)],[],[],[],[]⟩
theorem ahg:gV T adI Tryz.f153 aaz:=by intro n c; kernel_rfl
theorem aiq [Fr] (n:Nat):aj Tryz.prog n aaz:=ak mixed aK Tryz.func153 (by kernel_rfl) (hi:=adI) (aa (aa3 n) (aa (aip n) aD)) ahg
def j5 (n:Nat) (a0:List Int):Option (Bool×Unit):=(rounds (fun L1 (v1:(List Int)×(List Int)×Int×Int×Unit)=>(if decide (v1.2.2.2.1<v1.2.2.1)=true then (if aM v1.2.2.2.1 v1.2.1.length then ((om n (v1.2.1.getD v1.2.2.2.1.toNat (0:Int))).bind fun r2=>(if (!r2.1)=true then some (false,()) else (if decide (v1.2.2.2.1>(0:Int))=true then (if aM (IntKind.i64.wrap (v1.2.2.2.1 - (1:Int))) v1.1.length then (if decide ((v1.1.getD (IntKind.i64.wrap (v1.2.2.2.1 - (1:Int))).toNat (0:Int))≥(v1.2.1.getD v1.2.2.2.1.toNat (0:Int)))=true then some (false,()) else L1 (v1.1,v1.2.1,v1.2.2.1,IntKind.i64.wrap (v1.2.2.2.1+(1:Int)),())) else none) else L1 (v1.1,v1.2.1,v1.2.2.1,IntKind.i64.wrap (v1.2.2.2.1+(1:Int)),())))) else none) else some (true,()))) n (a0,a0,(a0.length:Int),(0:Int),()))
def XP:Entry:=⟨54,[.val (.sl 2 (.int .i64)) []],[.val .bool [] []],fun n c=>j5 n c.1⟩
def adJ:Hint:=⟨0,[],[(0,[0,5,6,7],[])],[],[(105,some 13,XL)],[],[],[],[]⟩
theorem ahh:gV T adJ Tryz.f54 XP:=by intro n c; kernel_rfl
theorem aeA [Fr] (n:Nat):aj Tryz.prog n XP:=ak mixed aK Tryz.func54 (by kernel_rfl) (hi:=adJ) (aa (aew n) aD) ahh
def nL (n:Nat) (a0:gX):Option (Int×Unit):=((dH n a0.1 (1:Int) (7:Int)).bind fun r1=>(if (!r1.1)=true then some ((1:Int),()) else ((oh n a0).bind fun r2=>(if (!r2.1)=true then some ((1:Int),()) else ((iQ n a0.2.1).bind fun r3=>(if (!r3.1)=true then some ((5:Int),()) else ((lU n a0).bind fun r4=>(if r4.1=true then ((iQ n a0.2.2.1).bind fun r5=>(if (!r5.1)=true then some ((5:Int),()) else (if decide ((a0.2.2.2.1.length:Int)>(6:Int))=true then some ((2:Int),()) else ((j5 n a0.2.2.2.1).bind fun r6=>(if (!r6.1)=true then some ((3:Int),()) else (if decide (a0.1=(4:Int))=true then ((dH n a0.2.2.2.2.1 (1:Int) (3:Int)).bind fun r7=>(if (!r7.1)=true then some ((3:Int),()) else ((fA n a0.2.2.2.2.2.1).bind fun r8=>(if (!r8.1)=true then some ((3:Int),()) else ((gN n a0.2.2.2.2.2.2.1).bind fun r9=>(if (!r9.1)=true then some ((3:Int),()) else (if decide ((a0.2.2.2.2.2.2.2.1.length:Int)>(400:Int))=true then some ((2:Int),()) else some ((0:Int),())))))))) else ((fA n a0.2.2.2.2.2.1).bind fun Oz=>(if (!Oz.1)=true then some ((3:Int),()) else ((gN n a0.2.2.2.2.2.2.1).bind fun MB=>(if (!MB.1)=true then some ((3:Int),()) else (if decide ((a0.2.2.2.2.2.2.2.1.length:Int)>(400:Int))=true then some ((2:Int),()) else some ((0:Int),())))))))))))) else (if decide ((a0.2.2.2.1.length:Int)>(6:Int))=true then some ((2:Int),()) else ((j5 n a0.2.2.2.1).bind fun KS=>(if (!KS.1)=true then some ((3:Int),()) else (if decide (a0.1=(4:Int))=true then ((dH n a0.2.2.2.2.1 (1:Int) (3:Int)).bind fun OY=>(if (!OY.1)=true then some ((3:Int),()) else ((fA n a0.2.2.2.2.2.1).bind fun YS=>(if (!YS.1)=true then some ((3:Int),()) else ((gN n a0.2.2.2.2.2.2.1).bind fun Uo=>(if (!Uo.1)=true then some ((3:Int),()) else (if decide ((a0.2.2.2.2.2.2.2.1.length:Int)>(400:Int))=true then some ((2:Int),()) else some ((0:Int),())))))))) else ((fA n a0.2.2.2.2.2.1).bind fun r16=>(if (!r16.1)=true then some ((3:Int),()) else ((gN n a0.2.2.2.2.2.2.1).bind fun r17=>(if (!r17.1)=true then some ((3:Int),()) else (if decide ((a0.2.2.2.2.2.2.2.1.length:Int)>(400:Int))=true then some ((2:Int),()) else some ((0:Int),()))))))))))))))))))
def XQ:Entry:=⟨117,[.val jy []],[.val (.int .i64) [] []],fun n c=>nL n c.1⟩
def adK:Hint:=⟨0,[],[],[],[(51,some 6,Ec),(153,some 10,aaz),(55,some 16,R3),(154,some 20,UB),(55,some 24,R3),(54,some 36,XP),(51,some 45,Ec),(155,some 52,XM),(156,some 58,XN)],[],[],[],[]⟩
theorem ahi:gV T adK Tryz.f117 XQ:=by intro n c; kernel_rfl
theorem aeB [Fr] (n:Nat):aj Tryz.prog n XQ:=ak mixed aK Tryz.func117 (by kernel_rfl) (hi:=adK) (aa (Gy n) (aa (aiq n) (aa (XW n) (aa (aa3 n) (aa (XW n) (aa (aeA n) (aa (Gy n) (aa (aex n) (aa (aey n) aD))))))))) ahi
def nN (n:Nat) (a0:Int):Option ((List Int)×Unit):=(if (256:Int)≠0 then (if (256:Int)≠0 then some ([IntKind.u8.wrap (IntKind.i64.wrap (a0.tdiv (256:Int))),IntKind.u8.wrap (a0.tmod (256:Int))],()) else none) else none)
def O3:Entry:=⟨164,[.val (.int .i64) []],[.own (.sl 5 (.int .u8)) [5] [] []],fun n c=>nN n c.1⟩
def adL:Hint:=⟨0,[],[],[],[],[],[],[],[]⟩
theorem ahj:gV T adL Tryz.f164 O3:=by intro n c; kernel_rfl
theorem UQ [Fr] (n:Nat):aj Tryz.prog n O3:=ak mixed aK Tryz.func164 (by kernel_rfl) (hi:=adL) aD ahj
def uT (n:Nat) (a0:List Int):Option (Int×Unit):=(rounds (fun L1 (v1:Int×(List Int)×Int×Int×Unit)=>(if decide (v1.2.2.2.1<v1.2.2.1)=true then (if aM v1.2.2.2.1 v1.2.1.length then (if (65521:Int)≠0 then L1 ((IntKind.i64.wrap ((IntKind.i64.wrap (v1.1 * (31:Int)))+(IntKind.i64.wrap (v1.2.1.getD v1.2.2.2.1.toNat (0:Int))))).tmod (65521:Int),v1.2.1,v1.2.2.1,IntKind.i64.wrap (v1.2.2.2.1+(1:Int)),()) else none) else none) else some (v1.1,()))) n ((1:Int),a0,(a0.length:Int),(0:Int),()))
def aaA:Entry:=⟨165,[.val (.sl 5 (.int .u8)) []],[.val (.int .i64) [] []],fun n c=>uT n c.1⟩
def adM:Hint:=⟨0,[],[(0,[3,6,7,8],[])],[],[],[],[],[],[]⟩
theorem ahk:gV T adM Tryz.f165 aaA:=by intro n c; kernel_rfl
theorem air [Fr] (n:Nat):aj Tryz.prog n aaA:=ak mixed aK Tryz.func165 (by kernel_rfl) (hi:=adM) aD ahk
def tq (n:Nat) (a0:gX):Option ((List Int)×Unit):=(if ([IntKind.u8.wrap a0.1,IntKind.u8.wrap (a0.2.1.length:Int)].length+a0.2.1.length) * 1≤140737488355328 then (if (([IntKind.u8.wrap a0.1,IntKind.u8.wrap (a0.2.1.length:Int)]++a0.2.1).length+[IntKind.u8.wrap (a0.2.2.1.length:Int)].length) * 1≤140737488355328 then (if ((([IntKind.u8.wrap a0.1,IntKind.u8.wrap (a0.2.1.length:Int)]++a0.2.1)++[IntKind.u8.wrap (a0.2.2.1.length:Int)]).length+a0.2.2.1.length) * 1≤140737488355328 then (if (((([IntKind.u8.wrap a0.1,IntKind.u8.wrap (a0.2.1.length:Int)]++a0.2.1)++[IntKind.u8.wrap (a0.2.2.1.length:Int)])++a0.2.2.1).length+[IntKind.u8.wrap (a0.2.2.2.1.length:Int)].length) * 1≤140737488355328 then (rounds (fun L1 (v1:(List Int)×Int×Int×gX×(List Int)×Unit)=>(if decide (v1.2.2.1<v1.2.1)=true then (if aM v1.2.2.1 v1.1.length then ((nN n (v1.1.getD v1.2.2.1.toNat (0:Int))).bind fun r2=>(if (v1.2.2.2.2.1.length+r2.1.length) * 1≤140737488355328 then L1 (v1.1,v1.2.1,IntKind.i64.wrap (v1.2.2.1+(1:Int)),v1.2.2.2.1,v1.2.2.2.2.1++r2.1,()) else none)) else none) else (if (v1.2.2.2.2.1.length+[IntKind.u8.wrap v1.2.2.2.1.2.2.2.2.1,IntKind.u8.wrap v1.2.2.2.1.2.2.2.2.2.1].length) * 1≤140737488355328 then ((nN n v1.2.2.2.1.2.2.2.2.2.2.1).bind fun r3=>(if ((v1.2.2.2.2.1++[IntKind.u8.wrap v1.2.2.2.1.2.2.2.2.1,IntKind.u8.wrap v1.2.2.2.1.2.2.2.2.2.1]).length+r3.1.length) * 1≤140737488355328 then ((cK n v1.2.2.2.1.2.2.2.2.2.2.2.1).bind fun r4=>((nN n r4.1).bind fun r5=>(if (((v1.2.2.2.2.1++[IntKind.u8.wrap v1.2.2.2.1.2.2.2.2.1,IntKind.u8.wrap v1.2.2.2.1.2.2.2.2.2.1])++r3.1).length+r5.1.length) * 1≤140737488355328 then (if ((((v1.2.2.2.2.1++[IntKind.u8.wrap v1.2.2.2.1.2.2.2.2.1,IntKind.u8.wrap v1.2.2.2.1.2.2.2.2.2.1])++r3.1)++r5.1).length+v1.2.2.2.1.2.2.2.2.2.2.2.1.length) * 1≤140737488355328 then ((cK n ((((v1.2.2.2.2.1++[IntKind.u8.wrap v1.2.2.2.1.2.2.2.2.1,IntKind.u8.wrap v1.2.2.2.1.2.2.2.2.2.1])++r3.1)++r5.1)++v1.2.2.2.1.2.2.2.2.2.2.2.1)).bind fun r6=>((nN n (IntKind.i64.wrap (r6.1+(4:Int)))).bind fun r7=>(if (r7.1.length+((((v1.2.2.2.2.1++[IntKind.u8.wrap v1.2.2.2.1.2.2.2.2.1,IntKind.u8.wrap v1.2.2.2.1.2.2.2.2.2.1])++r3.1)++r5.1)++v1.2.2.2.1.2.2.2.2.2.2.2.1).length) * 1≤140737488355328 then ((uT n (r7.1++((((v1.2.2.2.2.1++[IntKind.u8.wrap v1.2.2.2.1.2.2.2.2.1,IntKind.u8.wrap v1.2.2.2.1.2.2.2.2.2.1])++r3.1)++r5.1)++v1.2.2.2.1.2.2.2.2.2.2.2.1))).bind fun r8=>((nN n r8.1).bind fun r9=>(if ((r7.1++((((v1.2.2.2.2.1++[IntKind.u8.wrap v1.2.2.2.1.2.2.2.2.1,IntKind.u8.wrap v1.2.2.2.1.2.2.2.2.2.1])++r3.1)++r5.1)++v1.2.2.2.1.2.2.2.2.2.2.2.1)).length+r9.1.length) * 1≤140737488355328 then some ((r7.1++((((v1.2.2.2.2.1++[IntKind.u8.wrap v1.2.2.2.1.2.2.2.2.1,IntKind.u8.wrap v1.2.2.2.1.2.2.2.2.2.1])++r3.1)++r5.1)++v1.2.2.2.1.2.2.2.2.2.2.2.1))++r9.1,()) else none))) else none))) else none) else none))) else none)) else none))) n (a0.2.2.2.1,(a0.2.2.2.1.length:Int),(0:Int),a0,((([IntKind.u8.wrap a0.1,IntKind.u8.wrap (a0.2.1.length:Int)]++a0.2.1)++[IntKind.u8.wrap (a0.2.2.1.length:Int)])++a0.2.2.1)++[IntKind.u8.wrap (a0.2.2.2.1.length:Int)],())) else none) else none) else none) else none)
def aaB:Entry:=⟨122,[.val jy []],[.own (.sl 5 (.int .u8)) [5] [] []],fun n c=>tq n c.1⟩
def adN:Hint:=⟨0,[],[(0,[1,3,37,38,39],[34,450])],[],[(164,some 45,O3),(164,some 60,O3),(75,some 64,MW),(164,some 65,O3),(75,some 72,MW),(164,some 74,O3),(165,some 79,aaA),(164,some 80,O3)],[],[],[],[]⟩
theorem ahl:gV T adN Tryz.f122 aaB:=by intro n c; kernel_rfl
theorem ais [Fr] (n:Nat):aj Tryz.prog n aaB:=ak mixed aK Tryz.func122 (by kernel_rfl) (hi:=adN) (aa (UQ n) (aa (UQ n) (aa (R6 n) (aa (UQ n) (aa (R6 n) (aa (UQ n) (aa (air n) (aa (UQ n) aD)))))))) ahl
def xM (n:Nat) (a0:List Int) (a1:List Int):Option (Bool×Unit):=some (decide (a0=a1),())
def aaC:Entry:=⟨147,[.val (.sl 5 (.int .u8)) [], .val (.sl 5 (.int .u8)) []],[.val .bool [] []],fun n c=>xM n c.1 c.2.1⟩
def adO:Hint:=⟨0,[],[],[],[],[],[],[],[]⟩
theorem ahm:gV T adO Tryz.f147 aaC:=by intro n c; kernel_rfl
theorem ait [Fr] (n:Nat):aj Tryz.prog n aaC:=ak mixed aK Tryz.func147 (by kernel_rfl) (hi:=adO) aD ahm
def o7 (n:Nat) (a0:List Int):Option (gX×Int×Unit):=((gI n (a0,false,())).bind fun r1=>(if r1.2.1.2.1=true then some (Di,(0:Int),()) else ((cK n a0).bind fun r2=>(if decide (r1.1>r2.1)=true then some (Di,(0:Int),()) else (if 0≤(2:Int)∧(2:Int)≤(if r1.1>(2:Int) then r1.1 else (2:Int))∧(if r1.1>(2:Int) then r1.1 else (2:Int))≤(a0.length:Int) then ((eO n ((a0.take (if r1.1>(2:Int) then r1.1 else (2:Int)).toNat).drop (2:Int).toNat,r1.2.1.2)).bind fun r3=>((eO n r3.2.1).bind fun r4=>((eT n r4.2.1 r4.1).bind fun r5=>((eO n r5.2.1).bind fun r6=>((eT n r6.2.1 r6.1).bind fun r7=>((eO n r7.2.1).bind fun r8=>(rounds (fun L9 (v9:(List Int)×Int×Int×Int×gX×gX×Zt1×Unit)=>(if decide (v9.2.2.2.1<v9.2.2.1)=true then ((gI n v9.2.2.2.2.2.2.1).bind fun Oz=>(if (v9.2.2.2.2.2.1.2.2.2.1.length+[Oz.1].length) * 8≤140737488355328 then L9 (v9.1,v9.2.1,v9.2.2.1,IntKind.i64.wrap (v9.2.2.2.1+(1:Int)),v9.2.2.2.2.1,(v9.2.2.2.2.2.1.1,v9.2.2.2.2.2.1.2.1,v9.2.2.2.2.2.1.2.2.1,v9.2.2.2.2.2.1.2.2.2.1++[Oz.1],v9.2.2.2.2.2.1.2.2.2.2),Oz.2.1,()) else none)) else ((eO n v9.2.2.2.2.2.2.1).bind fun MB=>((eO n MB.2.1).bind fun KS=>((gI n KS.2.1).bind fun OY=>((gI n OY.2.1).bind fun YS=>((eT n YS.2.1 YS.1).bind fun Uo=>(if (([]:List Int).length+Uo.1.length) * 1≤140737488355328 then (if Uo.2.1.2.1=true then some (Di,(0:Int),()) else ((nL n (v9.2.2.2.2.2.1.1,v9.2.2.2.2.2.1.2.1,v9.2.2.2.2.2.1.2.2.1,v9.2.2.2.2.2.1.2.2.2.1,MB.1,KS.1,OY.1,([]:List Int)++Uo.1,v9.2.2.2.2.2.1.2.2.2.2.2.2.2.2)).bind fun r16=>(if (!decide (r16.1=(0:Int)))=true then some (Di,(0:Int),()) else ((tq n (v9.2.2.2.2.2.1.1,v9.2.2.2.2.2.1.2.1,v9.2.2.2.2.2.1.2.2.1,v9.2.2.2.2.2.1.2.2.2.1,MB.1,KS.1,OY.1,([]:List Int)++Uo.1,v9.2.2.2.2.2.1.2.2.2.2.2.2.2.2)).bind fun r17=>(if 0≤v9.2.1∧v9.2.1≤(v9.1.length:Int) then ((xM n r17.1 (v9.1.take v9.2.1.toNat)).bind fun r18=>(if (!r18.1)=true then some (Di,(0:Int),()) else some ((v9.2.2.2.2.2.1.1,v9.2.2.2.2.2.1.2.1,v9.2.2.2.2.2.1.2.2.1,v9.2.2.2.2.2.1.2.2.2.1,MB.1,KS.1,OY.1,([]:List Int)++Uo.1,v9.2.2.2.2.2.1.2.2.2.2.2.2.2.2),v9.2.1,()))) else none))))) else none)))))))) n (a0,r1.1,r8.1,(0:Int),Di,(r3.1,r5.1,r7.1,([]:List Int),(0:Int),(0:Int),(0:Int),([]:List Int),()),r8.2.1,())))))))) else none)))))
def aaD:Entry:=⟨111,[.val (.sl 5 (.int .u8)) []],[.own jy [2,5] [] [], .val (.int .i64) [] []],fun n c=>o7 n c.1⟩
def adP:Hint:=⟨0,[50,92],[(0,[0,2,4,5,6,46,47],[66,194,290])],[],[(144,some 11,R4),(75,some 19,MW),(145,some 31,MX),(145,some 35,MX),(146,some 36,O1),(145,some 41,MX),(146,some 42,O1),(145,some 46,MX),(144,some 52,R4),(145,some 58,MX),(145,some 61,MX),(144,some 64,R4),(144,some 69,R4),(146,some 70,O1),(117,some 79,XQ),(122,some 84,aaB),(147,some 88,aaC)],[],[],[],[]⟩
theorem ahn:gV T adP Tryz.f111 aaD:=by intro n c; kernel_rfl
theorem aiv [Fr] (n:Nat):aj Tryz.prog n aaD:=ak mixed aK Tryz.func111 (by kernel_rfl) (hi:=adP) (aa (XY n) (aa (R6 n) (aa (R7 n) (aa (R7 n) (aa (UO n) (aa (R7 n) (aa (UO n) (aa (R7 n) (aa (XY n) (aa (R7 n) (aa (R7 n) (aa (XY n) (aa (XY n) (aa (UO n) (aa (aeB n) (aa (ais n) (aa (ait n) aD))))))))))))))))) ahn
def nM (n:Nat) (a0:List Int):Option ((List gX)×Int×Unit):=(rounds (fun L1 (v1:(List Int)×Int×(List gX)×Unit)=>(if 0≤v1.2.1∧v1.2.1≤(v1.1.length:Int) then ((o7 n (v1.1.drop v1.2.1.toNat)).bind fun r2=>(if decide (r2.2.1=(0:Int))=true then some (v1.2.2.1,v1.2.1,()) else (if (v1.2.2.1.length+[r2.1].length) * 112≤140737488355328 then L1 (v1.1,IntKind.i64.wrap (v1.2.1+r2.2.1),v1.2.2.1++[r2.1],()) else none))) else none)) n (a0,(0:Int),([]:List gX),()))
def XR:Entry:=⟨62,[.val (.sl 5 (.int .u8)) []],[.own (.sl 72 jy) [2,5,72] [] [], .val (.int .i64) [] []],fun n c=>nM n c.1⟩
def adQ:Hint:=⟨0,[21],[(0,[0,4,5],[258])],[],[(111,some 13,aaD)],[],[],[],[]⟩
theorem aho:gV T adQ Tryz.f62 XR:=by intro n c; kernel_rfl
theorem aeC [Fr] (n:Nat):aj Tryz.prog n XR:=ak mixed aK Tryz.func62 (by kernel_rfl) (hi:=adQ) (aa (aiv n) aD) aho
def j4 (n:Nat) (a0:JM):Option ((List gX)×Bool×Unit):=((nM n a0.2.1).bind fun r1=>((nM n a0.2.2.1).bind fun r2=>(if (r1.1.length+r2.1.length) * 112≤140737488355328 then ((cK n a0.2.1).bind fun r3=>(if decide (r1.2.1=r3.1)=true then ((cK n a0.2.2.1).bind fun r4=>some (r1.1++r2.1,decide (r2.2.1=r4.1),())) else some (r1.1++r2.1,false,()))) else none)))
def aaE:Entry:=⟨44,[.val GZ []],[.own (.sl 72 jy) [2,5,72] [] [], .val .bool [] []],fun n c=>j4 n c.1⟩
def adR:Hint:=⟨0,[],[],[],[(62,some 11,XR),(62,some 17,XR),(75,some 26,MW),(75,some 32,MW)],[],[],[],[]⟩
theorem ahp:gV T adR Tryz.f44 aaE:=by intro n c; kernel_rfl
theorem aiw [Fr] (n:Nat):aj Tryz.prog n aaE:=ak mixed aK Tryz.func44 (by kernel_rfl) (hi:=adR) (aa (aeC n) (aa (aeC n) (aa (R6 n) (aa (R6 n) aD)))) ahp
def uS (n:Nat)  : Option (gB×Unit):=some (((1:Int),([]:List dX),()),())
def aaF:Entry:=⟨45,[],[.own qj [5,114,117] [] []],fun n c=>uS n⟩
def adS:Hint:=⟨0,[],[],[],[],[],[],[],[]⟩
theorem ahq:gV T adS Tryz.f45 aaF:=by intro n c; kernel_rfl
theorem aix [Fr] (n:Nat):aj Tryz.prog n aaF:=ak mixed aK Tryz.func45 (by kernel_rfl) (hi:=adS) aD ahq
def dP (n:Nat) (a0:List Int):Option ((List Int)×Unit):=(if a0.isEmpty=true then (Zi [(.sl 5 (.int .u8))] (some (([]:List Int),())) (if (([]:List Int).length+a0.length) * 1≤140737488355328 then some (([]:List Int)++a0,()) else none)) else (if (([]:List Int).length+a0.length) * 1≤140737488355328 then some (([]:List Int)++a0,()) else none))
def UC:Entry:=⟨63,[.val (.sl 5 (.int .u8)) []],[.own (.sl 5 (.int .u8)) [5] [] []],fun n c=>dP n c.1⟩
def adT:Hint:=⟨0,[],[],[],[],[],[],[],[]⟩
theorem ahr:gV T adT Tryz.f63 UC:=by intro n c; kernel_rfl
theorem aa4 [Fr] (n:Nat):aj Tryz.prog n UC:=ak mixed aK Tryz.func63 (by kernel_rfl) (hi:=adT) aD ahr
def jZ (n:Nat) (a0:gB):Option (gB×Unit):=(rounds (fun L1 (v1:(List dX)×Int×Int×gB×gB×Unit)=>(if decide (v1.2.2.1<v1.2.1)=true then (if aM v1.2.2.1 v1.1.length then (rounds (fun L2 (v2:(List dX)×Int×Int×(List rV)×Int×Int×gB×gB×dX×Unit)=>(if decide (v2.2.2.2.2.2.1<v2.2.2.2.2.1)=true then (if aM v2.2.2.2.2.2.1 v2.2.2.2.1.length then ((dP n (((((v2.2.2.2.1.getD v2.2.2.2.2.2.1.toNat oU).2).2).2).1)).bind fun r3=>(if (v2.2.2.2.2.2.2.2.2.1.2.2.2.1.length+[((v2.2.2.2.1.getD v2.2.2.2.2.2.1.toNat oU).1,((v2.2.2.2.1.getD v2.2.2.2.2.2.1.toNat oU).2).1,(((v2.2.2.2.1.getD v2.2.2.2.2.2.1.toNat oU).2).2).1,r3.1,((((v2.2.2.2.1.getD v2.2.2.2.2.2.1.toNat oU).2).2).2).2)].length) * 48≤140737488355328 then L2 (v2.1,v2.2.1,v2.2.2.1,v2.2.2.2.1,v2.2.2.2.2.1,IntKind.i64.wrap (v2.2.2.2.2.2.1+(1:Int)),v2.2.2.2.2.2.2.1,v2.2.2.2.2.2.2.2.1,(v2.2.2.2.2.2.2.2.2.1.1,v2.2.2.2.2.2.2.2.2.1.2.1,v2.2.2.2.2.2.2.2.2.1.2.2.1,v2.2.2.2.2.2.2.2.2.1.2.2.2.1++[((v2.2.2.2.1.getD v2.2.2.2.2.2.1.toNat oU).1,((v2.2.2.2.1.getD v2.2.2.2.2.2.1.toNat oU).2).1,(((v2.2.2.2.1.getD v2.2.2.2.2.2.1.toNat oU).2).2).1,r3.1,((((v2.2.2.2.1.getD v2.2.2.2.2.2.1.toNat oU).2).2).2).2)],v2.2.2.2.2.2.2.2.2.1.2.2.2.2),()) else none)) else none) else (if (v2.2.2.2.2.2.2.2.1.2.1.length+[v2.2.2.2.2.2.2.2.2.1].length) * 56≤140737488355328 then L1 (v2.1,v2.2.1,IntKind.i64.wrap (v2.2.2.1+(1:Int)),v2.2.2.2.2.2.2.1,(v2.2.2.2.2.2.2.2.1.1,v2.2.2.2.2.2.2.2.1.2.1++[v2.2.2.2.2.2.2.2.2.1],v2.2.2.2.2.2.2.2.1.2.2),()) else none))) n (v1.1,v1.2.1,v1.2.2.1,((((v1.1.getD v1.2.2.1.toNat eX).2).2).2).1,((((((v1.1.getD v1.2.2.1.toNat eX).2).2).2).1).length:Int),(0:Int),v1.2.2.2.1,v1.2.2.2.2.1,((v1.1.getD v1.2.2.1.toNat eX).1,((v1.1.getD v1.2.2.1.toNat eX).2).1,(((v1.1.getD v1.2.2.1.toNat eX).2).2).1,([]:List rV),()),())) else none) else some (v1.2.2.2.2.1,()))) n (a0.2.1,(a0.2.1.length:Int),(0:Int),Nc,(a0.1,([]:List dX),()),()))
def XT:Entry:=⟨79,[.val qj []],[.own qj [5,114,117] [] []],fun n c=>jZ n c.1⟩
def adU:Hint:=⟨0,[38,39,45,46,51],[(0,[2,3,13,14,15],[66,98]),(2,[2,3,6,13,14,15,27,28,29],[66,98,194])],[],[(63,some 35,UC)],[],[],[],[]⟩
theorem ahs:gV T adU Tryz.f79 XT:=by intro n c; kernel_rfl
theorem aeD [Fr] (n:Nat):aj Tryz.prog n XT:=ak mixed aK Tryz.func79 (by kernel_rfl) (hi:=adU) (aa (aa4 n) aD) ahs
def qg (n:Nat) (a0:dX) (a1:List Int):Option (Bool×Unit):=some (decide (a0.1=a1),())
def aaG:Entry:=⟨189,[.val nE [], .ro .str],[.val .bool [] []],fun n c=>qg n c.1 c.2.1⟩
def adV:Hint:=⟨0,[],[],[],[],[],[],[],[]⟩
theorem aht:gV T adV Tryz.f189 aaG:=by intro n c; kernel_rfl
theorem aiy [Fr] (n:Nat):aj Tryz.prog n aaG:=ak mixed aK Tryz.func189 (by kernel_rfl) (hi:=adV) aD aht
def bW (n:Nat) (a0:List dX) (FO:List Int):Option (Int×Unit):=(rounds (fun L1 (v1:(List dX)×(List Int)×Int×Int×Unit)=>(if decide (v1.2.2.2.1<v1.2.2.1)=true then (if aM v1.2.2.2.1 v1.1.length then ((qg n (v1.1.getD v1.2.2.2.1.toNat eX) v1.2.1).bind fun r2=>(if r2.1=true then some (v1.2.2.2.1,()) else L1 (v1.1,v1.2.1,v1.2.2.1,IntKind.i64.wrap (v1.2.2.2.1+(1:Int)),()))) else none) else some ((-1:Int),()))) n (a0,FO,(a0.length:Int),(0:Int),()))
def aaH:Entry:=⟨134,[.val (.sl 114 nE) [], .fn 189 [.str]],[.val (.int .i64) [] []],fun n c=>bW n c.1 c.2.1⟩
def adW:Hint:=⟨0,[],[(0,[0,1,7,8],[])],[],[(189,some 16,aaG)],[],[],[],[]⟩
theorem ahu:gV T adW Tryz.f134 aaH:=by intro n c; kernel_rfl
theorem aiz [Fr] (n:Nat):aj Tryz.prog n aaH:=ak mixed aK Tryz.func134 (by kernel_rfl) (hi:=adW) (aa (aiy n) aD) ahu
def iV (n:Nat) (a0:gB) (a1:List Int):Option (Int×Unit):=((bW n a0.2.1 a1).bind fun r1=>some (r1.1,()))
def UD:Entry:=⟨158,[.val qj [], .val .str []],[.val (.int .i64) [] []],fun n c=>iV n c.1 c.2.1⟩
def adX:Hint:=⟨0,[],[],[],[(134,some 8,aaH)],[],[],[],[]⟩
theorem ahv:gV T adX Tryz.f158 UD:=by intro n c; kernel_rfl
theorem aa5 [Fr] (n:Nat):aj Tryz.prog n UD:=ak mixed aK Tryz.func158 (by kernel_rfl) (hi:=adX) (aa (aiz n) aD) ahv
def mM (n:Nat) (a0:gB) (a1:List Int):Option (Int×gB×Unit):=((iV n a0 a1).bind fun r1=>(if decide (r1.1≥(0:Int))=true then some ((6:Int),a0,()) else (if decide ((a0.2.1.length:Int)=(3:Int))=true then some ((10:Int),a0,()) else (if decide (a0.1=(1000:Int))=true then some ((10:Int),a0,()) else (if (a0.2.1.length+[(a1,a0.1,(1:Int),([]:List rV),())].length) * 56≤140737488355328 then some ((0:Int),(IntKind.i64.wrap (a0.1+(1:Int)),a0.2.1++[(a1,a0.1,(1:Int),([]:List rV),())],a0.2.2),()) else none)))))
def aaI:Entry:=⟨157,[.rw qj [5,114,117] [5,114,117,4294967295] [5,114,117], .val .str []],[.val (.int .i64) [] []],fun n c=>mM n c.1 c.2.1⟩
def adY:Hint:=⟨0,[30],[],[],[(158,some 10,UD)],[],[],[],[]⟩
theorem ahw:gV T adY Tryz.f157 aaI:=by intro n c; kernel_rfl
theorem aiA [Fr] (n:Nat):aj Tryz.prog n aaI:=ak mixed aK Tryz.func157 (by kernel_rfl) (hi:=adY) (aa (aa5 n) aD) ahw
namespace O6
def Xu:Ul:={ ty:=[(2,(.int .i64)),(3,(.int .i64)),(4, .bool),(5,(.int .u8)),(6,(.int .u8)),(7,Xz),(8,Xz),(9, .str),(10, .str),(11, .str),(12,(.int .u64)),(13,Xx),(14,Xx),(21,(.int .i32)),(22,(.sl 5 (.int .u8))),(23,(.sl 168 GX)),(24,Pf),(25,Pf),(26,Ph),(27,Ph),(30,(.sl 114 Zk4)),(31,Zk9),(32,Zk9),(33,Yd),(34,Yd),(38,(.sl 139 xY)),(39,Pj),(40,Pj),(43,(.sl 91 xY)),(44,aeN),(45,aeN),(49,(.sl 2 (.int .i64))),(50,aeM),(51,aeM),(60,(.sl 72 jy)),(61,JK),(62,JK),(64,aeL),(65,aeL),(71,jy),(72,jy),(90,xY),(91,xY),(112,(.sl 117 yZ)),(113,Zk4),(114,Zk4),(116,yZ),(117,yZ),(139,xY),(145,GY),(146,GY),(152,Xy),(153,Xy),(155,(.sl 22 (.sl 5 (.int .u8)))),(166,(.sl 227 yZ)),(167,GX),(168,GX),(180,Sc),(181,Sc),(194,(.sl 9 .str)),(203,Sg),(204,Sg),(227,yZ),(245,(.int .u32)),(246,(.int .u8)),(247,(.int .u8)),(250,(.int .i32)),(251,(.int .i32))],bytes:=[(2,8),(3,8),(4,1),(5,1),(6,1),(7,24),(8,24),(9,16),(10,16),(11,16),(12,8),(13,24),(14,24),(21,4),(22,24),(23,24),(24,32),(25,32),(26,88),(27,88),(30,24),(31,32),(32,32),(33,88),(34,88),(38,24),(39,112),(40,112),(43,24),(44,112),(45,112),(49,24),(50,120),(51,120),(60,24),(61,40),(62,40),(64,64),(65,64),(71,112),(72,112),(90,56),(91,56),(112,24),(113,56),(114,56),(116,48),(117,48),(139,56),(145,128),(146,128),(152,32),(153,32),(155,24),(166,24),(167,56),(168,56),(180,32),(181,32),(194,24),(203,40),(204,40),(227,48),(245,4),(246,1),(247,1),(250,4),(251,4)],ptr:=[15,16,17,77,86,104,121,131,141,170,179,199,206,249],ids:=true }
def T:iX:=Xu.tab
theorem aK:Bl Tryz.prog Xu=true:=by kernel_rfl
theorem mixed:Tryz.prog.follows .mixedOrders=true:=by kernel_rfl
def bO (n:Nat) (a0:List Zt4) (a1:Int) (a2:Int):Option Zt9:=(if 0≤a1∧a1≤a2∧a2≤(a0.length:Int)∧(a0.length:Int)≤(a0.length:Int) then (if decide (a1=a2)=true then some (((a0.length:Nat):Int),a0,()) else (if 0≤(0:Int)∧(0:Int)≤a1∧a1≤(a0.length:Int) then (if 0≤a2∧a2≤(a0.length:Int)∧(a0.length:Int)≤(a0.length:Int) then (if a1.toNat≤a2.toNat then (if 0≤(((a1.toNat+((a0.length:Int).toNat - a2.toNat)) - 0:Nat):Int)∧(((a1.toNat+((a0.length:Int).toNat - a2.toNat)) - 0:Nat):Int)≤(a0.length:Int)∧((0:Nat):Int)+(a0.length:Int)≤((a0.take a1.toNat++(a0.take ((a0.length:Int).toNat)).drop a2.toNat++a0.drop (a1.toNat+((a0.length:Int).toNat - a2.toNat))).length:Int) then some ((((a1.toNat+((a0.length:Int).toNat - a2.toNat)):Nat):Int),(a0.take a1.toNat++(a0.take ((a0.length:Int).toNat)).drop a2.toNat++a0.drop (a1.toNat+((a0.length:Int).toNat - a2.toNat))).take (0+(((a1.toNat+((a0.length:Int).toNat - a2.toNat)) - 0:Nat):Int).toNat)++List.replicate ((0+(a0.length:Int).toNat) - (0+(((a1.toNat+((a0.length:Int).toNat - a2.toNat)) - 0:Nat):Int).toNat)) (([]:List Int),(0:Int),(0:Int),(0:Nat),())++(a0.take a1.toNat++(a0.take ((a0.length:Int).toNat)).drop a2.toNat++a0.drop (a1.toNat+((a0.length:Int).toNat - a2.toNat))).drop (0+(a0.length:Int).toNat),()) else none) else none) else none) else none)) else none)
def UE:Entry:=⟨159,[.jR (.sl 114 Zk4) [5,114,117] [114], .val (.int .i64) [], .val (.int .i64) []],[.into 0 []],fun n c=>bO n c.1 c.2.1 c.2.2.1⟩
def adZ:Hint:=⟨0,[],[],[],[],[],[],[13,22,25,26,29,31],[]⟩
theorem ahx:gV T adZ Tryz.f159 UE:=by intro n c; kernel_rfl
theorem aa6 [Fr] (n:Nat):aj Tryz.prog n UE:=ak mixed aK Tryz.func159 (by kernel_rfl) (hi:=adZ) aD ahx
end O6
def ZM:List dL:=[.jR (.sl 114 nE) [5,114,117] [114], .val (.int .i64) [], .val (.int .i64) []]
def af0:List nP:=[.into 0 []]
def bO (n:Nat) (a0:List dX) (a1:Int) (a2:Int):Option (Int×List dX×Unit):=kT.H7 eX a0 a1 a2
def UE:Entry:=⟨159,ZM,af0,fun n (c:Cont (kin ZM))=>bO n c.1 c.2.1 c.2.2.1⟩
theorem aa6 [Fr] (n:Nat):aj Tryz.prog n UE:=kT.LP (k0:=.str) (kk:=yZ) (e:=117) (t:=114) (ow:=[5,114,117]) (wt:=[114]) (rU:=[114]) (d0:=([]:List Int)) (FI:=O6.bO) (by simp [K.tys,aJ]) (by simp [K.tys,aJ]) (by simp [K.tys,aJ]) (fun fr=>O6.aa6 n) (by simp [lN,aJ]) (fun _ _ _=>⟨rfl,rfl⟩) (fun xs i j h=>kT.PN _ xs i j h)
def qK (n:Nat) (a0:dX) (a1:rV):Option (Int×dX×Unit):=((dP n a1.2.2.2.1).bind fun r1=>(if [(a0.2.2.1,a1.2.1,a1.2.2.1,r1.1,())].length=1∧(a0.2.2.2.1.length+1) * 48≤140737488355328 then some (IntKind.i64.wrap ((IntKind.i64.wrap (a0.2.2.1+(1:Int))) - (1:Int)),(a0.1,a0.2.1,IntKind.i64.wrap (a0.2.2.1+(1:Int)),a0.2.2.2.1++[[(a0.2.2.1,a1.2.1,a1.2.2.1,r1.1,())].getD 0 oU],a0.2.2.2.2),()) else none))
def aaJ:Entry:=⟨160,[.rw nE [5,117] [117,4294967295] [5,117], .val yZ []],[.val (.int .i64) [] []],fun n c=>qK n c.1 c.2.1⟩
def ad1:Hint:=⟨0,[9],[],[],[(63,some 20,UC)],[],[],[],[23]⟩
theorem ahy:gV T ad1 Tryz.f160 aaJ:=by intro n c; kernel_rfl
theorem aiB [Fr] (n:Nat):aj Tryz.prog n aaJ:=ak mixed aK Tryz.func160 (by kernel_rfl) (hi:=ad1) (aa (aa4 n) aD) ahy
def eB (n:Nat) (a0:List Int) (a1:Int):Option (Int×Unit):=(rounds (fun L1 (v1:(List Int)×Int×Int×Int×Unit)=>(if decide (v1.2.2.2.1<v1.2.2.1)=true then (if aM v1.2.2.2.1 v1.1.length then (if decide (v1.2.1=(v1.1.getD v1.2.2.2.1.toNat (0:Int)))=true then some (v1.2.2.2.1,()) else L1 (v1.1,v1.2.1,v1.2.2.1,IntKind.i64.wrap (v1.2.2.2.1+(1:Int)),())) else none) else some ((-1:Int),()))) n (a0,a1,(a0.length:Int),(0:Int),()))
def O4:Entry:=⟨206,[.val (.sl 2 (.int .i64)) [], .val (.int .i64) []],[.val (.int .i64) [] []],fun n c=>eB n c.1 c.2.1⟩
def UK:Hint:=⟨0,[],[(0,[0,1,7,8],[])],[],[],[],[],[],[]⟩
theorem Z0:gV T UK Tryz.f206 O4:=by intro n c; kernel_rfl
theorem aa7 [Fr] (n:Nat):aj Tryz.prog n O4:=ak mixed aK Tryz.func206 (by kernel_rfl) (hi:=UK) aD Z0
def aV (n:Nat) (a0:List Int) (a1:Int):Option (Bool×Unit):=((eB n a0 a1).bind fun r1=>some (decide (r1.1≥(0:Int)),()))
def MZ:Entry:=⟨190,[.val (.sl 2 (.int .i64)) [], .val (.int .i64) []],[.val .bool [] []],fun n c=>aV n c.1 c.2.1⟩
def UL:Hint:=⟨0,[],[],[],[(206,some 7,O4)],[],[],[],[]⟩
theorem Z4:gV T UL Tryz.f190 MZ:=by intro n c; kernel_rfl
theorem XZ [Fr] (n:Nat):aj Tryz.prog n MZ:=ak mixed aK Tryz.func190 (by kernel_rfl) (hi:=UL) (aa (aa7 n) aD) Z4
def kU (n:Nat) (a0:dX) (a1:gX):Option ((List Int)×dX×Unit):=(rounds (fun L1 (v1:Int×Int×dX×gX×(List Int)×Unit)=>(if decide (v1.2.1<v1.1)=true then (if aM v1.2.1 v1.2.2.1.2.2.2.1.length then ((aV n v1.2.2.2.1.2.2.2.1 ((v1.2.2.1.2.2.2.1.getD v1.2.1.toNat oU).1)).bind fun r2=>(if (!r2.1)=true then L1 (v1.1,IntKind.i64.wrap (v1.2.1+(1:Int)),v1.2.2.1,v1.2.2.2.1,v1.2.2.2.2.1,()) else (if (v1.2.2.2.2.1.length+[(v1.2.2.1.2.2.2.1.getD v1.2.1.toNat oU).1].length) * 8≤140737488355328 then (if decide (v1.2.2.2.1.2.2.2.2.1=(1:Int))=true then L1 (v1.1,IntKind.i64.wrap (v1.2.1+(1:Int)),(v1.2.2.1.1,v1.2.2.1.2.1,v1.2.2.1.2.2.1,(CE v1.2.2.1.2.2.2.1 v1.2.1.toNat oU fun z1=>(z1.1,v1.2.2.2.1.2.2.2.2.2.1,z1.2.2)),v1.2.2.1.2.2.2.2),v1.2.2.2.1,v1.2.2.2.2.1++[(v1.2.2.1.2.2.2.1.getD v1.2.1.toNat oU).1],()) else (if decide (v1.2.2.2.1.2.2.2.2.1=(2:Int))=true then L1 (v1.1,IntKind.i64.wrap (v1.2.1+(1:Int)),(v1.2.2.1.1,v1.2.2.1.2.1,v1.2.2.1.2.2.1,(CE v1.2.2.1.2.2.2.1 v1.2.1.toNat oU fun z1=>(z1.1,IntKind.i64.wrap ((BitVec.ofInt (IntKind.bits .i64) (((v1.2.2.1.2.2.2.1.getD v1.2.1.toNat oU).2).1) ||| BitVec.ofInt (IntKind.bits .i64) v1.2.2.2.1.2.2.2.2.2.1).toNat),z1.2.2)),v1.2.2.1.2.2.2.2),v1.2.2.2.1,v1.2.2.2.2.1++[(v1.2.2.1.2.2.2.1.getD v1.2.1.toNat oU).1],()) else L1 (v1.1,IntKind.i64.wrap (v1.2.1+(1:Int)),(v1.2.2.1.1,v1.2.2.1.2.1,v1.2.2.1.2.2.1,(CE v1.2.2.1.2.2.2.1 v1.2.1.toNat oU fun z1=>(z1.1,IntKind.i64.wrap ((BitVec.ofInt (IntKind.bits .i64) (((v1.2.2.1.2.2.2.1.getD v1.2.1.toNat oU).2).1) &&& ~~~ BitVec.ofInt (IntKind.bits .i64) v1.2.2.2.1.2.2.2.2.2.1).toNat),z1.2.2)),v1.2.2.1.2.2.2.2),v1.2.2.2.1,v1.2.2.2.2.1++[(v1.2.2.1.2.2.2.1.getD v1.2.1.toNat oU).1],()))) else none))) else none) else some (v1.2.2.2.2.1,v1.2.2.1,()))) n ((a0.2.2.2.1.length:Int),(0:Int),a0,a1,([]:List Int),()))
def aaK:Entry:=⟨161,[.rw nE [5,117] [117] [], .val jy []],[.own (.sl 2 (.int .i64)) [2] [] []],fun n c=>kU n c.1 c.2.1⟩
def ad2:Hint:=⟨0,[20],[(0,[0,3,5,13,14],[0,98,258])],[],[(190,some 29,MZ)],[],[],[],[]⟩
theorem ahz:gV T ad2 Tryz.f161 aaK:=by intro n c; kernel_rfl
theorem aiC [Fr] (n:Nat):aj Tryz.prog n aaK:=ak mixed aK Tryz.func161 (by kernel_rfl) (hi:=ad2) (aa (XZ n) aD) ahz
namespace IdP
def Xu:Ul:={ ty:=[(2,(.int .i64)),(3,(.int .i64)),(4, .bool),(5,(.int .u8)),(6,(.int .u8)),(7,Xz),(8,Xz),(9, .str),(10, .str),(11, .str),(12,(.int .u64)),(13,Xx),(14,Xx),(21,(.int .i32)),(22,(.sl 5 (.int .u8))),(23,(.sl 168 JJ)),(24,Pe),(25,Pe),(26,Pg),(27,Pg),(30,(.sl 114 FN)),(31,M9),(32,M9),(33,Na),(34,Na),(38,(.sl 139 xY)),(39,Sk),(40,Sk),(43,(.sl 91 xY)),(44,Sj),(45,Sj),(49,(.sl 2 (.int .i64))),(50,Si),(51,Si),(60,(.sl 72 jy)),(61,JK),(62,JK),(64,Sd),(65,Sd),(71,jy),(72,jy),(90,xY),(91,xY),(112,(.sl 117 JL)),(113,FN),(114,FN),(116,JL),(117,JL),(139,xY),(145,GY),(146,GY),(152,Xy),(153,Xy),(155,(.sl 22 (.sl 5 (.int .u8)))),(166,(.sl 227 JL)),(167,JJ),(168,JJ),(180,Sc),(181,Sc),(194,(.sl 9 .str)),(203,Sg),(204,Sg),(227,JL),(245,(.int .u32)),(246,(.int .u8)),(247,(.int .u8)),(250,(.int .i32)),(251,(.int .i32))],bytes:=[(2,8),(3,8),(4,1),(5,1),(6,1),(7,24),(8,24),(9,16),(10,16),(11,16),(12,8),(13,24),(14,24),(21,4),(22,24),(23,24),(24,32),(25,32),(26,88),(27,88),(30,24),(31,32),(32,32),(33,88),(34,88),(38,24),(39,112),(40,112),(43,24),(44,112),(45,112),(49,24),(50,120),(51,120),(60,24),(61,40),(62,40),(64,64),(65,64),(71,112),(72,112),(90,56),(91,56),(112,24),(113,56),(114,56),(116,48),(117,48),(139,56),(145,128),(146,128),(152,32),(153,32),(155,24),(166,24),(167,56),(168,56),(180,32),(181,32),(194,24),(203,40),(204,40),(227,48),(245,4),(246,1),(247,1),(250,4),(251,4)],ptr:=[15,16,17,77,86,104,121,131,141,170,179,199,206,249],ids:=true }
def T:iX:=Xu.tab
theorem aK:Bl Tryz.prog Xu=true:=by kernel_rfl
theorem mixed:Tryz.prog.follows .mixedOrders=true:=by kernel_rfl
def fP (n:Nat) (a0:Sl):Option ((List Int)×Sl×Unit):=(rounds (fun L1 (v1:(List Lu)×Int×Int×Sl×(List Int)×(List Lu)×Unit)=>(if decide (v1.2.2.1<v1.2.1)=true then (if aM v1.2.2.1 v1.1.length then (if (!decide ((IntKind.i64.wrap ((BitVec.ofInt (IntKind.bits .i64) (((v1.1.getD v1.2.2.1.toNat Lv).2).1) &&& BitVec.ofInt (IntKind.bits .i64) (8:Int)).toNat))=(0:Int)))=true then (if (v1.2.2.2.2.1.length+[(v1.1.getD v1.2.2.1.toNat Lv).1].length) * 8≤140737488355328 then L1 (v1.1,v1.2.1,IntKind.i64.wrap (v1.2.2.1+(1:Int)),v1.2.2.2.1,v1.2.2.2.2.1++[(v1.1.getD v1.2.2.1.toNat Lv).1],v1.2.2.2.2.2.1,()) else none) else (if (v1.2.2.2.2.2.1.length+[v1.1.getD v1.2.2.1.toNat Lv].length) * 48≤140737488355328 then L1 (v1.1,v1.2.1,IntKind.i64.wrap (v1.2.2.1+(1:Int)),v1.2.2.2.1,v1.2.2.2.2.1,v1.2.2.2.2.2.1++[v1.1.getD v1.2.2.1.toNat Lv],()) else none)) else none) else some (v1.2.2.2.2.1,(v1.2.2.2.1.1,v1.2.2.2.1.2.1,v1.2.2.2.1.2.2.1,v1.2.2.2.2.2.1,v1.2.2.2.1.2.2.2.2),()))) n (a0.2.2.2.1,(a0.2.2.2.1.length:Int),(0:Int),a0,([]:List Int),([]:List Lu),()))
def UF:Entry:=⟨162,[.rw FN [5,117] [4294967295] [117]],[.own (.sl 2 (.int .i64)) [2] [] []],fun n c=>fP n c.1⟩
def ad3:Hint:=⟨0,[],[(0,[0,3,4,12,13,14],[0,226,258])],[],[],[],[],[],[]⟩
theorem ahA:gV T ad3 Tryz.f162 UF:=by intro n c; kernel_rfl
theorem aa8 [Fr] (n:Nat):aj Tryz.prog n UF:=ak mixed aK Tryz.func162 (by kernel_rfl) (hi:=ad3) aD ahA
end IdP
def fP (n:Nat) (a0:List Int×Int×Int×List jJ.yY×Unit):Option (List Int×(List Int×Int×Int×List jJ.yY×Unit)×Unit):=jJ.x8 n a0
def ZN:List dL:=[.rw nE [5,117] [4294967295,5] [117,4294967294]]
def af1:List nP:=[.own (.sl 2 (.int .i64)) [2] [] []]
def UF:Entry:=⟨162,ZN,af1,fun n (c:Cont (kin ZN))=>fP n c.1⟩
def aaX (x:Lu):Bool:=!decide ((IntKind.i64.wrap ((BitVec.ofInt (IntKind.bits .i64) (x.2.1) &&& BitVec.ofInt (IntKind.bits .i64) (8:Int)).toNat))=(0:Int))
theorem ahS {n:Nat} {nm:List Int} {w h:Int} {xs:List Lu} (hc:xs.length * 48≤140737488355328) (hn:xs.length<n):IdP.fP n (nm,w,h,xs,())=some ((xs.filter aaX).map (·.1),(nm,w,h,xs.filter (fun x=>!aaX x),()),()):=
 QY.TS (xs:=xs) (p:=aaX) (g:=(·.1)) (d:=Lv) (sc:=8) (sa:=48) (a0:=(nm,w,h,xs,()))
  (fin:=fun a cs ks=>(cs,(a.1,a.2.1,a.2.2.1,ks,a.2.2.2.2),())) (fun _ _=>rfl) (by have:=hc; omega) (by have:=hc; omega) hc hn
theorem aa8 [Fr] (n:Nat):aj Tryz.prog n UF:=jJ.Mx (e:=5) (m:=117) (i:=2) (FI:=fun n c=>IdP.fP n c.1) (fun fr=>IdP.aa8 n) (fun nm w h xs hc hn=>ahS hc hn)
def dZ (n:Nat) (a0:List rV):Option (Int×Unit):=some ((a0.length:Int),())
def aaL:Entry:=⟨191,[.val (.sl 117 yZ) []],[.val (.int .i64) [] []],fun n c=>dZ n c.1⟩
def ad4:Hint:=⟨0,[],[],[],[],[],[],[],[]⟩
theorem ahB:gV T ad4 Tryz.f191 aaL:=by intro n c; kernel_rfl
theorem aiD [Fr] (n:Nat):aj Tryz.prog n aaL:=ak mixed aK Tryz.func191 (by kernel_rfl) (hi:=ad4) aD ahB
def jE (n:Nat) (a0:dX) (a1:rV):Option (Int×dX×Unit):=((dP n a1.2.2.2.1).bind fun r1=>(if [(a0.2.2.1,a1.2.1,a1.2.2.1,r1.1,())].length=1∧(a0.2.2.2.1.length+1) * 48≤140737488355328 then some (IntKind.i64.wrap ((IntKind.i64.wrap (a0.2.2.1+(1:Int))) - (1:Int)),(a0.1,a0.2.1,IntKind.i64.wrap (a0.2.2.1+(1:Int)),a0.2.2.2.1++[[(a0.2.2.1,a1.2.1,a1.2.2.1,r1.1,())].getD 0 oU],a0.2.2.2.2),()) else none))
def aaM:Entry:=⟨160,[.rw nE [5,117] [117,4294967295] [5,117], .val yZ [0]],[.val (.int .i64) [] []],fun n c=>jE n c.1 c.2.1⟩
def ad5:Hint:=⟨0,[9],[],[],[(63,some 20,UC)],[],[],[],[23]⟩
theorem ahC:gV T ad5 Tryz.f160 aaM:=by intro n c; kernel_rfl
theorem aiE [Fr] (n:Nat):aj Tryz.prog n aaM:=ak mixed aK Tryz.func160 (by kernel_rfl) (hi:=ad5) (aa (aa4 n) aD) ahC
namespace vQ
def Xu:Ul:={ ty:=[(2,(.int .i64)),(3,(.int .i64)),(4, .bool),(5,(.int .u8)),(6,(.int .u8)),(7,Xz),(8,Xz),(9, .str),(10, .str),(11, .str),(12,(.int .u64)),(13,Xx),(14,Xx),(21,(.int .i32)),(22,(.sl 5 (.int .u8))),(23,(.sl 168 JJ)),(24,Pe),(25,Pe),(26,Pg),(27,Pg),(30,(.sl 114 FN)),(31,M9),(32,M9),(33,Na),(34,Na),(38,(.sl 139 xY)),(39,Sk),(40,Sk),(43,(.sl 91 xY)),(44,Sj),(45,Sj),(49,(.sl 2 (.int .i64))),(50,Si),(51,Si),(60,(.sl 72 jy)),(61,JK),(62,JK),(64,Sd),(65,Sd),(71,jy),(72,jy),(90,xY),(91,xY),(112,(.sl 117 JL)),(113,FN),(114,FN),(116,JL),(117,JL),(139,xY),(145,GY),(146,GY),(152,Xy),(153,Xy),(155,(.sl 22 (.sl 5 (.int .u8)))),(166,(.sl 227 JL)),(167,JJ),(168,JJ),(180,Sc),(181,Sc),(194,(.sl 9 .str)),(203,Sg),(204,Sg),(227,JL),(245,(.int .u32)),(246,(.int .u8)),(247,(.int .u8)),(250,(.int .i32)),(251,(.int .i32))],bytes:=[(2,8),(3,8),(4,1),(5,1),(6,1),(7,24),(8,24),(9,16),(10,16),(11,16),(12,8),(13,24),(14,24),(21,4),(22,24),(23,24),(24,32),(25,32),(26,88),(27,88),(30,24),(31,32),(32,32),(33,88),(34,88),(38,24),(39,112),(40,112),(43,24),(44,112),(45,112),(49,24),(50,120),(51,120),(60,24),(61,40),(62,40),(64,64),(65,64),(71,112),(72,112),(90,56),(91,56),(112,24),(113,56),(114,56),(116,48),(117,48),(139,56),(145,128),(146,128),(152,32),(153,32),(155,24),(166,24),(167,56),(168,56),(180,32),(181,32),(194,24),(203,40),(204,40),(227,48),(245,4),(246,1),(247,1),(250,4),(251,4)],ptr:=[15,16,17,77,86,104,121,131,141,170,179,199,206,249],ids:=true }
def T:iX:=Xu.tab
theorem aK:Bl Tryz.prog Xu=true:=by kernel_rfl
theorem mixed:Tryz.prog.follows .mixedOrders=true:=by kernel_rfl
def eB (n:Nat) (a0:List Int) (a1:Int):Option (Int×Unit):=(rounds (fun L1 (v1:(List Int)×Int×Int×Int×Unit)=>(if decide (v1.2.2.2.1<v1.2.2.1)=true then (if aM v1.2.2.2.1 v1.1.length then (if decide (v1.2.1=(v1.1.getD v1.2.2.2.1.toNat (0:Int)))=true then some (v1.2.2.2.1,()) else L1 (v1.1,v1.2.1,v1.2.2.1,IntKind.i64.wrap (v1.2.2.2.1+(1:Int)),())) else none) else some ((-1:Int),()))) n (a0,a1,(a0.length:Int),(0:Int),()))
def O4:Entry:=⟨206,[.val (.sl 2 (.int .i64)) [], .val (.int .i64) []],[.val (.int .i64) [] []],fun n c=>eB n c.1 c.2.1⟩
def UK:Hint:=⟨0,[],[(0,[0,1,7,8],[])],[],[],[],[],[],[]⟩
theorem Z0:gV T UK Tryz.f206 O4:=by intro n c; kernel_rfl
theorem aa7 [Fr] (n:Nat):aj Tryz.prog n O4:=ak mixed aK Tryz.func206 (by kernel_rfl) (hi:=UK) aD Z0
def aV (n:Nat) (a0:List Int) (a1:Int):Option (Bool×Unit):=((eB n a0 a1).bind fun r1=>some (decide (r1.1≥(0:Int)),()))
def MZ:Entry:=⟨190,[.val (.sl 2 (.int .i64)) [], .val (.int .i64) []],[.val .bool [] []],fun n c=>aV n c.1 c.2.1⟩
def UL:Hint:=⟨0,[],[],[],[(206,some 7,O4)],[],[],[],[]⟩
theorem Z4:gV T UL Tryz.f190 MZ:=by intro n c; kernel_rfl
theorem XZ [Fr] (n:Nat):aj Tryz.prog n MZ:=ak mixed aK Tryz.func190 (by kernel_rfl) (hi:=UL) (aa (aa7 n) aD) Z4
def eY (n:Nat) (a0:Lu) (a1:gX):Option (Bool×Unit):=((aV n a1.2.2.2.1 a0.1).bind fun r1=>some (r1.1,()))
def XU:Entry:=⟨193,[.val JL [], .ro jy],[.val .bool [] []],fun n c=>eY n c.1 c.2.1⟩
def ad6:Hint:=⟨0,[],[],[],[(190,some 8,MZ)],[],[],[],[]⟩
theorem ahD:gV T ad6 Tryz.f193 XU:=by intro n c; kernel_rfl
theorem aeE [Fr] (n:Nat):aj Tryz.prog n XU:=ak mixed aK Tryz.func193 (by kernel_rfl) (hi:=ad6) (aa (XZ n) aD) ahD
def aY (n:Nat) (a0:List Lu) (FO:gX):Option (Int×Unit):=(rounds (fun L1 (v1:(List Lu)×gX×Int×Int×Unit)=>(if decide (v1.2.2.2.1<v1.2.2.1)=true then (if aM v1.2.2.2.1 v1.1.length then ((eY n (v1.1.getD v1.2.2.2.1.toNat Lv) v1.2.1).bind fun r2=>(if r2.1=true then some (v1.2.2.2.1,()) else L1 (v1.1,v1.2.1,v1.2.2.1,IntKind.i64.wrap (v1.2.2.2.1+(1:Int)),()))) else none) else some ((-1:Int),()))) n (a0,FO,(a0.length:Int),(0:Int),()))
def aaN:Entry:=⟨207,[.val (.sl 117 JL) [], .fn 193 [jy]],[.val (.int .i64) [] []],fun n c=>aY n c.1 c.2.1⟩
def ad7:Hint:=⟨0,[],[(0,[0,1,7,8],[])],[],[(193,some 16,XU)],[],[],[],[]⟩
theorem ahE:gV T ad7 Tryz.f207 aaN:=by intro n c; kernel_rfl
theorem aiG [Fr] (n:Nat):aj Tryz.prog n aaN:=ak mixed aK Tryz.func207 (by kernel_rfl) (hi:=ad7) (aa (aeE n) aD) ahE
def aF (n:Nat) (a0:List Lu) (FO:gX):Option (Int×(List Lu)×Unit):=((aY n a0 FO).bind fun r1=>(if decide (r1.1=(-1:Int))=true then some (((a0.length:Nat):Int),a0,()) else (rounds (fun L2 (v2:gX×Int×Int×(List Lu)×Unit)=>(if decide (v2.2.2.1<(v2.2.2.2.1.length:Int))=true then (if aM v2.2.2.1 v2.2.2.2.1.length then ((eY n (v2.2.2.2.1.getD v2.2.2.1.toNat Lv) v2.1).bind fun r3=>(if (!r3.1)=true then (if aM v2.2.1 v2.2.2.2.1.length then L2 (v2.1,IntKind.i64.wrap (v2.2.1+(1:Int)),IntKind.i64.wrap (v2.2.2.1+(1:Int)),v2.2.2.2.1.set v2.2.1.toNat (v2.2.2.2.1.getD v2.2.2.1.toNat Lv),()) else none) else L2 (v2.1,v2.2.1,IntKind.i64.wrap (v2.2.2.1+(1:Int)),v2.2.2.2.1,()))) else none) else (if 0≤v2.2.1∧v2.2.1≤(v2.2.2.2.1.length:Int)∧(v2.2.2.2.1.length:Int)≤(v2.2.2.2.1.length:Int) then (if 0≤(0:Int)∧(0:Int)≤v2.2.1∧v2.2.1≤((v2.2.2.2.1.take v2.2.1.toNat++List.replicate ((v2.2.2.2.1.length:Int).toNat - v2.2.1.toNat) Lv++v2.2.2.2.1.drop ((v2.2.2.2.1.length:Int).toNat)).length:Int) then some (((v2.2.1.toNat:Nat):Int),v2.2.2.2.1.take v2.2.1.toNat++List.replicate ((v2.2.2.2.1.length:Int).toNat - v2.2.1.toNat) Lv++v2.2.2.2.1.drop ((v2.2.2.2.1.length:Int).toNat),()) else none) else none))) n (FO,r1.1,IntKind.i64.wrap (r1.1+(1:Int)),a0,()))))
def UG:Entry:=⟨192,[.jR (.sl 117 JL) [5,117] [117], .fn 193 [jy]],[.into 0 []],fun n c=>aF n c.1 c.2.1⟩
def ad8:Hint:=⟨0,[],[(0,[0,1,5,6],[0])],[],[(207,some 10,aaN),(193,some 28,XU)],[],[],[38,41],[]⟩
theorem ahF:gV T ad8 Tryz.f192 UG:=by intro n c; kernel_rfl
theorem aa9 [Fr] (n:Nat):aj Tryz.prog n UG:=ak mixed aK Tryz.func192 (by kernel_rfl) (hi:=ad8) (aa (aiG n) (aa (aeE n) aD)) ahF
end vQ
def ZO:List dL:=[.jR (.sl 117 yZ) [5,117] [117], .fn 193 [jy]]
def af2:List nP:=[.into 0 []]
def aF (n:Nat) (a0:List rV) (FO:gX):Option (Int×List rV×Unit):=kT.Ed n a0 FO
def UG:Entry:=⟨192,ZO,af2,fun n (c:Cont (kin ZO))=>aF n c.1 c.2.1⟩
theorem ahT {n:Nat} {xs:List kT.X0} {op:kT.OpC} (hx:xs.length≤140737488355328) (hn:xs.length<n) (hb:op.2.2.2.1.length≤140737488355328) (hu:op.2.2.2.1.length<n):vQ.aF n xs op=some (kT.Fa (0,0,0,0,()) (fun x=>op.2.2.2.1.contains x.1) xs):=by
 have hc:∀x,vQ.eY n x op=some (op.2.2.2.1.contains x.1,()):=fun x=>by
  have h:vQ.aV n op.2.2.2.1 x.1=some (op.2.2.2.1.contains x.1,()):=kT.LZ (fun _ _=>rfl) hb hu
  show (vQ.aV n op.2.2.2.1 x.1).bind _=_
  rw [h]; rfl
 have hi:vQ.aY n xs op=some (_,()):=kT.IM (p:=fun x=>op.2.2.2.1.contains x.1) (q:=fun c x=>vQ.eY n x c) (d:=(0,0,0,0,())) (fun _ _=>rfl) hc hx hn
 show (vQ.aY n xs op).bind _=_
 rw [hi]
 exact kT.SG (p:=fun x=>op.2.2.2.1.contains x.1) (q:=fun c x=>vQ.eY n x c) (d:=(0,0,0,0,())) (fun _ _=>rfl) hc hx hn
theorem aa9 [Fr] (n:Nat):aj Tryz.prog n UG:=kT.JQ (e:=5) (t:=117) (i:=2) (b:=5) (cl:=193) (ow:=[5,117]) (wt:=[117]) (rU:=[117]) (FI:=vQ.aF) (by simp [K.tys,aJ]) (by simp [K.tys,aJ]) (by simp [K.tys,aJ]) (fun fr=>vQ.aa9 n) (by simp [lN,aJ]) (fun xs op h1 h2 h3 h4=>ahT h1 h2 h3 h4)
def jV (n:Nat) (a0:gB) (a1:Int) (a2:gX):Option ((List Int)×Int×gB×Unit):=((iV n a0 a2.2.2.1).bind fun r1=>(if decide (r1.1<(0:Int))=true then some (([]:List Int),(4:Int),a0,()) else (if decide (a2.1=(6:Int))=true then (if decide (r1.1=a1)=true then some (([]:List Int),(9:Int),a0,()) else (if aM a1 a0.2.1.length then (rounds (fun L2 (v2:Int×Int×(List rV)×Int×Int×gB×gX×(List rV)×Unit)=>(if decide (v2.2.2.2.2.1<v2.2.2.2.1)=true then (if aM v2.2.2.2.2.1 v2.2.2.1.length then ((aV n v2.2.2.2.2.2.2.1.2.2.2.1 ((v2.2.2.1.getD v2.2.2.2.2.1.toNat oU).1)).bind fun r3=>(if r3.1=true then (if (v2.2.2.2.2.2.2.2.1.length+[v2.2.2.1.getD v2.2.2.2.2.1.toNat oU].length) * 48≤140737488355328 then L2 (v2.1,v2.2.1,v2.2.2.1,v2.2.2.2.1,IntKind.i64.wrap (v2.2.2.2.2.1+(1:Int)),v2.2.2.2.2.2.1,v2.2.2.2.2.2.2.1,v2.2.2.2.2.2.2.2.1++[v2.2.2.1.getD v2.2.2.2.2.1.toNat oU],()) else none) else L2 (v2.1,v2.2.1,v2.2.2.1,v2.2.2.2.1,IntKind.i64.wrap (v2.2.2.2.2.1+(1:Int)),v2.2.2.2.2.2.1,v2.2.2.2.2.2.2.1,v2.2.2.2.2.2.2.2.1,()))) else none) else (if aM v2.2.1 v2.2.2.2.2.2.1.2.1.length then (if decide ((IntKind.i64.wrap (((((((v2.2.2.2.2.2.1.2.1.getD v2.2.1.toNat eX).2).2).2).1).length:Int)+(v2.2.2.2.2.2.2.2.1.length:Int)))>(6:Int))=true then some (([]:List Int),(10:Int),v2.2.2.2.2.2.1,()) else ((dZ n v2.2.2.2.2.2.2.2.1).bind fun r4=>(if decide ((IntKind.i64.wrap (((((v2.2.2.2.2.2.1.2.1.getD v2.2.1.toNat eX).2).2).1)+r4.1))>(1000:Int))=true then some (([]:List Int),(10:Int),v2.2.2.2.2.2.1,()) else (rounds (fun L5 (v5:Int×Int×Int×Int×gB×gX×(List rV)×(List Int)×Unit)=>(if decide (v5.2.2.2.1<v5.2.2.1)=true then (if aM v5.2.2.2.1 v5.2.2.2.2.2.2.1.length then ((jE n (v5.2.2.2.2.1.2.1.getD v5.2.1.toNat eX) (v5.2.2.2.2.2.2.1.getD v5.2.2.2.1.toNat oU)).bind fun r6=>(if (v5.2.2.2.2.2.2.2.1.length+[r6.1].length) * 8≤140737488355328 then L5 (v5.1,v5.2.1,v5.2.2.1,IntKind.i64.wrap (v5.2.2.2.1+(1:Int)),(v5.2.2.2.2.1.1,v5.2.2.2.2.1.2.1.set v5.2.1.toNat r6.2.1,v5.2.2.2.2.1.2.2),v5.2.2.2.2.2.1,v5.2.2.2.2.2.2.1,v5.2.2.2.2.2.2.2.1++[r6.1],()) else none)) else none) else (if decide (v5.2.2.2.2.2.1.1=(6:Int))=true then (if aM v5.1 v5.2.2.2.2.1.2.1.length then ((aF n (((((v5.2.2.2.2.1.2.1.getD v5.1.toNat eX).2).2).2).1) v5.2.2.2.2.2.1).bind fun r7=>(if ([v5.1]:List Int)=([v5.1]:List Int) then some (v5.2.2.2.2.2.2.2.1,(0:Int),(v5.2.2.2.2.1.1,(CE (CE v5.2.2.2.2.1.2.1 v5.1.toNat eX fun z1=>(z1.1,z1.2.1,z1.2.2.1,r7.2.1,z1.2.2.2.2)) v5.1.toNat eX fun z1=>(z1.1,z1.2.1,z1.2.2.1,((((((CE v5.2.2.2.2.1.2.1 v5.1.toNat eX fun z1=>(z1.1,z1.2.1,z1.2.2.1,r7.2.1,z1.2.2.2.2)).getD v5.1.toNat eX).2).2).2).1).take r7.1.toNat,z1.2.2.2.2)),v5.2.2.2.2.1.2.2),()) else none)) else none) else some (v5.2.2.2.2.2.2.2.1,(0:Int),v5.2.2.2.2.1,())))) n (v2.1,v2.2.1,(v2.2.2.2.2.2.2.2.1.length:Int),(0:Int),v2.2.2.2.2.2.1,v2.2.2.2.2.2.2.1,v2.2.2.2.2.2.2.2.1,([]:List Int),()))))) else none))) n (a1,r1.1,((((a0.2.1.getD a1.toNat eX).2).2).2).1,((((((a0.2.1.getD a1.toNat eX).2).2).2).1).length:Int),(0:Int),a0,a2,([]:List rV),())) else none)) else (if aM a1 a0.2.1.length then (rounds (fun L8 (v8:Int×Int×(List rV)×Int×Int×gB×gX×(List rV)×Unit)=>(if decide (v8.2.2.2.2.1<v8.2.2.2.1)=true then (if aM v8.2.2.2.2.1 v8.2.2.1.length then ((aV n v8.2.2.2.2.2.2.1.2.2.2.1 ((v8.2.2.1.getD v8.2.2.2.2.1.toNat oU).1)).bind fun r9=>(if r9.1=true then (if (v8.2.2.2.2.2.2.2.1.length+[v8.2.2.1.getD v8.2.2.2.2.1.toNat oU].length) * 48≤140737488355328 then L8 (v8.1,v8.2.1,v8.2.2.1,v8.2.2.2.1,IntKind.i64.wrap (v8.2.2.2.2.1+(1:Int)),v8.2.2.2.2.2.1,v8.2.2.2.2.2.2.1,v8.2.2.2.2.2.2.2.1++[v8.2.2.1.getD v8.2.2.2.2.1.toNat oU],()) else none) else L8 (v8.1,v8.2.1,v8.2.2.1,v8.2.2.2.1,IntKind.i64.wrap (v8.2.2.2.2.1+(1:Int)),v8.2.2.2.2.2.1,v8.2.2.2.2.2.2.1,v8.2.2.2.2.2.2.2.1,()))) else none) else (if aM v8.2.1 v8.2.2.2.2.2.1.2.1.length then (if decide ((IntKind.i64.wrap (((((((v8.2.2.2.2.2.1.2.1.getD v8.2.1.toNat eX).2).2).2).1).length:Int)+(v8.2.2.2.2.2.2.2.1.length:Int)))>(6:Int))=true then some (([]:List Int),(10:Int),v8.2.2.2.2.2.1,()) else ((dZ n v8.2.2.2.2.2.2.2.1).bind fun Oz=>(if decide ((IntKind.i64.wrap (((((v8.2.2.2.2.2.1.2.1.getD v8.2.1.toNat eX).2).2).1)+Oz.1))>(1000:Int))=true then some (([]:List Int),(10:Int),v8.2.2.2.2.2.1,()) else (rounds (fun L11 (v11:Int×Int×Int×Int×gB×gX×(List rV)×(List Int)×Unit)=>(if decide (v11.2.2.2.1<v11.2.2.1)=true then (if aM v11.2.2.2.1 v11.2.2.2.2.2.2.1.length then ((jE n (v11.2.2.2.2.1.2.1.getD v11.2.1.toNat eX) (v11.2.2.2.2.2.2.1.getD v11.2.2.2.1.toNat oU)).bind fun KS=>(if (v11.2.2.2.2.2.2.2.1.length+[KS.1].length) * 8≤140737488355328 then L11 (v11.1,v11.2.1,v11.2.2.1,IntKind.i64.wrap (v11.2.2.2.1+(1:Int)),(v11.2.2.2.2.1.1,v11.2.2.2.2.1.2.1.set v11.2.1.toNat KS.2.1,v11.2.2.2.2.1.2.2),v11.2.2.2.2.2.1,v11.2.2.2.2.2.2.1,v11.2.2.2.2.2.2.2.1++[KS.1],()) else none)) else none) else (if decide (v11.2.2.2.2.2.1.1=(6:Int))=true then (if aM v11.1 v11.2.2.2.2.1.2.1.length then ((aF n (((((v11.2.2.2.2.1.2.1.getD v11.1.toNat eX).2).2).2).1) v11.2.2.2.2.2.1).bind fun OY=>(if ([v11.1]:List Int)=([v11.1]:List Int) then some (v11.2.2.2.2.2.2.2.1,(0:Int),(v11.2.2.2.2.1.1,(CE (CE v11.2.2.2.2.1.2.1 v11.1.toNat eX fun z1=>(z1.1,z1.2.1,z1.2.2.1,OY.2.1,z1.2.2.2.2)) v11.1.toNat eX fun z1=>(z1.1,z1.2.1,z1.2.2.1,((((((CE v11.2.2.2.2.1.2.1 v11.1.toNat eX fun z1=>(z1.1,z1.2.1,z1.2.2.1,OY.2.1,z1.2.2.2.2)).getD v11.1.toNat eX).2).2).2).1).take OY.1.toNat,z1.2.2.2.2)),v11.2.2.2.2.1.2.2),()) else none)) else none) else some (v11.2.2.2.2.2.2.2.1,(0:Int),v11.2.2.2.2.1,())))) n (v8.1,v8.2.1,(v8.2.2.2.2.2.2.2.1.length:Int),(0:Int),v8.2.2.2.2.2.1,v8.2.2.2.2.2.2.1,v8.2.2.2.2.2.2.2.1,([]:List Int),()))))) else none))) n (a1,r1.1,((((a0.2.1.getD a1.toNat eX).2).2).2).1,((((((a0.2.1.getD a1.toNat eX).2).2).2).1).length:Int),(0:Int),a0,a2,([]:List rV),())) else none))))
def aaO:Entry:=⟨163,[.rw qj [5,114,117] [5,114,117,4294967295] [5,117], .val (.int .i64) [], .val jy []],[.own (.sl 2 (.int .i64)) [2] [] [], .val (.int .i64) [] []],fun n c=>jV n c.1 c.2.1 c.2.2.1⟩
def ad9:Hint:=⟨0,[62,104,111],[(1,[0,1,5,8,9,43,44,45],[0,162,1122]),(3,[0,1,5,12,13,85,86,87],[0,162,1122,2690])],[(35,[5])],[(158,some 22,UD),(190,some 53,MZ),(191,some 80,aaL),(160,some 94,aaM),(192,some 113,UG)],[],[(2245,[0])],[],[]⟩
theorem ahG:gV T ad9 Tryz.f163 aaO:=by intro n c; kernel_rfl
theorem aiH [Fr] (n:Nat):aj Tryz.prog n aaO:=ak mixed aK Tryz.func163 (by kernel_rfl) (hi:=ad9) (aa (aa5 n) (aa (XZ n) (aa (aiD n) (aa (aiE n) (aa (aa9 n) aD))))) ahG
def kV (n:Nat) (a0:gB) (a1:gX):Option ((List Int)×Int×gB×Unit):=(if decide (a1.1=(1:Int))=true then ((mM n a0 a1.2.1).bind fun r1=>some (([]:List Int),r1.1,r1.2.1,())) else ((iV n a0 a1.2.1).bind fun r2=>(if decide (r2.1<(0:Int))=true then some (([]:List Int),(4:Int),a0,()) else (if aM r2.1 a0.2.1.length then (if decide (a1.1=(2:Int))=true then ((bO n a0.2.1 r2.1 (IntKind.i64.wrap (r2.1+(1:Int)))).bind fun r3=>(if ([]:List Int)=([]:List Int) then some (([]:List Int),(0:Int),(a0.1,r3.2.1.take r3.1.toNat,a0.2.2),()) else none)) else (if decide (a1.1=(3:Int))=true then (if decide (((((((a0.2.1.getD r2.1.toNat eX).2).2).2).1).length:Int)=(6:Int))=true then some (([]:List Int),(10:Int),a0,()) else (if decide (((((a0.2.1.getD r2.1.toNat eX).2).2).1)=(1000:Int))=true then some (([]:List Int),(10:Int),a0,()) else ((qK n (a0.2.1.getD r2.1.toNat eX) ((0:Int),a1.2.2.2.2.2.1,a1.2.2.2.2.2.2.1,a1.2.2.2.2.2.2.2.1,())).bind fun r4=>some ([r4.1],(0:Int),(a0.1,a0.2.1.set r2.1.toNat r4.2.1,a0.2.2),())))) else (if decide (a1.1=(4:Int))=true then ((kU n (a0.2.1.getD r2.1.toNat eX) a1).bind fun r5=>some (r5.1,(0:Int),(a0.1,a0.2.1.set r2.1.toNat r5.2.1,a0.2.2),())) else (if decide (a1.1=(7:Int))=true then ((fP n (a0.2.1.getD r2.1.toNat eX)).bind fun r6=>some (r6.1,(0:Int),(a0.1,a0.2.1.set r2.1.toNat r6.2.1,a0.2.2),())) else ((jV n a0 r2.1 a1).bind fun r7=>some (r7.1,r7.2.1,r7.2.2.1,())))))) else none))))
def aaP:Entry:=⟨118,[.rw qj [5,114,117] [5,114,117,4294967295] [5,114,117,4294967294], .val jy []],[.own (.sl 2 (.int .i64)) [2] [] [], .val (.int .i64) [] []],fun n c=>kV n c.1 c.2.1⟩
def aea:Hint:=⟨0,[26,37],[],[],[(157,some 14,aaI),(158,some 20,UD),(159,some 41,UE),(160,some 67,aaJ),(161,some 73,aaK),(162,some 77,UF),(163,some 81,aaO)],[],[],[],[]⟩
theorem ahH:gV T aea Tryz.f118 aaP:=by intro n c; kernel_rfl
theorem aiI [Fr] (n:Nat):aj Tryz.prog n aaP:=ak mixed aK Tryz.func118 (by kernel_rfl) (hi:=aea) (aa (aiA n) (aa (aa5 n) (aa (aa6 n) (aa (aiB n) (aa (aiC n) (aa (aa8 n) (aa (aiH n) aD))))))) ahH
def qL (n:Nat) (a0:gB) (a1:gX):Option (Er×Unit):=((nL n a1).bind fun r1=>(if (!decide (r1.1=(0:Int)))=true then some ((r1.1,([]:List Int),Nc,()),()) else ((jZ n a0).bind fun r2=>((kV n r2.1 a1).bind fun r3=>(if (!decide (r3.2.1=(0:Int)))=true then some ((r3.2.1,([]:List Int),Nc,()),()) else some (((0:Int),r3.1,r3.2.2.1,()),()))))))
def aaQ:Entry:=⟨80,[.val qj [], .val jy []],[.own Lt [2,5,114,117] [] []],fun n c=>qL n c.1 c.2.1⟩
def aeb:Hint:=⟨0,[27],[],[],[(117,some 10,XQ),(79,some 16,XT),(118,some 19,aaP)],[],[],[],[]⟩
theorem ahI:gV T aeb Tryz.f80 aaQ:=by intro n c; kernel_rfl
theorem aiJ [Fr] (n:Nat):aj Tryz.prog n aaQ:=ak mixed aK Tryz.func80 (by kernel_rfl) (hi:=aeb) (aa (aeB n) (aa (aeD n) (aa (aiI n) aD))) ahI
def lQ (n:Nat) (a0:gB) (a1:List gX):Option (Er×Unit):=(if decide ((a1.length:Int)>(60:Int))=true then some (((2:Int),([]:List Int),Nc,()),()) else ((ig n a0).bind fun r1=>(if (!decide (r1.1=(0:Int)))=true then some ((r1.1,([]:List Int),Nc,()),()) else ((jZ n a0).bind fun r2=>(rounds (fun L3 (v3:(List gX)×Int×Int×Er×gB×Unit)=>(if decide (v3.2.2.1<v3.2.1)=true then (if aM v3.2.2.1 v3.1.length then ((qL n v3.2.2.2.2.1 (v3.1.getD v3.2.2.1.toNat Di)).bind fun r4=>(if (!decide (r4.1.1=(0:Int)))=true then some ((r4.1.1,([]:List Int),Nc,()),()) else L3 (v3.1,v3.2.1,IntKind.i64.wrap (v3.2.2.1+(1:Int)),v3.2.2.2.1,r4.1.2.2.1,()))) else none) else some (((0:Int),([]:List Int),v3.2.2.2.2.1,()),()))) n (a1,(a1.length:Int),(0:Int),abd,r2.1,()))))))
def aaR:Entry:=⟨29,[.val qj [], .val (.sl 72 jy) []],[.own Lt [2,5,114,117] [] []],fun n c=>lQ n c.1 c.2.1⟩
def aec:Hint:=⟨0,[38,40],[(0,[4,6,22,23,24],[130,194])],[],[(43,some 15,XO),(79,some 21,XT),(80,some 30,aaQ)],[],[],[],[]⟩
theorem ahJ:gV T aec Tryz.f29 aaR:=by intro n c; kernel_rfl
theorem aiK [Fr] (n:Nat):aj Tryz.prog n aaR:=ak mixed aK Tryz.func29 (by kernel_rfl) (hi:=aec) (aa (aez n) (aa (aeD n) (aa (aiJ n) aD))) ahJ
def gP (n:Nat) (a0:List Int) (a1:List Int):Option (Bool×Unit):=(if (!decide ((a0.length:Int)=(a1.length:Int)))=true then some (false,()) else (rounds (fun L1 (v1:(List Int)×(List Int)×Int×Int×Unit)=>(if decide (v1.2.2.2.1<v1.2.2.1)=true then (if aM v1.2.2.2.1 v1.1.length then (if aM v1.2.2.2.1 v1.2.1.length then (if (!decide ((v1.1.getD v1.2.2.2.1.toNat (0:Int))=(v1.2.1.getD v1.2.2.2.1.toNat (0:Int))))=true then some (false,()) else L1 (v1.1,v1.2.1,v1.2.2.1,IntKind.i64.wrap (v1.2.2.2.1+(1:Int)),())) else none) else none) else some (true,()))) n (a0,a1,(a0.length:Int),(0:Int),())))
def aaS:Entry:=⟨119,[.val (.sl 5 (.int .u8)) [], .val (.sl 5 (.int .u8)) []],[.val .bool [] []],fun n c=>gP n c.1 c.2.1⟩
def aed:Hint:=⟨0,[],[(0,[0,1,12,13],[])],[],[],[],[],[],[]⟩
theorem ahK:gV T aed Tryz.f119 aaS:=by intro n c; kernel_rfl
theorem aiL [Fr] (n:Nat):aj Tryz.prog n aaS:=ak mixed aK Tryz.func119 (by kernel_rfl) (hi:=aed) aD ahK
def jW (n:Nat) (a0:rV) (a1:rV):Option (Bool×Unit):=(if decide (a0.1=a1.1)=true then (if decide (a0.2.1=a1.2.1)=true then (if decide (a0.2.2.1=a1.2.2.1)=true then ((gP n a0.2.2.2.1 a1.2.2.2.1).bind fun r1=>some (r1.1,())) else some (false,())) else some (false,())) else some (false,()))
def aaT:Entry:=⟨84,[.val yZ [], .val yZ []],[.val .bool [] []],fun n c=>jW n c.1 c.2.1⟩
def aee:Hint:=⟨0,[],[],[],[(119,some 29,aaS)],[],[],[],[]⟩
theorem ahL:gV T aee Tryz.f84 aaT:=by intro n c; kernel_rfl
theorem aiM [Fr] (n:Nat):aj Tryz.prog n aaT:=ak mixed aK Tryz.func84 (by kernel_rfl) (hi:=aee) (aa (aiL n) aD) ahL
def aL (n:Nat) (a0:List rV) (a1:List rV):Option (Bool×Unit):=(if (!decide ((a0.length:Int)=(a1.length:Int)))=true then some (false,()) else (rounds (fun L1 (v1:(List rV)×(List rV)×Int×Int×Unit)=>(if decide (v1.2.2.2.1<v1.2.2.1)=true then (if aM v1.2.2.2.1 v1.2.1.length then (if aM v1.2.2.2.1 v1.1.length then ((jW n (v1.2.1.getD v1.2.2.2.1.toNat oU) (v1.1.getD v1.2.2.2.1.toNat oU)).bind fun r2=>(if (!r2.1)=true then some (false,()) else L1 (v1.1,v1.2.1,v1.2.2.1,IntKind.i64.wrap (v1.2.2.2.1+(1:Int)),()))) else none) else none) else some (true,()))) n (a1,a0,(a0.length:Int),(0:Int),())))
def aaU:Entry:=⟨83,[.val (.sl 117 yZ) [], .val (.sl 117 yZ) [], .fn 84 []],[.val .bool [] []],fun n c=>aL n c.1 c.2.1⟩
def aef:Hint:=⟨0,[],[(0,[1,2,15,16,17],[])],[],[(84,some 29,aaT)],[],[],[],[]⟩
theorem ahM:gV T aef Tryz.f83 aaU:=by intro n c; kernel_rfl
theorem aiN [Fr] (n:Nat):aj Tryz.prog n aaU:=ak mixed aK Tryz.func83 (by kernel_rfl) (hi:=aef) (aa (aiM n) aD) ahM
def jT (n:Nat) (a0:dX) (a1:dX):Option (Bool×Unit):=(if decide (a0.1=a1.1)=true then (if decide (a0.2.1=a1.2.1)=true then (if decide (a0.2.2.1=a1.2.2.1)=true then ((aL n a0.2.2.2.1 a1.2.2.2.1).bind fun r1=>some (r1.1,())) else some (false,())) else some (false,())) else some (false,()))
def Ur:Entry:=⟨82,[.val nE [], .val nE []],[.val .bool [] []],fun n c=>jT n c.1 c.2.1⟩
def Y7:Hint:=⟨0,[],[],[],[(83,some 29,aaU)],[],[],[],[]⟩
theorem acF:gV T Y7 Tryz.f82 Ur:=by intro n c; kernel_rfl
theorem aei [Fr] (n:Nat):aj Tryz.prog n Ur:=ak mixed aK Tryz.func82 (by kernel_rfl) (hi:=Y7) (aa (aiN n) aD) acF
def bu (n:Nat) (a0:List dX) (a1:List dX):Option (Bool×Unit):=(if (!decide ((a0.length:Int)=(a1.length:Int)))=true then some (false,()) else (rounds (fun L1 (v1:(List dX)×(List dX)×Int×Int×Unit)=>(if decide (v1.2.2.2.1<v1.2.2.1)=true then (if aM v1.2.2.2.1 v1.2.1.length then (if aM v1.2.2.2.1 v1.1.length then ((jT n (v1.2.1.getD v1.2.2.2.1.toNat eX) (v1.1.getD v1.2.2.2.1.toNat eX)).bind fun r2=>(if (!r2.1)=true then some (false,()) else L1 (v1.1,v1.2.1,v1.2.2.1,IntKind.i64.wrap (v1.2.2.2.1+(1:Int)),()))) else none) else none) else some (true,()))) n (a1,a0,(a0.length:Int),(0:Int),())))
def Us:Entry:=⟨81,[.val (.sl 114 nE) [], .val (.sl 114 nE) [], .fn 82 []],[.val .bool [] []],fun n c=>bu n c.1 c.2.1⟩
def Y8:Hint:=⟨0,[],[(0,[1,2,15,16,17],[])],[],[(82,some 29,Ur)],[],[],[],[]⟩
theorem acG:gV T Y8 Tryz.f81 Us:=by intro n c; kernel_rfl
theorem aej [Fr] (n:Nat):aj Tryz.prog n Us:=ak mixed aK Tryz.func81 (by kernel_rfl) (hi:=Y8) (aa (aei n) aD) acG
def jG (n:Nat) (a0:gB) (a1:gB):Option (Bool×Unit):=(if decide (a0.1=a1.1)=true then ((bu n a0.2.1 a1.2.1).bind fun r1=>some (r1.1,())) else some (false,()))
def Ut:Entry:=⟨31,[.val qj [], .val qj []],[.val .bool [] []],fun n c=>jG n c.1 c.2.1⟩
def Y9:Hint:=⟨0,[],[],[],[(81,some 15,Us)],[],[],[],[]⟩
theorem acH:gV T Y9 Tryz.f31 Ut:=by intro n c; kernel_rfl
theorem aek [Fr] (n:Nat):aj Tryz.prog n Ut:=ak mixed aK Tryz.func31 (by kernel_rfl) (hi:=Y9) (aa (aej n) aD) acH
def jH (n:Nat) (a0:JM):Option (Int×Unit):=(if decide ((IntKind.i64.wrap ((a0.2.1.length:Int)+(a0.2.2.1.length:Int)))>(8000:Int))=true then some ((2:Int),()) else (if (!a0.1)=true then (if decide ((a0.2.2.1.length:Int)>(0:Int))=true then some ((1:Int),()) else (if (!decide (a0.2.2.2.1.1=(0:Int)))=true then some ((1:Int),()) else (if decide ((a0.2.2.2.1.2.1.length:Int)>(0:Int))=true then some ((1:Int),()) else (if (!a0.1)=true then some ((0:Int),()) else ((ig n a0.2.2.2.1).bind fun r1=>(if (!decide (r1.1=(0:Int)))=true then some (r1.1,()) else ((j4 n a0).bind fun r2=>(if (!r2.2.1)=true then some ((5:Int),()) else ((uS n).bind fun r3=>((lQ n r3.1 r2.1).bind fun r4=>(if (!decide (r4.1.1=(0:Int)))=true then some ((9:Int),()) else ((jG n r4.1.2.2.1 a0.2.2.2.1).bind fun r5=>(if (!r5.1)=true then some ((9:Int),()) else some ((0:Int),())))))))))))))) else (if (!a0.1)=true then some ((0:Int),()) else ((ig n a0.2.2.2.1).bind fun r6=>(if (!decide (r6.1=(0:Int)))=true then some (r6.1,()) else ((j4 n a0).bind fun r7=>(if (!r7.2.1)=true then some ((5:Int),()) else ((uS n).bind fun r8=>((lQ n r8.1 r7.1).bind fun r9=>(if (!decide (r9.1.1=(0:Int)))=true then some ((9:Int),()) else ((jG n r9.1.2.2.1 a0.2.2.2.1).bind fun Oz=>(if (!Oz.1)=true then some ((9:Int),()) else some ((0:Int),())))))))))))))
def Uu:Entry:=⟨11,[.val GZ []],[.val (.int .i64) [] []],fun n c=>jH n c.1⟩
def Za:Hint:=⟨0,[],[],[],[(43,some 45,XO),(44,some 51,aaE),(45,some 56,aaF),(29,some 58,aaR),(31,some 67,Ut)],[],[],[],[]⟩
theorem acI:gV T Za Tryz.f11 Uu:=by intro n c; kernel_rfl
theorem ael [Fr] (n:Nat):aj Tryz.prog n Uu:=ak mixed aK Tryz.func11 (by kernel_rfl) (hi:=Za) (aa (aez n) (aa (aiw n) (aa (aix n) (aa (aiK n) (aa (aek n) aD))))) acI
def fT (n:Nat) (a0:List Ke):Option (Int×Unit):=some ((a0.length:Int),())
def Uv:Entry:=⟨52,[.val (.sl 91 xY) []],[.val (.int .i64) [] []],fun n c=>fT n c.1⟩
def Zb:Hint:=⟨0,[],[],[],[],[],[],[],[]⟩
theorem acJ:gV T Zb Tryz.f52 Uv:=by intro n c; kernel_rfl
theorem aem [Fr] (n:Nat):aj Tryz.prog n Uv:=ak mixed aK Tryz.func52 (by kernel_rfl) (hi:=Zb) aD acJ
def oQ (n:Nat) (a0:Int):Option (Bool×Unit):=((dH n a0 (1:Int) (3:Int)).bind fun r1=>some (r1.1,()))
def Uw:Entry:=⟨53,[.val (.int .i64) []],[.val .bool [] []],fun n c=>oQ n c.1⟩
def Zc:Hint:=⟨0,[],[],[],[(51,some 4,Ec)],[],[],[],[]⟩
theorem acK:gV T Zc Tryz.f53 Uw:=by intro n c; kernel_rfl
theorem aen [Fr] (n:Nat):aj Tryz.prog n Uw:=ak mixed aK Tryz.func53 (by kernel_rfl) (hi:=Zc) (aa (Gy n) aD) acK
def fQ (n:Nat) (a0:JN):Option (Int×Unit):=((jH n a0.1).bind fun r1=>(if (!decide (r1.1=(0:Int)))=true then some (r1.1,()) else ((fT n a0.2.1).bind fun r2=>((dH n r2.1 (1:Int) (3:Int)).bind fun r3=>(if (!r3.1)=true then some ((2:Int),()) else (rounds (fun L4 (v4:(List Ke)×Int×Int×Unit)=>(if decide (v4.2.2.1<v4.2.1)=true then (if aM v4.2.2.1 v4.1.length then ((oQ n (((((v4.1.getD v4.2.2.1.toNat Lx).2).2).2).1)).bind fun r5=>(if (!r5.1)=true then some ((3:Int),()) else ((dH n (((v4.1.getD v4.2.2.1.toNat Lx).2).1) (0:Int) (999:Int)).bind fun r6=>(if (!r6.1)=true then some ((3:Int),()) else (if decide ((((((v4.1.getD v4.2.2.1.toNat Lx).2).2).1).length:Int)>(6:Int))=true then some ((3:Int),()) else ((j5 n ((((v4.1.getD v4.2.2.1.toNat Lx).2).2).1)).bind fun r7=>(if (!r7.1)=true then some ((3:Int),()) else (if decide (((v4.1.getD v4.2.2.1.toNat Lx).1)=([]:List Int))=true then (if (!decide ((((v4.1.getD v4.2.2.1.toNat Lx).2).1)=(0:Int)))=true then some ((1:Int),()) else (if decide ((((((v4.1.getD v4.2.2.1.toNat Lx).2).2).1).length:Int)>(0:Int))=true then some ((1:Int),()) else (if (!decide (((v4.1.getD v4.2.2.1.toNat Lx).1)=([]:List Int)))=true then ((iQ n ((v4.1.getD v4.2.2.1.toNat Lx).1)).bind fun r8=>(if (!r8.1)=true then some ((1:Int),()) else (if decide ((((v4.1.getD v4.2.2.1.toNat Lx).2).1)=(0:Int))=true then some ((1:Int),()) else L4 (v4.1,v4.2.1,IntKind.i64.wrap (v4.2.2.1+(1:Int)),())))) else L4 (v4.1,v4.2.1,IntKind.i64.wrap (v4.2.2.1+(1:Int)),())))) else (if (!decide (((v4.1.getD v4.2.2.1.toNat Lx).1)=([]:List Int)))=true then ((iQ n ((v4.1.getD v4.2.2.1.toNat Lx).1)).bind fun r9=>(if (!r9.1)=true then some ((1:Int),()) else (if decide ((((v4.1.getD v4.2.2.1.toNat Lx).2).1)=(0:Int))=true then some ((1:Int),()) else L4 (v4.1,v4.2.1,IntKind.i64.wrap (v4.2.2.1+(1:Int)),())))) else L4 (v4.1,v4.2.1,IntKind.i64.wrap (v4.2.2.1+(1:Int)),())))))))))) else none) else some ((0:Int),()))) n (a0.2.1,(a0.2.1.length:Int),(0:Int),())))))))
def Ux:Entry:=⟨16,[.val Nb []],[.val (.int .i64) [] []],fun n c=>fQ n c.1⟩
def Zd:Hint:=⟨0,[],[(0,[18,19,20],[])],[],[(11,some 8,Uu),(52,some 14,Uv),(51,some 15,Ec),(53,some 27,Uw),(51,some 32,Ec),(54,some 44,XP),(55,some 69,R3)],[],[],[],[]⟩
theorem acL:gV T Zd Tryz.f16 Ux:=by intro n c; kernel_rfl
theorem aeo [Fr] (n:Nat):aj Tryz.prog n Ux:=ak mixed aK Tryz.func16 (by kernel_rfl) (hi:=Zd) (aa (ael n) (aa (aem n) (aa (Gy n) (aa (aen n) (aa (Gy n) (aa (aeA n) (aa (XW n) aD))))))) acL
def j6 (n:Nat) (a0:List Int) (a1:List Int):Option (Bool×Unit):=(if (!decide ((a0.length:Int)=(a1.length:Int)))=true then some (false,()) else (rounds (fun L1 (v1:(List Int)×Zt0)=>(if decide (v1.2.2.1<(v1.1.length:Int))=true then (if aM v1.2.2.1 v1.1.length then (if aM v1.2.2.1 v1.2.1.length then (if (!decide ((v1.1.getD v1.2.2.1.toNat (0:Int))=(v1.2.1.getD v1.2.2.1.toNat (0:Int))))=true then some (false,()) else L1 (v1.1,v1.2.1,IntKind.i64.wrap (v1.2.2.1+(1:Int)),())) else none) else none) else some (true,()))) n (a0,a1,(0:Int),())))
def pQ:List dL:=[.val (.sl 5 (.int .u8)) [], .val (.sl 5 (.int .u8)) []]
def zQ:List nP:=[.val .bool [] []]
def nH:Entry:=⟨46,pQ,zQ,fun n (c:Cont (kin pQ))=>j6 n c.1 c.2.1⟩
def Ag:Hint:=⟨0,[],[(0,[0,1,5],[])],[],[],[],[],[],[]⟩
theorem Gj:∀n (c:Cont (kin pQ)),mg T Ag Tryz.f46 pQ zQ n c=nH.F n c:=by intro n c; kernel_rfl
theorem vR [Fr] (n:Nat):aj Tryz.prog n nH:=ak mixed aK Tryz.func46 (by kernel_rfl) (hi:=Ag) aD Gj
def kg (n:Nat) (a0:rV) (a1:rV):Option (Bool×Unit):=(if (!decide (a0.1=a1.1))=true then some (false,()) else (if (!decide (a0.2.1=a1.2.1))=true then some (false,()) else (if (!decide (a0.2.2.1=a1.2.2.1))=true then some (false,()) else ((j6 n a0.2.2.2.1 a1.2.2.2.1).bind fun r1=>(if (!r1.1)=true then some (false,()) else some (true,()))))))
def nk:List dL:=[.val yZ [], .val yZ []]
def xw:List nP:=[.val .bool [] []]
def rZ:Entry:=⟨202,nk,xw,fun n (c:Cont (kin nk))=>kg n c.1 c.2.1⟩
def yc:Hint:=⟨0,[],[],[],[(46,some 24,nH)],[],[],[],[]⟩
theorem D6:∀n (c:Cont (kin nk)),mg T yc Tryz.f202 nk xw n c=rZ.F n c:=by intro n c; kernel_rfl
theorem Ee [Fr] (n:Nat):aj Tryz.prog n rZ:=ak mixed aK Tryz.func202 (by kernel_rfl) (hi:=yc) (aa (vR n) aD) D6
def mO (n:Nat) (a0:List rV) (a1:List rV):Option (Bool×Unit):=(if (!decide ((a0.length:Int)=(a1.length:Int)))=true then some (false,()) else (rounds (fun L1 (v1:(List rV)×(List rV)×Int×Unit)=>(if decide (v1.2.2.1<(v1.1.length:Int))=true then (if aM v1.2.2.1 v1.1.length then (if aM v1.2.2.1 v1.2.1.length then ((kg n (v1.1.getD v1.2.2.1.toNat oU) (v1.2.1.getD v1.2.2.1.toNat oU)).bind fun r2=>(if (!r2.1)=true then some (false,()) else L1 (v1.1,v1.2.1,IntKind.i64.wrap (v1.2.2.1+(1:Int)),()))) else none) else none) else some (true,()))) n (a0,a1,(0:Int),())))
def lC:List dL:=[.val (.sl 117 yZ) [], .val (.sl 117 yZ) []]
def wH:List nP:=[.val .bool [] []]
def qE:Entry:=⟨174,lC,wH,fun n (c:Cont (kin lC))=>mO n c.1 c.2.1⟩
def wW:Hint:=⟨0,[],[(0,[0,1,5],[])],[],[(202,some 25,rZ)],[],[],[],[]⟩
theorem CQ:∀n (c:Cont (kin lC)),mg T wW Tryz.f174 lC wH n c=qE.F n c:=by intro n c; kernel_rfl
theorem C8 [Fr] (n:Nat):aj Tryz.prog n qE:=ak mixed aK Tryz.func174 (by kernel_rfl) (hi:=wW) (aa (Ee n) aD) CQ
def qM (n:Nat) (a0:dX) (a1:dX):Option (Bool×Unit):=(if (!decide (a0.1=a1.1))=true then some (false,()) else (if (!decide (a0.2.1=a1.2.1))=true then some (false,()) else (if (!decide (a0.2.2.1=a1.2.2.1))=true then some (false,()) else ((mO n a0.2.2.2.1 a1.2.2.2.1).bind fun r1=>(if (!r1.1)=true then some (false,()) else some (true,()))))))
def tY:List dL:=[.val nE [], .val nE []]
def BZ:List nP:=[.val .bool [] []]
def yR:Entry:=⟨135,tY,BZ,fun n (c:Cont (kin tY))=>qM n c.1 c.2.1⟩
def CX:Hint:=⟨0,[],[],[],[(174,some 24,qE)],[],[],[],[]⟩
theorem Lf:∀n (c:Cont (kin tY)),mg T CX Tryz.f135 tY BZ n c=yR.F n c:=by intro n c; kernel_rfl
theorem Li [Fr] (n:Nat):aj Tryz.prog n yR:=ak mixed aK Tryz.func135 (by kernel_rfl) (hi:=CX) (aa (C8 n) aD) Lf
def tu (n:Nat) (a0:List dX) (a1:List dX):Option (Bool×Unit):=(if (!decide ((a0.length:Int)=(a1.length:Int)))=true then some (false,()) else (rounds (fun L1 (v1:(List dX)×(List dX)×Int×Unit)=>(if decide (v1.2.2.1<(v1.1.length:Int))=true then (if aM v1.2.2.1 v1.1.length then (if aM v1.2.2.1 v1.2.1.length then ((qM n (v1.1.getD v1.2.2.1.toNat eX) (v1.2.1.getD v1.2.2.1.toNat eX)).bind fun r2=>(if (!r2.1)=true then some (false,()) else L1 (v1.1,v1.2.1,IntKind.i64.wrap (v1.2.2.1+(1:Int)),()))) else none) else none) else some (true,()))) n (a0,a1,(0:Int),())))
def rM:List dL:=[.val (.sl 114 nE) [], .val (.sl 114 nE) []]
def Bc:List nP:=[.val .bool [] []]
def xJ:Entry:=⟨101,rM,Bc,fun n (c:Cont (kin rM))=>tu n c.1 c.2.1⟩
def BN:Hint:=⟨0,[],[(0,[0,1,5],[])],[],[(135,some 25,yR)],[],[],[],[]⟩
theorem JB:∀n (c:Cont (kin rM)),mg T BN Tryz.f101 rM Bc n c=xJ.F n c:=by intro n c; kernel_rfl
theorem JF [Fr] (n:Nat):aj Tryz.prog n xJ:=ak mixed aK Tryz.func101 (by kernel_rfl) (hi:=BN) (aa (Li n) aD) JB
def qO (n:Nat) (a0:gB) (a1:gB):Option (Bool×Unit):=(if (!decide (a0.1=a1.1))=true then some (false,()) else ((tu n a0.2.1 a1.2.1).bind fun r1=>(if (!r1.1)=true then some (false,()) else some (true,()))))
def pR:List dL:=[.val qj [], .val qj []]
def zR:List nP:=[.val .bool [] []]
def vG:Entry:=⟨47,pR,zR,fun n (c:Cont (kin pR))=>qO n c.1 c.2.1⟩
def Ah:Hint:=⟨0,[],[],[],[(101,some 14,xJ)],[],[],[],[]⟩
theorem Gl:∀n (c:Cont (kin pR)),mg T Ah Tryz.f47 pR zR n c=vG.F n c:=by intro n c; kernel_rfl
theorem Gz [Fr] (n:Nat):aj Tryz.prog n vG:=ak mixed aK Tryz.func47 (by kernel_rfl) (hi:=Ah) (aa (JF n) aD) Gl
def qP (n:Nat) (a0:JM) (a1:JM):Option (Bool×Unit):=(if (!(a0.1 == a1.1))=true then some (false,()) else ((j6 n a0.2.1 a1.2.1).bind fun r1=>(if (!r1.1)=true then some (false,()) else ((j6 n a0.2.2.1 a1.2.2.1).bind fun r2=>(if (!r2.1)=true then some (false,()) else ((qO n a0.2.2.2.1 a1.2.2.2.1).bind fun r3=>(if (!r3.1)=true then some (false,()) else some (true,()))))))))
def pU:List dL:=[.val GZ [], .val GZ []]
def zS:List nP:=[.val .bool [] []]
def vH:Entry:=⟨12,pU,zS,fun n (c:Cont (kin pU))=>qP n c.1 c.2.1⟩
def Ai:Hint:=⟨0,[],[],[],[(46,some 14,nH),(46,some 20,nH),(47,some 26,vG)],[],[],[],[]⟩
theorem Gm:∀n (c:Cont (kin pU)),mg T Ai Tryz.f12 pU zS n c=vH.F n c:=by intro n c; kernel_rfl
theorem GD [Fr] (n:Nat):aj Tryz.prog n vH:=ak mixed aK Tryz.func12 (by kernel_rfl) (hi:=Ai) (aa (vR n) (aa (vR n) (aa (Gz n) aD))) Gm
def pI (n:Nat) (a0:List Int) (a1:List Int):Option (Bool×Unit):=(if (!decide ((a0.length:Int)=(a1.length:Int)))=true then some (false,()) else (rounds (fun L1 (v1:(List Int)×Zt0)=>(if decide (v1.2.2.1<(v1.1.length:Int))=true then (if aM v1.2.2.1 v1.1.length then (if aM v1.2.2.1 v1.2.1.length then (if (!decide ((v1.1.getD v1.2.2.1.toNat (0:Int))=(v1.2.1.getD v1.2.2.1.toNat (0:Int))))=true then some (false,()) else L1 (v1.1,v1.2.1,IntKind.i64.wrap (v1.2.2.1+(1:Int)),())) else none) else none) else some (true,()))) n (a0,a1,(0:Int),())))
def oL:List dL:=[.val (.sl 2 (.int .i64)) [], .val (.sl 2 (.int .i64)) []]
def yJ:List nP:=[.val .bool [] []]
def uE:Entry:=⟨64,oL,yJ,fun n (c:Cont (kin oL))=>pI n c.1 c.2.1⟩
def zH:Hint:=⟨0,[],[(0,[0,1,5],[])],[],[],[],[],[],[]⟩
theorem FD:∀n (c:Cont (kin oL)),mg T zH Tryz.f64 oL yJ n c=uE.F n c:=by intro n c; kernel_rfl
theorem FK [Fr] (n:Nat):aj Tryz.prog n uE:=ak mixed aK Tryz.func64 (by kernel_rfl) (hi:=zH) aD FD
def oo (n:Nat) (a0:Ke) (a1:Ke):Option (Bool×Unit):=(if (!decide (a0.1=a1.1))=true then some (false,()) else (if (!decide (a0.2.1=a1.2.1))=true then some (false,()) else ((pI n a0.2.2.1 a1.2.2.1).bind fun r1=>(if (!r1.1)=true then some (false,()) else (if (!decide (a0.2.2.2.1=a1.2.2.2.1))=true then some (false,()) else some (true,()))))))
def nu:List dL:=[.val xY [], .val xY []]
def xx:List nP:=[.val .bool [] []]
def sj:Entry:=⟨107,nu,xx,fun n (c:Cont (kin nu))=>oo n c.1 c.2.1⟩
def yf:Hint:=⟨0,[],[],[],[(64,some 19,uE)],[],[],[],[]⟩
theorem D7:∀n (c:Cont (kin nu)),mg T yf Tryz.f107 nu xx n c=sj.F n c:=by intro n c; kernel_rfl
theorem Ef [Fr] (n:Nat):aj Tryz.prog n sj:=ak mixed aK Tryz.func107 (by kernel_rfl) (hi:=yf) (aa (FK n) aD) D7
def qN (n:Nat) (a0:List Ke) (a1:List Ke):Option (Bool×Unit):=(if (!decide ((a0.length:Int)=(a1.length:Int)))=true then some (false,()) else (rounds (fun L1 (v1:(List Ke)×(List Ke)×Int×Unit)=>(if decide (v1.2.2.1<(v1.1.length:Int))=true then (if aM v1.2.2.1 v1.1.length then (if aM v1.2.2.1 v1.2.1.length then ((oo n (v1.1.getD v1.2.2.1.toNat Lx) (v1.2.1.getD v1.2.2.1.toNat Lx)).bind fun r2=>(if (!r2.1)=true then some (false,()) else L1 (v1.1,v1.2.1,IntKind.i64.wrap (v1.2.2.1+(1:Int)),()))) else none) else none) else some (true,()))) n (a0,a1,(0:Int),())))
def lD:List dL:=[.val (.sl 91 xY) [], .val (.sl 91 xY) []]
def wI:List nP:=[.val .bool [] []]
def qF:Entry:=⟨56,lD,wI,fun n (c:Cont (kin lD))=>qN n c.1 c.2.1⟩
def wX:Hint:=⟨0,[],[(0,[0,1,5],[])],[],[(107,some 25,sj)],[],[],[],[]⟩
theorem CR:∀n (c:Cont (kin lD)),mg T wX Tryz.f56 lD wI n c=qF.F n c:=by intro n c; kernel_rfl
theorem C9 [Fr] (n:Nat):aj Tryz.prog n qF:=ak mixed aK Tryz.func56 (by kernel_rfl) (hi:=wX) (aa (Ef n) aD) CR
def qQ (n:Nat) (a0:JN) (a1:JN):Option (Bool×Unit):=((qP n a0.1 a1.1).bind fun r1=>(if (!r1.1)=true then some (false,()) else ((qN n a0.2.1 a1.2.1).bind fun r2=>(if (!r2.1)=true then some (false,()) else some (true,())))))
def pV:List dL:=[.val Nb [], .val Nb []]
def zT:List nP:=[.val .bool [] []]
def vI:Entry:=⟨17,pV,zT,fun n (c:Cont (kin pV))=>qQ n c.1 c.2.1⟩
def Aj:Hint:=⟨0,[],[],[],[(12,some 9,vH),(56,some 15,qF)],[],[],[],[]⟩
theorem Gn:∀n (c:Cont (kin pV)),mg T Aj Tryz.f17 pV zT n c=vI.F n c:=by intro n c; kernel_rfl
theorem GG [Fr] (n:Nat):aj Tryz.prog n vI:=ak mixed aK Tryz.func17 (by kernel_rfl) (hi:=Aj) (aa (GD n) (aa (C9 n) aD)) Gn
def jM (n:Nat) (a0:JN):Option (Bool×Unit):=((qW n a0 (1048576:Int)).bind fun r1=>(if decide (r1.1<(0:Int))=true then some (true,()) else ((kE n a0).bind fun r2=>((mR n r2.1).bind fun r3=>((kE n a0).bind fun r4=>((fQ n r4.1).bind fun r5=>(if (!decide (r5.1=r3.1))=true then some (false,()) else ((kE n a0).bind fun r6=>((qQ n r4.1 r6.1).bind fun r7=>(if (!r7.1)=true then some (false,()) else some (true,())))))))))))
def bV:List dL:=[.val Pj []]
def oP:List nP:=[.val .bool [] []]
def jL:Entry:=⟨4,bV,oP,fun n (c:Cont (kin bV))=>jM n c.1⟩
def o9:Hint:=⟨0,[],[],[],[(13,some 9,vL),(15,some 13,nK),(14,some 14,aar),(15,some 16,nK),(16,some 18,Ux),(15,some 24,nK),(17,some 25,vI)],[],[],[],[]⟩
theorem xI:∀n (c:Cont (kin bV)),mg T o9 Tryz.f4 bV oP n c=jL.F n c:=by intro n c; kernel_rfl
theorem xN [Fr] (n:Nat):aj Tryz.prog n jL:=ak mixed aK Tryz.func4 (by kernel_rfl) (hi:=o9) (aa (GJ n) (aa (vU n) (aa (aih n) (aa (vU n) (aa (aeo n) (aa (vU n) (aa (GG n) aD))))))) xI
end Go.Proofs.YtailcbngagacaaaGreat.UZ

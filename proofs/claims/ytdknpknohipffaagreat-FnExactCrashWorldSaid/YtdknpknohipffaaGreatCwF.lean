/- What the functions of this law compute, as plain functions, and that the reading comes to them. No condition. -/
import Derived.Test.YtdknpknohipffaaGreatProg
import Derived.Test.YtdknpknohipffaaGreatOwF
import Derived.Test.YtdknpknohipffaaGreatCutLib
import Derived.Test.YtdknpknohipffaaGreatGrowLib
import Derived.Test.YtdknpknohipffaaGreatPartLib
import Derived.Test.YtdknpknohipffaaGreatPurgeLib
import Derived.Test.YtdknpknohipffaaGreatTakeLib
import Derived.KernelRfl
set_option linter.unusedSectionVars false
set_option linter.unusedVariables false
set_option linter.unusedSimpArgs false
namespace Go.Proofs.YtdknpknohipffaaGreat.Qq
open Go Go.Proofs.YtdknpknohipffaaGreat Go.Proofs.YtdknpknohipffaaGreat.Ow
abbrev Zk0:K:=(.st (.pair .str (.pair (.int .u64) .unit)))
abbrev Zt0:Type:=(List Int)×Int×Unit
abbrev V8:K:=(.st (.pair (.sl 5 (.int .u8)) (.pair .bool .unit)))
abbrev Zt1:Type:=(List Int)×Bool×Unit
abbrev V9:K:=(.st (.pair (.sl 5 (.int .u8)) (.pair (.int .i64) (.pair .bool .unit))))
abbrev Zt2:Type:=(List Int)×Int×Bool×Unit
abbrev Zk3:K:=(.st (.pair .str (.pair (.int .i64) (.pair (.int .i64) (.pair (.id 162) .unit)))))
abbrev Zt3:Type:=(List Int)×Int×Int×Nat×Unit
abbrev Zk4:K:=(.st (.pair (.int .i64) (.pair (.int .i64) (.pair .bool (.pair (.int .u8) .unit)))))
abbrev Na:K:=(.st (.pair (.int .i64) (.pair (.int .i64) (.pair (.int .i64) (.pair (.id 5) .unit)))))
abbrev O9:Type:=Int×Int×Int×Nat×Unit
abbrev xz:K:=(.st (.pair .str (.pair (.int .i64) (.pair (.sl 2 (.int .i64)) (.pair (.int .i64) .unit)))))
abbrev EH:Type:=(List Int)×Int×Zt0
abbrev zh:K:=(.st (.pair (.int .i64) (.pair (.int .i64) (.pair (.int .i64) (.pair (.sl 5 (.int .u8)) .unit)))))
abbrev qL:Type:=Int×Int×Int×(List Int)×Unit
abbrev Zk8:K:=(.st (.pair (.int .i64) (.pair (.sl 147 Zk3) .unit)))
abbrev Zt8:Type:=Int×(List (Zt3))×Unit
abbrev Zk9:K:=(.st (.pair .str (.pair (.int .i64) (.pair (.int .i64) (.pair (.sl 203 Na) .unit)))))
abbrev Zt9:Type:=(List Int)×Int×Int×(List (O9))×Unit
abbrev Jo:K:=(.st (.pair .str (.pair (.int .i64) (.pair (.int .i64) (.pair (.sl 162 Na) .unit)))))
abbrev jW:K:=(.st (.pair (.int .i64) (.pair .str (.pair .str (.pair (.sl 2 (.int .i64)) (.pair (.int .i64) (.pair (.int .i64) (.pair (.int .i64) (.pair (.sl 5 (.int .u8)) .unit)))))))))
abbrev iE:Type:=Int×(List Int)×(List Int)×(List Int)×qL
abbrev KH:K:=(.st (.pair .str (.pair (.int .i64) (.pair (.int .i64) (.pair (.sl 203 zh) .unit)))))
abbrev dQ:Type:=(List Int)×Int×Int×(List (qL))×Unit
abbrev nP:K:=(.st (.pair .str (.pair (.int .i64) (.pair (.int .i64) (.pair (.sl 162 zh) .unit)))))
abbrev ahb:K:=(.st (.pair (.int .i64) (.pair (.sl 2 (.int .i64)) (.pair Zk8 .unit))))
abbrev Ti:K:=(.st (.pair (.int .i64) (.pair (.sl 142 Zk9) .unit)))
abbrev QI:K:=(.st (.pair (.int .i64) (.pair (.sl 147 Jo) .unit)))
abbrev abj:K:=(.st (.pair .bool (.pair (.sl 5 (.int .u8)) (.pair (.sl 5 (.int .u8)) (.pair Zk8 .unit)))))
abbrev Tj:K:=(.st (.pair (.int .i64) (.pair (.sl 142 KH) .unit)))
abbrev fO:Type:=Int×(List (dQ))×Unit
abbrev ql:K:=(.st (.pair (.int .i64) (.pair (.sl 147 nP) .unit)))
abbrev KI:K:=(.st (.pair (.int .i64) (.pair (.int .i64) (.pair jW .unit))))
abbrev alf:Type:=Int×Int×(iE)×Unit
abbrev Wd:K:=(.st (.pair (.int .i64) (.pair (.sl 2 (.int .i64)) (.pair QI .unit))))
abbrev ahc:K:=(.st (.pair (.int .i64) (.pair (.sl 2 (.int .i64)) (.pair abj .unit))))
abbrev O6:K:=(.st (.pair (.int .i64) (.pair (.sl 2 (.int .i64)) (.pair ql .unit))))
abbrev Hr:Type:=Int×(List Int)×(fO)×Unit
abbrev Tm:K:=(.st (.pair .bool (.pair (.sl 5 (.int .u8)) (.pair (.sl 5 (.int .u8)) (.pair Ti .unit)))))
abbrev QJ:K:=(.st (.pair .bool (.pair (.sl 5 (.int .u8)) (.pair (.sl 5 (.int .u8)) (.pair QI .unit)))))
abbrev Tp:K:=(.st (.pair .bool (.pair (.sl 5 (.int .u8)) (.pair (.sl 5 (.int .u8)) (.pair Tj .unit)))))
abbrev Ae:Type:=Bool×(List Int)×(List Int)×(fO)×Unit
abbrev BQ:K:=(.st (.pair .bool (.pair (.sl 5 (.int .u8)) (.pair (.sl 5 (.int .u8)) (.pair ql .unit)))))
abbrev adW:K:=(.st (.pair abj (.pair (.sl 74 xz) .unit)))
abbrev We:K:=(.st (.pair (.int .i64) (.pair (.sl 2 (.int .i64)) (.pair QJ .unit))))
abbrev Yp:K:=(.st (.pair (.int .i64) (.pair (.sl 2 (.int .i64)) (.pair BQ .unit))))
abbrev adY:Type:=Int×(List Int)×(Ae)×Unit
abbrev ahe:K:=(.st (.pair (.int .i64) (.pair (.sl 9 .str) (.pair adW .unit))))
abbrev Wh:K:=(.st (.pair Tm (.pair (.sl 79 xz) .unit)))
abbrev Tq:K:=(.st (.pair QJ (.pair (.sl 74 xz) .unit)))
abbrev Tt:K:=(.st (.pair Tp (.pair (.sl 79 xz) .unit)))
abbrev Bw:Type:=(Ae)×(List (EH))×Unit
abbrev Jp:K:=(.st (.pair BQ (.pair (.sl 74 xz) .unit)))
abbrev Wi:K:=(.st (.pair (.int .i64) (.pair (.sl 9 .str) (.pair Tq .unit))))
abbrev O7:K:=(.st (.pair (.int .i64) (.pair (.sl 9 .str) (.pair Jp .unit))))
abbrev O8:Type:=Int×(List (List Int))×(Bw)×Unit
abbrev Fq:iE:=((0:Int),([]:List Int),([]:List Int),([]:List Int),(0:Int),(0:Int),(0:Int),([]:List Int),())
abbrev abk:Bw:=((false,([]:List Int),([]:List Int),((0:Int),([]:List dQ),()),()),([]:List EH),())
abbrev ad1:Ae:=(false,([]:List Int),([]:List Int),((0:Int),([]:List dQ),()),())
abbrev adZ:Hr:=((0:Int),([]:List Int),((0:Int),([]:List dQ),()),())
abbrev BD:EH:=(([]:List Int),(0:Int),([]:List Int),(0:Int),())
abbrev dG:dQ:=(([]:List Int),(0:Int),(0:Int),([]:List qL),())
abbrev kN:qL:=((0:Int),(0:Int),(0:Int),([]:List Int),())
abbrev Pb:O9:=((0:Int),(0:Int),(0:Int),(0:Nat),())
abbrev Nb:fO:=((0:Int),([]:List dQ),())
def tyL:XY:={ ty:=[(2,(.int .i64)),(3,(.int .i64)),(4, .bool),(5,(.int .u8)),(6,(.int .u8)),(7,Zk4),(8,Zk4),(9, .str),(10, .str),(11, .str),(12,(.int .u64)),(13,Zk0),(14,Zk0),(21,(.int .i32)),(22,(.sl 5 (.int .u8))),(23,(.sl 142 KH)),(24,Tj),(25,Tj),(26,Tp),(27,Tp),(28,(.sl 79 xz)),(29,Tt),(30,Tt),(32,(.sl 9 .str)),(33,(.sl 147 nP)),(34,ql),(35,ql),(36,BQ),(37,BQ),(38,(.sl 74 xz)),(39,Jp),(40,Jp),(41,O7),(42,O7),(57,(.sl 2 (.int .i64))),(58,Yp),(59,Yp),(73,xz),(74,xz),(79,xz),(85,(.sl 121 jW)),(88,O6),(89,O6),(120,jW),(121,jW),(122,KI),(123,KI),(137,(.sl 22 (.sl 5 (.int .u8)))),(140,(.sl 203 zh)),(141,KH),(142,KH),(145,(.sl 162 zh)),(146,nP),(147,nP),(161,zh),(162,zh),(166,V8),(167,V8),(179,V9),(180,V9),(203,zh),(219,(.int .u32)),(220,(.int .u8)),(221,(.int .u8)),(224,(.int .i32)),(225,(.int .i32))],bytes:=[(2,8),(3,8),(4,1),(5,1),(6,1),(7,24),(8,24),(9,16),(10,16),(11,16),(12,8),(13,24),(14,24),(21,4),(22,24),(23,24),(24,32),(25,32),(26,88),(27,88),(28,24),(29,112),(30,112),(32,24),(33,24),(34,32),(35,32),(36,88),(37,88),(38,24),(39,112),(40,112),(41,144),(42,144),(57,24),(58,120),(59,120),(73,56),(74,56),(79,56),(85,24),(88,64),(89,64),(120,112),(121,112),(122,128),(123,128),(137,24),(140,24),(141,56),(142,56),(145,24),(146,56),(147,56),(161,48),(162,48),(166,32),(167,32),(179,40),(180,40),(203,48),(219,4),(220,1),(221,1),(224,4),(225,4)],ptr:=[15,16,17,55,81,83,116,144,151,165,177,182,223] }
def T:ji:=tyL.tab
theorem aI:CO Tryz.prog tyL=true:=by kernel_rfl
theorem mixed:Tryz.prog.follows .mixedOrders=true:=by kernel_rfl
def lX (n:Nat) (a0:List Int) (a1:Int):Option (Int×Unit):=(if decide ((IntKind.i64.wrap (a1 - (a0.length:Int)))<(0:Int))=true then some ((-1:Int),()) else some (IntKind.i64.wrap (a1 - (a0.length:Int)),()))
def Bl:List cZ:=[.val (.sl 5 (.int .u8)) [], .val (.int .i64) []]
def JI:List jy:=[.val (.int .i64) [] []]
def ru:Entry:=⟨38,Bl,JI,fun n (c:Cont (kin Bl))=>lX n c.1 c.2.1⟩
def Kg:Hint:=⟨0,[],[],[],[],[],[],[],[]⟩
theorem wF [Fr] (n:Nat):ak Tryz.prog n ru:=aj mixed aI Tryz.func38 (by kernel_rfl) (hi:=Kg) aA (by intro n c; kernel_rfl)
def lY (n:Nat) (a0:qL) (a1:Int):Option (Int×Unit):=((lX n a0.2.2.2.1 a1).bind fun r1=>(if decide (r1.1<(0:Int))=true then some ((-1:Int),()) else some (r1.1,())))
def ym:List cZ:=[.val zh [], .val (.int .i64) []]
def Gf:List jy:=[.val (.int .i64) [] []]
def y5:Entry:=⟨169,ym,Gf,fun n (c:Cont (kin ym))=>lY n c.1 c.2.1⟩
def GK:Hint:=⟨0,[],[],[],[(38,some 8,ru)],[],[],[],[]⟩
theorem G6 [Fr] (n:Nat):ak Tryz.prog n y5:=aj mixed aI Tryz.func169 (by kernel_rfl) (hi:=GK) (aa (wF n) aA) (by intro n c; kernel_rfl)
def ou (n:Nat) (a0:List qL) (a1:Int):Option (Int×Unit):=(if decide ((IntKind.i64.wrap (a1 - (a0.length:Int)))<(0:Int))=true then some ((-1:Int),()) else (rounds (fun L1 (v1:(List qL)×Int×Int×Unit)=>(if decide (v1.2.2.1<(v1.1.length:Int))=true then (if aH v1.2.2.1 v1.1.length then ((lY n (v1.1.getD v1.2.2.1.toNat kN) v1.2.1).bind fun r2=>(if decide (r2.1<(0:Int))=true then some ((-1:Int),()) else L1 (v1.1,r2.1,IntKind.i64.wrap (v1.2.2.1+(1:Int)),()))) else none) else some (v1.2.1,()))) n (a0,IntKind.i64.wrap (a1 - (a0.length:Int)),(0:Int),())))
def xe:List cZ:=[.val (.sl 203 zh) [], .val (.int .i64) []]
def Eu:List jy:=[.val (.int .i64) [] []]
def xL:Entry:=⟨133,xe,Eu,fun n (c:Cont (kin xe))=>ou n c.1 c.2.1⟩
def EU:Hint:=⟨0,[],[(0,[0,1,5],[])],[],[(169,some 23,y5)],[],[],[],[]⟩
theorem Fa [Fr] (n:Nat):ak Tryz.prog n xL:=aj mixed aI Tryz.func133 (by kernel_rfl) (hi:=EU) (aa (G6 n) aA) (by intro n c; kernel_rfl)
def rE (n:Nat) (a0:dQ) (a1:Int):Option (Int×Unit):=(if decide ((IntKind.i64.wrap (a1 - (a0.1.length:Int)))<(0:Int))=true then some ((-1:Int),()) else ((ou n a0.2.2.2.1 (IntKind.i64.wrap (a1 - (a0.1.length:Int)))).bind fun r1=>(if decide (r1.1<(0:Int))=true then some ((-1:Int),()) else some (r1.1,()))))
def DN:List cZ:=[.val KH [], .val (.int .i64) []]
def Nv:List jy:=[.val (.int .i64) [] []]
def EN:Entry:=⟨107,DN,Nv,fun n (c:Cont (kin DN))=>rE n c.1 c.2.1⟩
def OW:Hint:=⟨0,[],[],[],[(133,some 15,xL)],[],[],[],[]⟩
theorem OZ [Fr] (n:Nat):ak Tryz.prog n EN:=aj mixed aI Tryz.func107 (by kernel_rfl) (hi:=OW) (aa (Fa n) aA) (by intro n c; kernel_rfl)
def uj (n:Nat) (a0:List dQ) (a1:Int):Option (Int×Unit):=(if decide ((IntKind.i64.wrap (a1 - (a0.length:Int)))<(0:Int))=true then some ((-1:Int),()) else (rounds (fun L1 (v1:(List dQ)×Int×Int×Unit)=>(if decide (v1.2.2.1<(v1.1.length:Int))=true then (if aH v1.2.2.1 v1.1.length then ((rE n (v1.1.getD v1.2.2.1.toNat dG) v1.2.1).bind fun r2=>(if decide (r2.1<(0:Int))=true then some ((-1:Int),()) else L1 (v1.1,r2.1,IntKind.i64.wrap (v1.2.2.1+(1:Int)),()))) else none) else some (v1.2.1,()))) n (a0,IntKind.i64.wrap (a1 - (a0.length:Int)),(0:Int),())))
def Cu:List cZ:=[.val (.sl 142 KH) [], .val (.int .i64) []]
def MF:List jy:=[.val (.int .i64) [] []]
def Dz:Entry:=⟨78,Cu,MF,fun n (c:Cont (kin Cu))=>uj n c.1 c.2.1⟩
def M0:Hint:=⟨0,[],[(0,[0,1,5],[])],[],[(107,some 23,EN)],[],[],[],[]⟩
theorem M6 [Fr] (n:Nat):ak Tryz.prog n Dz:=aj mixed aI Tryz.func78 (by kernel_rfl) (hi:=M0) (aa (OZ n) aA) (by intro n c; kernel_rfl)
def wC (n:Nat) (a0:fO) (a1:Int):Option (Int×Unit):=((uj n a0.2.1 a1).bind fun r1=>(if decide (r1.1<(0:Int))=true then some ((-1:Int),()) else some (r1.1,())))
def Bn:List cZ:=[.val Tj [], .val (.int .i64) []]
def JJ:List jy:=[.val (.int .i64) [] []]
def BH:Entry:=⟨39,Bn,JJ,fun n (c:Cont (kin Bn))=>wC n c.1 c.2.1⟩
def Kh:Hint:=⟨0,[],[],[],[(78,some 8,Dz)],[],[],[],[]⟩
theorem Kt [Fr] (n:Nat):ak Tryz.prog n BH:=aj mixed aI Tryz.func39 (by kernel_rfl) (hi:=Kh) (aa (M6 n) aA) (by intro n c; kernel_rfl)
def rG (n:Nat) (a0:Ae) (a1:Int):Option (Int×Unit):=((lX n a0.2.1 a1).bind fun r1=>(if decide (r1.1<(0:Int))=true then some ((-1:Int),()) else ((lX n a0.2.2.1 r1.1).bind fun r2=>(if decide (r2.1<(0:Int))=true then some ((-1:Int),()) else ((wC n a0.2.2.2.1 r2.1).bind fun r3=>(if decide (r3.1<(0:Int))=true then some ((-1:Int),()) else some (r3.1,())))))))
def Bo:List cZ:=[.val Tp [], .val (.int .i64) []]
def JK:List jy:=[.val (.int .i64) [] []]
def BI:Entry:=⟨16,Bo,JK,fun n (c:Cont (kin Bo))=>rG n c.1 c.2.1⟩
def Ki:Hint:=⟨0,[],[],[],[(38,some 8,ru),(38,some 14,ru),(39,some 20,BH)],[],[],[],[]⟩
theorem Ku [Fr] (n:Nat):ak Tryz.prog n BI:=aj mixed aI Tryz.func16 (by kernel_rfl) (hi:=Ki) (aa (wF n) (aa (wF n) (aa (Kt n) aA))) (by intro n c; kernel_rfl)
def uX (n:Nat) (a0:List Int) (a1:Int):Option (Int×Unit):=(if decide ((IntKind.i64.wrap (a1 - (a0.length:Int)))<(0:Int))=true then some ((-1:Int),()) else some (IntKind.i64.wrap (a1 - (a0.length:Int)),()))
def zL:List cZ:=[.val (.sl 2 (.int .i64)) [], .val (.int .i64) []]
def Ip:List jy:=[.val (.int .i64) [] []]
def A8:Entry:=⟨79,zL,Ip,fun n (c:Cont (kin zL))=>uX n c.1 c.2.1⟩
def Jf:Hint:=⟨0,[],[],[],[],[],[],[],[]⟩
theorem Jl [Fr] (n:Nat):ak Tryz.prog n A8:=aj mixed aI Tryz.func79 (by kernel_rfl) (hi:=Jf) aA (by intro n c; kernel_rfl)
def lZ (n:Nat) (a0:EH) (a1:Int):Option (Int×Unit):=(if decide ((IntKind.i64.wrap (a1 - (a0.1.length:Int)))<(0:Int))=true then some ((-1:Int),()) else ((uX n a0.2.2.1 (IntKind.i64.wrap (a1 - (a0.1.length:Int)))).bind fun r1=>(if decide (r1.1<(0:Int))=true then some ((-1:Int),()) else some (r1.1,()))))
def yt:List cZ:=[.val xz [], .val (.int .i64) []]
def Gg:List jy:=[.val (.int .i64) [] []]
def y7:Entry:=⟨40,yt,Gg,fun n (c:Cont (kin yt))=>lZ n c.1 c.2.1⟩
def GL:Hint:=⟨0,[],[],[],[(79,some 15,A8)],[],[],[],[]⟩
theorem G7 [Fr] (n:Nat):ak Tryz.prog n y7:=aj mixed aI Tryz.func40 (by kernel_rfl) (hi:=GL) (aa (Jl n) aA) (by intro n c; kernel_rfl)
def rF (n:Nat) (a0:List EH) (a1:Int):Option (Int×Unit):=(if decide ((IntKind.i64.wrap (a1 - (a0.length:Int)))<(0:Int))=true then some ((-1:Int),()) else (rounds (fun L1 (v1:(List EH)×Int×Int×Unit)=>(if decide (v1.2.2.1<(v1.1.length:Int))=true then (if aH v1.2.2.1 v1.1.length then ((lZ n (v1.1.getD v1.2.2.1.toNat BD) v1.2.1).bind fun r2=>(if decide (r2.1<(0:Int))=true then some ((-1:Int),()) else L1 (v1.1,r2.1,IntKind.i64.wrap (v1.2.2.1+(1:Int)),()))) else none) else some (v1.2.1,()))) n (a0,IntKind.i64.wrap (a1 - (a0.length:Int)),(0:Int),())))
def xg:List cZ:=[.val (.sl 79 xz) [], .val (.int .i64) []]
def Ew:List jy:=[.val (.int .i64) [] []]
def xM:Entry:=⟨17,xg,Ew,fun n (c:Cont (kin xg))=>rF n c.1 c.2.1⟩
def EW:Hint:=⟨0,[],[(0,[0,1,5],[])],[],[(40,some 23,y7)],[],[],[],[]⟩
theorem Fb [Fr] (n:Nat):ak Tryz.prog n xM:=aj mixed aI Tryz.func17 (by kernel_rfl) (hi:=EW) (aa (G7 n) aA) (by intro n c; kernel_rfl)
def rH (n:Nat) (a0:Bw) (a1:Int):Option (Int×Unit):=((rG n a0.1 a1).bind fun r1=>(if decide (r1.1<(0:Int))=true then some ((-1:Int),()) else ((rF n a0.2.1 r1.1).bind fun r2=>(if decide (r2.1<(0:Int))=true then some ((-1:Int),()) else some (r2.1,())))))
def Bp:List cZ:=[.val Tt [], .val (.int .i64) []]
def JL:List jy:=[.val (.int .i64) [] []]
def BJ:Entry:=⟨5,Bp,JL,fun n (c:Cont (kin Bp))=>rH n c.1 c.2.1⟩
def Kj:Hint:=⟨0,[],[],[],[(16,some 8,BI),(17,some 14,xM)],[],[],[],[]⟩
theorem Kv [Fr] (n:Nat):ak Tryz.prog n BJ:=aj mixed aI Tryz.func5 (by kernel_rfl) (hi:=Kj) (aa (Ku n) (aa (Fb n) aA)) (by intro n c; kernel_rfl)
def l9 (n:Nat) (a0:List Int):Option ((List Int)×Unit):=(if (a0.length:Int)=(a0.length:Int)∧0≤(a0.length:Int)∧(a0.length:Int) * 1≤140737488355328 then (rounds (fun L1 (v1:(List Int)×Int×(List Int)×Unit)=>(if decide (v1.2.1<(v1.1.length:Int))=true then (if aH v1.2.1 v1.1.length then (if aH v1.2.1 v1.2.2.1.length then L1 (v1.1,IntKind.i64.wrap (v1.2.1+(1:Int)),v1.2.2.1.set v1.2.1.toNat (v1.1.getD v1.2.1.toNat (0:Int)),()) else none) else none) else some (v1.2.2.1,()))) n (a0,(0:Int),List.replicate (a0.length:Int).toNat (0:Int),())) else none)
def Bq:List cZ:=[.val (.sl 5 (.int .u8)) []]
def JM:List jy:=[.own (.sl 5 (.int .u8)) [5] [] []]
def ry:Entry:=⟨49,Bq,JM,fun n (c:Cont (kin Bq))=>l9 n c.1⟩
def Kk:Hint:=⟨0,[],[(0,[0,3,4],[226])],[],[],[],[],[],[]⟩
theorem wG [Fr] (n:Nat):ak Tryz.prog n ry:=aj mixed aI Tryz.func49 (by kernel_rfl) (hi:=Kk) aA (by intro n c; kernel_rfl)
def mg (n:Nat) (a0:qL):Option (qL×Unit):=((l9 n a0.2.2.2.1).bind fun r1=>some ((a0.1,a0.2.1,a0.2.2.1,r1.1,()),()))
def yu:List cZ:=[.val zh []]
def Gh:List jy:=[.own zh [5] [] []]
def y8:Entry:=⟨172,yu,Gh,fun n (c:Cont (kin yu))=>mg n c.1⟩
def GM:Hint:=⟨0,[17],[],[],[(49,some 15,ry)],[],[],[],[]⟩
theorem G8 [Fr] (n:Nat):ak Tryz.prog n y8:=aj mixed aI Tryz.func172 (by kernel_rfl) (hi:=GM) (aa (wG n) aA) (by intro n c; kernel_rfl)
def oz (n:Nat) (a0:List qL):Option ((List qL)×Unit):=(if (a0.length:Int)=(a0.length:Int)∧0≤(a0.length:Int)∧(a0.length:Int) * 48≤140737488355328 then (rounds (fun L1 (v1:(List qL)×Int×(List qL)×Unit)=>(if decide (v1.2.1<(v1.1.length:Int))=true then (if aH v1.2.1 v1.1.length then ((mg n (v1.1.getD v1.2.1.toNat kN)).bind fun r2=>(if aH v1.2.1 v1.2.2.1.length then L1 (v1.1,IntKind.i64.wrap (v1.2.1+(1:Int)),v1.2.2.1.set v1.2.1.toNat r2.1,()) else none)) else none) else some (v1.2.2.1,()))) n (a0,(0:Int),List.replicate (a0.length:Int).toNat kN,())) else none)
def xh:List cZ:=[.val (.sl 203 zh) []]
def Ey:List jy:=[.own (.sl 162 zh) [5,162] [] []]
def xN:Entry:=⟨150,xh,Ey,fun n (c:Cont (kin xh))=>oz n c.1⟩
def EX:Hint:=⟨0,[],[(0,[0,3,4],[226])],[],[(172,some 20,y8)],[],[],[],[]⟩
theorem Fe [Fr] (n:Nat):ak Tryz.prog n xN:=aj mixed aI Tryz.func150 (by kernel_rfl) (hi:=EX) (aa (G8 n) aA) (by intro n c; kernel_rfl)
def rJ (n:Nat) (a0:dQ):Option (dQ×Unit):=((oz n a0.2.2.2.1).bind fun r1=>some ((a0.1,a0.2.1,a0.2.2.1,r1.1,()),()))
def DR:List cZ:=[.val KH []]
def Nw:List jy:=[.own nP [5,162] [] []]
def EO:Entry:=⟨115,DR,Nw,fun n (c:Cont (kin DR))=>rJ n c.1⟩
def OX:Hint:=⟨0,[17],[],[],[(150,some 15,xN)],[],[],[],[]⟩
theorem O0 [Fr] (n:Nat):ak Tryz.prog n EO:=aj mixed aI Tryz.func115 (by kernel_rfl) (hi:=OX) (aa (Fe n) aA) (by intro n c; kernel_rfl)
def um (n:Nat) (a0:List dQ):Option ((List dQ)×Unit):=(if (a0.length:Int)=(a0.length:Int)∧0≤(a0.length:Int)∧(a0.length:Int) * 56≤140737488355328 then (rounds (fun L1 (v1:(List dQ)×fO)=>(if decide (v1.2.1<(v1.1.length:Int))=true then (if aH v1.2.1 v1.1.length then ((rJ n (v1.1.getD v1.2.1.toNat dG)).bind fun r2=>(if aH v1.2.1 v1.2.2.1.length then L1 (v1.1,IntKind.i64.wrap (v1.2.1+(1:Int)),v1.2.2.1.set v1.2.1.toNat r2.1,()) else none)) else none) else some (v1.2.2.1,()))) n (a0,(0:Int),List.replicate (a0.length:Int).toNat dG,())) else none)
def Cv:List cZ:=[.val (.sl 142 KH) []]
def MG:List jy:=[.own (.sl 147 nP) [5,147,162] [] []]
def DC:Entry:=⟨90,Cv,MG,fun n (c:Cont (kin Cv))=>um n c.1⟩
def M3:Hint:=⟨0,[],[(0,[0,3,4],[226])],[],[(115,some 20,EO)],[],[],[],[]⟩
theorem M7 [Fr] (n:Nat):ak Tryz.prog n DC:=aj mixed aI Tryz.func90 (by kernel_rfl) (hi:=M3) (aa (O0 n) aA) (by intro n c; kernel_rfl)
def rO (n:Nat) (a0:fO):Option (fO×Unit):=((um n a0.2.1).bind fun r1=>some ((a0.1,r1.1,()),()))
def Br:List cZ:=[.val Tj []]
def JN:List jy:=[.own ql [5,147,162] [] []]
def BK:Entry:=⟨50,Br,JN,fun n (c:Cont (kin Br))=>rO n c.1⟩
def Kl:Hint:=⟨0,[11],[],[],[(90,some 9,DC)],[],[],[],[]⟩
theorem Kw [Fr] (n:Nat):ak Tryz.prog n BK:=aj mixed aI Tryz.func50 (by kernel_rfl) (hi:=Kl) (aa (M7 n) aA) (by intro n c; kernel_rfl)
def rP (n:Nat) (a0:Ae):Option (Ae×Unit):=((l9 n a0.2.1).bind fun r1=>((l9 n a0.2.2.1).bind fun r2=>((rO n a0.2.2.2.1).bind fun r3=>some ((a0.1,r1.1,r2.1,r3.1,()),()))))
def Bt:List cZ:=[.val Tp []]
def JO:List jy:=[.own BQ [5,147,162] [] []]
def BL:Entry:=⟨22,Bt,JO,fun n (c:Cont (kin Bt))=>rP n c.1⟩
def Km:Hint:=⟨0,[19],[],[],[(49,some 9,ry),(49,some 13,ry),(50,some 17,BK)],[],[],[],[]⟩
theorem Ky [Fr] (n:Nat):ak Tryz.prog n BL:=aj mixed aI Tryz.func22 (by kernel_rfl) (hi:=Km) (aa (wG n) (aa (wG n) (aa (Kw n) aA))) (by intro n c; kernel_rfl)
def qG (n:Nat) (a0:List Int):Option ((List Int)×Unit):=(if (a0.length:Int)=(a0.length:Int)∧0≤(a0.length:Int)∧(a0.length:Int) * 8≤140737488355328 then (rounds (fun L1 (v1:(List Int)×Int×(List Int)×Unit)=>(if decide (v1.2.1<(v1.1.length:Int))=true then (if aH v1.2.1 v1.1.length then (if aH v1.2.1 v1.2.2.1.length then L1 (v1.1,IntKind.i64.wrap (v1.2.1+(1:Int)),v1.2.2.1.set v1.2.1.toNat (v1.1.getD v1.2.1.toNat (0:Int)),()) else none) else none) else some (v1.2.2.1,()))) n (a0,(0:Int),List.replicate (a0.length:Int).toNat (0:Int),())) else none)
def zM:List cZ:=[.val (.sl 2 (.int .i64)) []]
def Iq:List jy:=[.own (.sl 2 (.int .i64)) [2] [] []]
def A9:Entry:=⟨91,zM,Iq,fun n (c:Cont (kin zM))=>qG n c.1⟩
def Jg:Hint:=⟨0,[],[(0,[0,3,4],[226])],[],[],[],[],[],[]⟩
theorem Jm [Fr] (n:Nat):ak Tryz.prog n A9:=aj mixed aI Tryz.func91 (by kernel_rfl) (hi:=Jg) aA (by intro n c; kernel_rfl)
def pW (n:Nat) (a0:EH):Option (EH×Unit):=((qG n a0.2.2.1).bind fun r1=>some ((a0.1,a0.2.1,r1.1,a0.2.2.2.1,()),()))
def yw:List cZ:=[.val xz []]
def Gi:List jy:=[.own xz [2] [] []]
def y9:Entry:=⟨51,yw,Gi,fun n (c:Cont (kin yw))=>pW n c.1⟩
def GN:Hint:=⟨0,[17],[],[],[(91,some 12,A9)],[],[],[],[]⟩
theorem G9 [Fr] (n:Nat):ak Tryz.prog n y9:=aj mixed aI Tryz.func51 (by kernel_rfl) (hi:=GN) (aa (Jm n) aA) (by intro n c; kernel_rfl)
def rM (n:Nat) (a0:List EH):Option ((List EH)×Unit):=(if (a0.length:Int)=(a0.length:Int)∧0≤(a0.length:Int)∧(a0.length:Int) * 56≤140737488355328 then (rounds (fun L1 (v1:(List EH)×Int×(List EH)×Unit)=>(if decide (v1.2.1<(v1.1.length:Int))=true then (if aH v1.2.1 v1.1.length then ((pW n (v1.1.getD v1.2.1.toNat BD)).bind fun r2=>(if aH v1.2.1 v1.2.2.1.length then L1 (v1.1,IntKind.i64.wrap (v1.2.1+(1:Int)),v1.2.2.1.set v1.2.1.toNat r2.1,()) else none)) else none) else some (v1.2.2.1,()))) n (a0,(0:Int),List.replicate (a0.length:Int).toNat BD,())) else none)
def xk:List cZ:=[.val (.sl 79 xz) []]
def EA:List jy:=[.own (.sl 74 xz) [2,74] [] []]
def xO:Entry:=⟨23,xk,EA,fun n (c:Cont (kin xk))=>rM n c.1⟩
def EY:Hint:=⟨0,[],[(0,[0,3,4],[226])],[],[(51,some 20,y9)],[],[],[],[]⟩
theorem Fg [Fr] (n:Nat):ak Tryz.prog n xO:=aj mixed aI Tryz.func23 (by kernel_rfl) (hi:=EY) (aa (G9 n) aA) (by intro n c; kernel_rfl)
def jG (n:Nat) (a0:Bw):Option (Bw×Unit):=((rP n a0.1).bind fun r1=>((rM n a0.2.1).bind fun r2=>some ((r1.1,r2.1,()),())))
def Bu:List cZ:=[.val Tt []]
def JP:List jy:=[.own Jp [2,5,74,147,162] [] []]
def oN:Entry:=⟨7,Bu,JP,fun n (c:Cont (kin Bu))=>jG n c.1⟩
def Kn:Hint:=⟨0,[12],[],[],[(22,some 6,BL),(23,some 10,xO)],[],[],[],[]⟩
theorem rY [Fr] (n:Nat):ak Tryz.prog n oN:=aj mixed aI Tryz.func7 (by kernel_rfl) (hi:=Kn) (aa (Ky n) (aa (Fg n) aA)) (by intro n c; kernel_rfl)
def bK (n:Nat) (a0:Int) (a1:Int) (a2:Int):Option (Bool×Unit):=(if decide (a0≥a1)=true then some (decide (a0≤a2),()) else some (false,()))
def SG:Entry:=⟨74,[.val (.int .i64) [], .val (.int .i64) [], .val (.int .i64) []],[.val .bool [] []],fun n c=>bK n c.1 c.2.1 c.2.2.1⟩
def H_0:Hint:=⟨0,[],[],[],[],[],[],[],[]⟩
theorem SY [Fr] (n:Nat):ak Tryz.prog n SG:=aj mixed aI Tryz.func74 (by kernel_rfl) (hi:=H_0) aA (by intro n c; kernel_rfl)
def jh (n:Nat) (a0:List Int):Option (Bool×Unit):=(rounds (fun L1 (v1:Zt0)=>(if decide (v1.2.1<(v1.1.length:Int))=true then (if aH v1.2.1 v1.1.length then (if decide ((v1.1.getD v1.2.1.toNat 0)<(97:Int))=true then some (false,()) else (if aH v1.2.1 v1.1.length then (if decide ((v1.1.getD v1.2.1.toNat 0)>(122:Int))=true then some (false,()) else L1 (v1.1,IntKind.i64.wrap (v1.2.1+(1:Int)),())) else none)) else none) else ((bK n (v1.1.length:Int) (1:Int) (8:Int)).bind fun r2=>some (r2.1,())))) n (a0,(0:Int),()))
def E_1:Entry:=⟨85,[.val .str []],[.val .bool [] []],fun n c=>jh n c.1⟩
def H_1:Hint:=⟨0,[],[(0,[0,3],[])],[],[(74,some 22,SG)],[],[],[],[]⟩
theorem K_1 [Fr] (n:Nat):ak Tryz.prog n E_1:=aj mixed aI Tryz.func85 (by kernel_rfl) (hi:=H_1) (aa (SY n) aA) (by intro n c; kernel_rfl)
def gX (n:Nat) (a0:qL):Option (Int×Unit):=((bK n a0.1 (1:Int) (999:Int)).bind fun r1=>(if (!r1.1)=true then some ((3:Int),()) else ((bK n a0.2.1 (0:Int) (15:Int)).bind fun r2=>(if (!r2.1)=true then some ((3:Int),()) else ((bK n a0.2.2.1 (0:Int) (9999:Int)).bind fun r3=>(if (!r3.1)=true then some ((3:Int),()) else (if decide ((a0.2.2.2.1.length:Int)>(400:Int))=true then some ((2:Int),()) else some ((0:Int),()))))))))
def E_2:Entry:=⟨134,[.ro zh],[.val (.int .i64) [] []],fun n c=>gX n c.1⟩
def H_2:Hint:=⟨0,[],[],[],[(74,some 7,SG),(74,some 14,SG),(74,some 22,SG)],[],[],[],[]⟩
theorem K_2 [Fr] (n:Nat):ak Tryz.prog n E_2:=aj mixed aI Tryz.func134 (by kernel_rfl) (hi:=H_2) (aa (SY n) (aa (SY n) (aa (SY n) aA))) (by intro n c; kernel_rfl)
def nu (n:Nat) (a0:dQ):Option (Int×Unit):=((jh n a0.1).bind fun r1=>(if (!r1.1)=true then some ((5:Int),()) else ((bK n a0.2.1 (1:Int) (999:Int)).bind fun r2=>(if (!r2.1)=true then some ((3:Int),()) else ((bK n a0.2.2.1 (1:Int) (1000:Int)).bind fun r3=>(if (!r3.1)=true then some ((3:Int),()) else (if decide ((a0.2.2.2.1.length:Int)>(6:Int))=true then some ((2:Int),()) else (rounds (fun L4 (v4:dQ×Int×Unit)=>(if decide (v4.2.1<(v4.1.2.2.2.1.length:Int))=true then (if aH v4.2.1 v4.1.2.2.2.1.length then ((gX n (v4.1.2.2.2.1.getD v4.2.1.toNat kN)).bind fun r5=>(if (!decide (r5.1=(0:Int)))=true then some (r5.1,()) else (if decide (v4.2.1>(0:Int))=true then (if aH v4.2.1 v4.1.2.2.2.1.length then (if aH (IntKind.i64.wrap (v4.2.1 - (1:Int))) v4.1.2.2.2.1.length then (if decide (((v4.1.2.2.2.1.getD v4.2.1.toNat kN).1)≤((v4.1.2.2.2.1.getD (IntKind.i64.wrap (v4.2.1 - (1:Int))).toNat kN).1))=true then some ((1:Int),()) else (if aH v4.2.1 v4.1.2.2.2.1.length then (if decide (((v4.1.2.2.2.1.getD v4.2.1.toNat kN).1)≥v4.1.2.2.1)=true then some ((1:Int),()) else L4 (v4.1,IntKind.i64.wrap (v4.2.1+(1:Int)),())) else none)) else none) else none) else (if aH v4.2.1 v4.1.2.2.2.1.length then (if decide (((v4.1.2.2.2.1.getD v4.2.1.toNat kN).1)≥v4.1.2.2.1)=true then some ((1:Int),()) else L4 (v4.1,IntKind.i64.wrap (v4.2.1+(1:Int)),())) else none)))) else none) else some ((0:Int),()))) n (a0,(0:Int),())))))))))
def E_3:Entry:=⟨108,[.ro nP],[.val (.int .i64) [] []],fun n c=>nu n c.1⟩
def H_3:Hint:=⟨0,[],[(0,[0,3],[])],[],[(85,some 9,E_1),(74,some 15,SG),(74,some 22,SG),(134,some 46,E_2)],[],[],[],[]⟩
theorem K_3 [Fr] (n:Nat):ak Tryz.prog n E_3:=aj mixed aI Tryz.func108 (by kernel_rfl) (hi:=H_3) (aa (K_1 n) (aa (SY n) (aa (SY n) (aa (K_2 n) aA)))) (by intro n c; kernel_rfl)
def jH (n:Nat) (a0:fO):Option (Int×Unit):=((bK n a0.1 (1:Int) (1000:Int)).bind fun r1=>(if (!r1.1)=true then some ((3:Int),()) else (if decide ((a0.2.1.length:Int)>(3:Int))=true then some ((2:Int),()) else (rounds (fun L2 (v2:fO×Int×Unit)=>(if decide (v2.2.1<(v2.1.2.1.length:Int))=true then (if aH v2.2.1 v2.1.2.1.length then ((nu n (v2.1.2.1.getD v2.2.1.toNat dG)).bind fun r3=>(if (!decide (r3.1=(0:Int)))=true then some (r3.1,()) else (if aH v2.2.1 v2.1.2.1.length then (if decide ((((v2.1.2.1.getD v2.2.1.toNat dG).2).1)≥v2.1.1)=true then some ((9:Int),()) else (rounds (fun L4 (v4:fO×Int×Int×Unit)=>(if decide (v4.2.2.1<v4.2.1)=true then (if aH v4.2.2.1 v4.1.2.1.length then (if aH v4.2.1 v4.1.2.1.length then (if decide (((v4.1.2.1.getD v4.2.2.1.toNat dG).1)=((v4.1.2.1.getD v4.2.1.toNat dG).1))=true then some ((6:Int),()) else (if aH v4.2.2.1 v4.1.2.1.length then (if aH v4.2.1 v4.1.2.1.length then (if decide ((((v4.1.2.1.getD v4.2.2.1.toNat dG).2).1)=(((v4.1.2.1.getD v4.2.1.toNat dG).2).1))=true then some ((6:Int),()) else L4 (v4.1,v4.2.1,IntKind.i64.wrap (v4.2.2.1+(1:Int)),())) else none) else none)) else none) else none) else L2 (v4.1,IntKind.i64.wrap (v4.2.1+(1:Int)),()))) n (v2.1,v2.2.1,(0:Int),()))) else none))) else none) else some ((0:Int),()))) n (a0,(0:Int),())))))
def E_4:Entry:=⟨80,[.ro ql],[.val (.int .i64) [] []],fun n c=>jH n c.1⟩
def H_4:Hint:=⟨0,[],[(0,[0,3],[]),(2,[0,3,5],[])],[],[(74,some 10,SG),(108,some 33,E_3)],[],[],[],[]⟩
theorem K_4 [Fr] (n:Nat):ak Tryz.prog n E_4:=aj mixed aI Tryz.func80 (by kernel_rfl) (hi:=H_4) (aa (SY n) (aa (K_3 n) aA)) (by intro n c; kernel_rfl)
def dh (n:Nat) (a0:Zt2):Option (Int×Zt2×Unit):=(if decide (a0.2.1≥(a0.1.length:Int))=true then some ((0:Int),(a0.1,a0.2.1,true,a0.2.2.2),()) else (if aH (IntKind.i64.wrap ((IntKind.i64.wrap (a0.2.1+(1:Int))) - (1:Int))) a0.1.length then some (IntKind.i64.wrap (a0.1.getD (IntKind.i64.wrap ((IntKind.i64.wrap (a0.2.1+(1:Int))) - (1:Int))).toNat (0:Int)),(a0.1,IntKind.i64.wrap (a0.2.1+(1:Int)),a0.2.2),()) else none))
def E_5:Entry:=⟨136,[.rw V9 [] [4294967295] []],[.val (.int .i64) [] []],fun n c=>dh n c.1⟩
def H_5:Hint:=⟨0,[],[],[],[],[],[],[],[]⟩
theorem K_5 [Fr] (n:Nat):ak Tryz.prog n E_5:=aj mixed aI Tryz.func136 (by kernel_rfl) (hi:=H_5) aA (by intro n c; kernel_rfl)
def iD (n:Nat) (a0:Zt2) (a1:Int):Option ((List Int)×Zt2×Unit):=(rounds (fun L1 (v1:Int×Zt2×(List Int)×Unit)=>(if decide (v1.1>(0:Int))=true then (if (!v1.2.1.2.2.1)=true then ((dh n v1.2.1).bind fun r2=>(if (v1.2.2.1.length+[IntKind.u8.wrap r2.1].length) * 1≤140737488355328 then L1 (IntKind.i64.wrap (v1.1 - (1:Int)),r2.2.1,v1.2.2.1++[IntKind.u8.wrap r2.1],()) else none)) else some (v1.2.2.1,v1.2.1,())) else some (v1.2.2.1,v1.2.1,()))) n (a1,a0,([]:List Int),()))
def E_6:Entry:=⟨137,[.rw V9 [] [4294967295] [], .val (.int .i64) []],[.own (.sl 5 (.int .u8)) [5] [] []],fun n c=>iD n c.1 c.2.1⟩
def H_6:Hint:=⟨0,[],[(0,[0,1,5],[0,194])],[],[(136,some 20,E_5)],[],[],[],[]⟩
theorem K_6 [Fr] (n:Nat):ak Tryz.prog n E_6:=aj mixed aI Tryz.func137 (by kernel_rfl) (hi:=H_6) (aa (K_5 n) aA) (by intro n c; kernel_rfl)
def gp (n:Nat) (a0:Zt2):Option (Int×Zt2×Unit):=((dh n a0).bind fun r1=>((dh n r1.2.1).bind fun r2=>some (IntKind.i64.wrap ((IntKind.i64.wrap (r1.1 * (256:Int)))+r2.1),r2.2.1,())))
def E_7:Entry:=⟨138,[.rw V9 [] [4294967295] []],[.val (.int .i64) [] []],fun n c=>gp n c.1⟩
def H_7:Hint:=⟨0,[],[],[],[(136,some 5,E_5),(136,some 9,E_5)],[],[],[],[]⟩
theorem K_7 [Fr] (n:Nat):ak Tryz.prog n E_7:=aj mixed aI Tryz.func138 (by kernel_rfl) (hi:=H_7) (aa (K_5 n) (aa (K_5 n) aA)) (by intro n c; kernel_rfl)
def uD (n:Nat) (a0:List Int):Option (iE×Unit):=((dh n (a0,(2:Int),false,())).bind fun r1=>((dh n r1.2.1).bind fun r2=>((iD n r2.2.1 r2.1).bind fun r3=>((dh n r3.2.1).bind fun r4=>((iD n r4.2.1 r4.1).bind fun r5=>((dh n r5.2.1).bind fun r6=>(rounds (fun L7 (v7:Int×iE×Zt2×iE×Unit)=>(if decide (v7.1>(0:Int))=true then (if (!v7.2.2.1.2.2.1)=true then ((gp n v7.2.2.1).bind fun r8=>(if (v7.2.2.2.1.2.2.2.1.length+[r8.1].length) * 8≤140737488355328 then L7 (IntKind.i64.wrap (v7.1 - (1:Int)),v7.2.1,r8.2.1,(v7.2.2.2.1.1,v7.2.2.2.1.2.1,v7.2.2.2.1.2.2.1,v7.2.2.2.1.2.2.2.1++[r8.1],v7.2.2.2.1.2.2.2.2),()) else none)) else ((dh n v7.2.2.1).bind fun r9=>((dh n r9.2.1).bind fun Qb=>((gp n Qb.2.1).bind fun J4=>((gp n J4.2.1).bind fun Ms=>((iD n Ms.2.1 Ms.1).bind fun Qt=>some ((v7.2.2.2.1.1,v7.2.2.2.1.2.1,v7.2.2.2.1.2.2.1,v7.2.2.2.1.2.2.2.1,r9.1,Qb.1,J4.1,Qt.1,v7.2.2.2.1.2.2.2.2.2.2.2.2),()))))))) else ((dh n v7.2.2.1).bind fun r14=>((dh n r14.2.1).bind fun VL=>((gp n VL.2.1).bind fun r16=>((gp n r16.2.1).bind fun r17=>((iD n r17.2.1 r17.1).bind fun r18=>some ((v7.2.2.2.1.1,v7.2.2.2.1.2.1,v7.2.2.2.1.2.2.1,v7.2.2.2.1.2.2.2.1,r14.1,VL.1,r16.1,r18.1,v7.2.2.2.1.2.2.2.2.2.2.2.2),())))))))) n (r6.1,Fq,r6.2.1,(r1.1,r3.1,r5.1,([]:List Int),(0:Int),(0:Int),(0:Int),([]:List Int),()),()))))))))
def E_8:Entry:=⟨110,[.val (.sl 5 (.int .u8)) []],[.own jW [2,5] [] []],fun n c=>uD n c.1⟩
def H_8:Hint:=⟨0,[30,45],[(0,[2,3,4,5],[66,98,130])],[],[(136,some 9,E_5),(136,some 11,E_5),(137,some 12,E_6),(136,some 15,E_5),(137,some 16,E_6),(136,some 19,E_5),(138,some 31,E_7),(136,some 35,E_5),(136,some 37,E_5),(138,some 39,E_7),(138,some 41,E_7),(137,some 43,E_6)],[],[],[],[]⟩
theorem K_8 [Fr] (n:Nat):ak Tryz.prog n E_8:=aj mixed aI Tryz.func110 (by kernel_rfl) (hi:=H_8) (aa (K_5 n) (aa (K_5 n) (aa (K_6 n) (aa (K_5 n) (aa (K_6 n) (aa (K_5 n) (aa (K_7 n) (aa (K_5 n) (aa (K_5 n) (aa (K_7 n) (aa (K_7 n) (aa (K_6 n) aA)))))))))))) (by intro n c; kernel_rfl)
def iK (n:Nat) (a0:Int):Option (Bool×Unit):=(if decide (a0=(5:Int))=true then some (true,()) else some (decide (a0=(6:Int)),()))
def E_9:Entry:=⟨140,[.val (.int .i64) []],[.val .bool [] []],fun n c=>iK n c.1⟩
def H_9:Hint:=⟨0,[],[],[],[],[],[],[],[]⟩
theorem K_9 [Fr] (n:Nat):ak Tryz.prog n E_9:=aj mixed aI Tryz.func140 (by kernel_rfl) (hi:=H_9) aA (by intro n c; kernel_rfl)
def uA (n:Nat) (a0:iE):Option (Bool×Unit):=((bK n a0.1 (1:Int) (7:Int)).bind fun r1=>(if (!r1.1)=true then some (false,()) else ((iK n a0.1).bind fun r2=>(if (!r2.1)=true then (if (!decide (a0.2.2.1=([]:List Int)))=true then some (false,()) else ((iK n a0.1).bind fun r3=>(if (!r3.1)=true then (if (!decide (a0.1=(4:Int)))=true then (if decide ((a0.2.2.2.1.length:Int)>(0:Int))=true then some (false,()) else (if (!decide (a0.1=(4:Int)))=true then (if (!decide (a0.2.2.2.2.1=(0:Int)))=true then some (false,()) else (if (!decide (a0.1=(3:Int)))=true then (if (!decide (a0.2.2.2.2.2.2.1=(0:Int)))=true then some (false,()) else (if decide ((a0.2.2.2.2.2.2.2.1.length:Int)>(0:Int))=true then some (false,()) else (if decide (a0.1=(3:Int))=true then some (true,()) else (if decide (a0.1=(4:Int))=true then some (true,()) else some (decide (a0.2.2.2.2.2.1=(0:Int)),()))))) else (if decide (a0.1=(3:Int))=true then some (true,()) else (if decide (a0.1=(4:Int))=true then some (true,()) else some (decide (a0.2.2.2.2.2.1=(0:Int)),()))))) else (if (!decide (a0.1=(3:Int)))=true then (if (!decide (a0.2.2.2.2.2.2.1=(0:Int)))=true then some (false,()) else (if decide ((a0.2.2.2.2.2.2.2.1.length:Int)>(0:Int))=true then some (false,()) else (if decide (a0.1=(3:Int))=true then some (true,()) else (if decide (a0.1=(4:Int))=true then some (true,()) else some (decide (a0.2.2.2.2.2.1=(0:Int)),()))))) else (if decide (a0.1=(3:Int))=true then some (true,()) else (if decide (a0.1=(4:Int))=true then some (true,()) else some (decide (a0.2.2.2.2.2.1=(0:Int)),())))))) else (if (!decide (a0.1=(4:Int)))=true then (if (!decide (a0.2.2.2.2.1=(0:Int)))=true then some (false,()) else (if (!decide (a0.1=(3:Int)))=true then (if (!decide (a0.2.2.2.2.2.2.1=(0:Int)))=true then some (false,()) else (if decide ((a0.2.2.2.2.2.2.2.1.length:Int)>(0:Int))=true then some (false,()) else (if decide (a0.1=(3:Int))=true then some (true,()) else (if decide (a0.1=(4:Int))=true then some (true,()) else some (decide (a0.2.2.2.2.2.1=(0:Int)),()))))) else (if decide (a0.1=(3:Int))=true then some (true,()) else (if decide (a0.1=(4:Int))=true then some (true,()) else some (decide (a0.2.2.2.2.2.1=(0:Int)),()))))) else (if (!decide (a0.1=(3:Int)))=true then (if (!decide (a0.2.2.2.2.2.2.1=(0:Int)))=true then some (false,()) else (if decide ((a0.2.2.2.2.2.2.2.1.length:Int)>(0:Int))=true then some (false,()) else (if decide (a0.1=(3:Int))=true then some (true,()) else (if decide (a0.1=(4:Int))=true then some (true,()) else some (decide (a0.2.2.2.2.2.1=(0:Int)),()))))) else (if decide (a0.1=(3:Int))=true then some (true,()) else (if decide (a0.1=(4:Int))=true then some (true,()) else some (decide (a0.2.2.2.2.2.1=(0:Int)),())))))) else (if (!decide (a0.1=(4:Int)))=true then (if (!decide (a0.2.2.2.2.1=(0:Int)))=true then some (false,()) else (if (!decide (a0.1=(3:Int)))=true then (if (!decide (a0.2.2.2.2.2.2.1=(0:Int)))=true then some (false,()) else (if decide ((a0.2.2.2.2.2.2.2.1.length:Int)>(0:Int))=true then some (false,()) else (if decide (a0.1=(3:Int))=true then some (true,()) else (if decide (a0.1=(4:Int))=true then some (true,()) else some (decide (a0.2.2.2.2.2.1=(0:Int)),()))))) else (if decide (a0.1=(3:Int))=true then some (true,()) else (if decide (a0.1=(4:Int))=true then some (true,()) else some (decide (a0.2.2.2.2.2.1=(0:Int)),()))))) else (if (!decide (a0.1=(3:Int)))=true then (if (!decide (a0.2.2.2.2.2.2.1=(0:Int)))=true then some (false,()) else (if decide ((a0.2.2.2.2.2.2.2.1.length:Int)>(0:Int))=true then some (false,()) else (if decide (a0.1=(3:Int))=true then some (true,()) else (if decide (a0.1=(4:Int))=true then some (true,()) else some (decide (a0.2.2.2.2.2.1=(0:Int)),()))))) else (if decide (a0.1=(3:Int))=true then some (true,()) else (if decide (a0.1=(4:Int))=true then some (true,()) else some (decide (a0.2.2.2.2.2.1=(0:Int)),())))))))) else ((iK n a0.1).bind fun r4=>(if (!r4.1)=true then (if (!decide (a0.1=(4:Int)))=true then (if decide ((a0.2.2.2.1.length:Int)>(0:Int))=true then some (false,()) else (if (!decide (a0.1=(4:Int)))=true then (if (!decide (a0.2.2.2.2.1=(0:Int)))=true then some (false,()) else (if (!decide (a0.1=(3:Int)))=true then (if (!decide (a0.2.2.2.2.2.2.1=(0:Int)))=true then some (false,()) else (if decide ((a0.2.2.2.2.2.2.2.1.length:Int)>(0:Int))=true then some (false,()) else (if decide (a0.1=(3:Int))=true then some (true,()) else (if decide (a0.1=(4:Int))=true then some (true,()) else some (decide (a0.2.2.2.2.2.1=(0:Int)),()))))) else (if decide (a0.1=(3:Int))=true then some (true,()) else (if decide (a0.1=(4:Int))=true then some (true,()) else some (decide (a0.2.2.2.2.2.1=(0:Int)),()))))) else (if (!decide (a0.1=(3:Int)))=true then (if (!decide (a0.2.2.2.2.2.2.1=(0:Int)))=true then some (false,()) else (if decide ((a0.2.2.2.2.2.2.2.1.length:Int)>(0:Int))=true then some (false,()) else (if decide (a0.1=(3:Int))=true then some (true,()) else (if decide (a0.1=(4:Int))=true then some (true,()) else some (decide (a0.2.2.2.2.2.1=(0:Int)),()))))) else (if decide (a0.1=(3:Int))=true then some (true,()) else (if decide (a0.1=(4:Int))=true then some (true,()) else some (decide (a0.2.2.2.2.2.1=(0:Int)),())))))) else (if (!decide (a0.1=(4:Int)))=true then (if (!decide (a0.2.2.2.2.1=(0:Int)))=true then some (false,()) else (if (!decide (a0.1=(3:Int)))=true then (if (!decide (a0.2.2.2.2.2.2.1=(0:Int)))=true then some (false,()) else (if decide ((a0.2.2.2.2.2.2.2.1.length:Int)>(0:Int))=true then some (false,()) else (if decide (a0.1=(3:Int))=true then some (true,()) else (if decide (a0.1=(4:Int))=true then some (true,()) else some (decide (a0.2.2.2.2.2.1=(0:Int)),()))))) else (if decide (a0.1=(3:Int))=true then some (true,()) else (if decide (a0.1=(4:Int))=true then some (true,()) else some (decide (a0.2.2.2.2.2.1=(0:Int)),()))))) else (if (!decide (a0.1=(3:Int)))=true then (if (!decide (a0.2.2.2.2.2.2.1=(0:Int)))=true then some (false,()) else (if decide ((a0.2.2.2.2.2.2.2.1.length:Int)>(0:Int))=true then some (false,()) else (if decide (a0.1=(3:Int))=true then some (true,()) else (if decide (a0.1=(4:Int))=true then some (true,()) else some (decide (a0.2.2.2.2.2.1=(0:Int)),()))))) else (if decide (a0.1=(3:Int))=true then some (true,()) else (if decide (a0.1=(4:Int))=true then some (true,()) else some (decide (a0.2.2.2.2.2.1=(0:Int)),())))))) else (if (!decide (a0.1=(4:Int)))=true then (if (!decide (a0.2.2.2.2.1=(0:Int)))=true then some (false,()) else (if (!decide (a0.1=(3:Int)))=true then (if (!decide (a0.2.2.2.2.2.2.1=(0:Int)))=true then some (false,()) else (if decide ((a0.2.2.2.2.2.2.2.1.length:Int)>(0:Int))=true then some (false,()) else (if decide (a0.1=(3:Int))=true then some (true,()) else (if decide (a0.1=(4:Int))=true then some (true,()) else some (decide (a0.2.2.2.2.2.1=(0:Int)),()))))) else (if decide (a0.1=(3:Int))=true then some (true,()) else (if decide (a0.1=(4:Int))=true then some (true,()) else some (decide (a0.2.2.2.2.2.1=(0:Int)),()))))) else (if (!decide (a0.1=(3:Int)))=true then (if (!decide (a0.2.2.2.2.2.2.1=(0:Int)))=true then some (false,()) else (if decide ((a0.2.2.2.2.2.2.2.1.length:Int)>(0:Int))=true then some (false,()) else (if decide (a0.1=(3:Int))=true then some (true,()) else (if decide (a0.1=(4:Int))=true then some (true,()) else some (decide (a0.2.2.2.2.2.1=(0:Int)),()))))) else (if decide (a0.1=(3:Int))=true then some (true,()) else (if decide (a0.1=(4:Int))=true then some (true,()) else some (decide (a0.2.2.2.2.2.1=(0:Int)),())))))))))))
def afq:Entry:=⟨139,[.ro jW],[.val .bool [] []],fun n c=>uA n c.1⟩
def aiY:Hint:=⟨0,[],[],[],[(74,some 7,SG),(140,some 14,E_9),(140,some 28,E_9)],[],[],[],[]⟩
theorem ako [Fr] (n:Nat):ak Tryz.prog n afq:=aj mixed aI Tryz.func139 (by kernel_rfl) (hi:=aiY) (aa (SY n) (aa (K_9 n) (aa (K_9 n) aA))) (by intro n c; kernel_rfl)
def nV (n:Nat) (a0:List Int):Option (Bool×Unit):=(rounds (fun L1 (v1:Zt0)=>(if decide (v1.2.1<(v1.1.length:Int))=true then (if aH v1.2.1 v1.1.length then ((bK n (v1.1.getD v1.2.1.toNat (0:Int)) (1:Int) (999:Int)).bind fun r2=>(if (!r2.1)=true then some (false,()) else (if decide (v1.2.1>(0:Int))=true then (if aH v1.2.1 v1.1.length then (if aH (IntKind.i64.wrap (v1.2.1 - (1:Int))) v1.1.length then (if decide ((v1.1.getD v1.2.1.toNat (0:Int))≤(v1.1.getD (IntKind.i64.wrap (v1.2.1 - (1:Int))).toNat (0:Int)))=true then some (false,()) else L1 (v1.1,IntKind.i64.wrap (v1.2.1+(1:Int)),())) else none) else none) else L1 (v1.1,IntKind.i64.wrap (v1.2.1+(1:Int)),())))) else none) else some (true,()))) n (a0,(0:Int),()))
def ado:Entry:=⟨84,[.val (.sl 2 (.int .i64)) []],[.val .bool [] []],fun n c=>nV n c.1⟩
def aiZ:Hint:=⟨0,[],[(0,[0,3],[])],[],[(74,some 14,SG)],[],[],[],[]⟩
theorem agH [Fr] (n:Nat):ak Tryz.prog n ado:=aj mixed aI Tryz.func84 (by kernel_rfl) (hi:=aiZ) (aa (SY n) aA) (by intro n c; kernel_rfl)
def oV (n:Nat) (a0:iE):Option (Int×Unit):=((uA n a0).bind fun r1=>(if (!r1.1)=true then some ((1:Int),()) else ((jh n a0.2.1).bind fun r2=>(if (!r2.1)=true then some ((5:Int),()) else ((iK n a0.1).bind fun r3=>(if r3.1=true then ((jh n a0.2.2.1).bind fun r4=>(if (!r4.1)=true then some ((5:Int),()) else (if decide ((a0.2.2.2.1.length:Int)>(6:Int))=true then some ((2:Int),()) else ((nV n a0.2.2.2.1).bind fun r5=>(if (!r5.1)=true then some ((3:Int),()) else (if decide (a0.1=(4:Int))=true then ((bK n a0.2.2.2.2.1 (1:Int) (3:Int)).bind fun r6=>(if (!r6.1)=true then some ((3:Int),()) else ((bK n a0.2.2.2.2.2.1 (0:Int) (15:Int)).bind fun r7=>(if (!r7.1)=true then some ((3:Int),()) else ((bK n a0.2.2.2.2.2.2.1 (0:Int) (9999:Int)).bind fun r8=>(if (!r8.1)=true then some ((3:Int),()) else (if decide ((a0.2.2.2.2.2.2.2.1.length:Int)>(400:Int))=true then some ((2:Int),()) else some ((0:Int),())))))))) else ((bK n a0.2.2.2.2.2.1 (0:Int) (15:Int)).bind fun r9=>(if (!r9.1)=true then some ((3:Int),()) else ((bK n a0.2.2.2.2.2.2.1 (0:Int) (9999:Int)).bind fun Qb=>(if (!Qb.1)=true then some ((3:Int),()) else (if decide ((a0.2.2.2.2.2.2.2.1.length:Int)>(400:Int))=true then some ((2:Int),()) else some ((0:Int),())))))))))))) else (if decide ((a0.2.2.2.1.length:Int)>(6:Int))=true then some ((2:Int),()) else ((nV n a0.2.2.2.1).bind fun J4=>(if (!J4.1)=true then some ((3:Int),()) else (if decide (a0.1=(4:Int))=true then ((bK n a0.2.2.2.2.1 (1:Int) (3:Int)).bind fun Ms=>(if (!Ms.1)=true then some ((3:Int),()) else ((bK n a0.2.2.2.2.2.1 (0:Int) (15:Int)).bind fun Qt=>(if (!Qt.1)=true then some ((3:Int),()) else ((bK n a0.2.2.2.2.2.2.1 (0:Int) (9999:Int)).bind fun r14=>(if (!r14.1)=true then some ((3:Int),()) else (if decide ((a0.2.2.2.2.2.2.2.1.length:Int)>(400:Int))=true then some ((2:Int),()) else some ((0:Int),())))))))) else ((bK n a0.2.2.2.2.2.1 (0:Int) (15:Int)).bind fun VL=>(if (!VL.1)=true then some ((3:Int),()) else ((bK n a0.2.2.2.2.2.2.1 (0:Int) (9999:Int)).bind fun r16=>(if (!r16.1)=true then some ((3:Int),()) else (if decide ((a0.2.2.2.2.2.2.2.1.length:Int)>(400:Int))=true then some ((2:Int),()) else some ((0:Int),()))))))))))))))))
def adp:Entry:=⟨111,[.ro jW],[.val (.int .i64) [] []],fun n c=>oV n c.1⟩
def ai0:Hint:=⟨0,[],[],[],[(139,some 4,afq),(85,some 10,E_1),(140,some 17,E_9),(85,some 23,E_1),(84,some 37,ado),(74,some 50,SG),(74,some 59,SG),(74,some 67,SG)],[],[],[],[]⟩
theorem agO [Fr] (n:Nat):ak Tryz.prog n adp:=aj mixed aI Tryz.func111 (by kernel_rfl) (hi:=ai0) (aa (ako n) (aa (K_1 n) (aa (K_9 n) (aa (K_1 n) (aa (agH n) (aa (SY n) (aa (SY n) (aa (SY n) aA)))))))) (by intro n c; kernel_rfl)
def nC (n:Nat) (a0:Int):Option ((List Int)×Unit):=(if (256:Int)≠0 then (if (256:Int)≠0 then some ([IntKind.u8.wrap (IntKind.i64.wrap (a0.tdiv (256:Int))),IntKind.u8.wrap (a0.tmod (256:Int))],()) else none) else none)
def VX:Entry:=⟨141,[.val (.int .i64) []],[.own (.sl 5 (.int .u8)) [5] [] []],fun n c=>nC n c.1⟩
def ai1:Hint:=⟨0,[],[],[],[],[],[],[],[]⟩
theorem Ye [Fr] (n:Nat):ak Tryz.prog n VX:=aj mixed aI Tryz.func141 (by kernel_rfl) (hi:=ai1) aA (by intro n c; kernel_rfl)
def vL (n:Nat) (a0:List Int):Option (Int×Unit):=(rounds (fun L1 (v1:(List Int)×Int×Int×Unit)=>(if decide (v1.2.2.1<(v1.1.length:Int))=true then (if aH v1.2.2.1 v1.1.length then (if (65521:Int)≠0 then L1 (v1.1,(IntKind.i64.wrap ((IntKind.i64.wrap (v1.2.1 * (31:Int)))+(IntKind.i64.wrap (v1.1.getD v1.2.2.1.toNat (0:Int))))).tmod (65521:Int),IntKind.i64.wrap (v1.2.2.1+(1:Int)),()) else none) else none) else some (v1.2.1,()))) n (a0,(1:Int),(0:Int),()))
def afr:Entry:=⟨142,[.val (.sl 5 (.int .u8)) []],[.val (.int .i64) [] []],fun n c=>vL n c.1⟩
def ai2:Hint:=⟨0,[],[(0,[0,3,4],[])],[],[],[],[],[],[]⟩
theorem akp [Fr] (n:Nat):ak Tryz.prog n afr:=aj mixed aI Tryz.func142 (by kernel_rfl) (hi:=ai2) aA (by intro n c; kernel_rfl)
def uC (n:Nat) (a0:iE):Option ((List Int)×Unit):=(if ([(0:Int),(0:Int),IntKind.u8.wrap a0.1,IntKind.u8.wrap (a0.2.1.length:Int)].length+a0.2.1.length) * 1≤140737488355328 then (if (([(0:Int),(0:Int),IntKind.u8.wrap a0.1,IntKind.u8.wrap (a0.2.1.length:Int)]++a0.2.1).length+[IntKind.u8.wrap (a0.2.2.1.length:Int)].length) * 1≤140737488355328 then (if ((([(0:Int),(0:Int),IntKind.u8.wrap a0.1,IntKind.u8.wrap (a0.2.1.length:Int)]++a0.2.1)++[IntKind.u8.wrap (a0.2.2.1.length:Int)]).length+a0.2.2.1.length) * 1≤140737488355328 then (if (((([(0:Int),(0:Int),IntKind.u8.wrap a0.1,IntKind.u8.wrap (a0.2.1.length:Int)]++a0.2.1)++[IntKind.u8.wrap (a0.2.2.1.length:Int)])++a0.2.2.1).length+[IntKind.u8.wrap (a0.2.2.2.1.length:Int)].length) * 1≤140737488355328 then (rounds (fun L1 (v1:iE×Int×(List Int)×Unit)=>(if decide (v1.2.1<(v1.1.2.2.2.1.length:Int))=true then (if aH v1.2.1 v1.1.2.2.2.1.length then ((nC n (v1.1.2.2.2.1.getD v1.2.1.toNat (0:Int))).bind fun r2=>(if (v1.2.2.1.length+r2.1.length) * 1≤140737488355328 then L1 (v1.1,IntKind.i64.wrap (v1.2.1+(1:Int)),v1.2.2.1++r2.1,()) else none)) else none) else (if (v1.2.2.1.length+[IntKind.u8.wrap v1.1.2.2.2.2.1,IntKind.u8.wrap v1.1.2.2.2.2.2.1].length) * 1≤140737488355328 then ((nC n v1.1.2.2.2.2.2.2.1).bind fun r3=>(if ((v1.2.2.1++[IntKind.u8.wrap v1.1.2.2.2.2.1,IntKind.u8.wrap v1.1.2.2.2.2.2.1]).length+r3.1.length) * 1≤140737488355328 then ((nC n (v1.1.2.2.2.2.2.2.2.1.length:Int)).bind fun r4=>(if (((v1.2.2.1++[IntKind.u8.wrap v1.1.2.2.2.2.1,IntKind.u8.wrap v1.1.2.2.2.2.2.1])++r3.1).length+r4.1.length) * 1≤140737488355328 then (if ((((v1.2.2.1++[IntKind.u8.wrap v1.1.2.2.2.2.1,IntKind.u8.wrap v1.1.2.2.2.2.2.1])++r3.1)++r4.1).length+v1.1.2.2.2.2.2.2.2.1.length) * 1≤140737488355328 then ((nC n (IntKind.i64.wrap ((((((v1.2.2.1++[IntKind.u8.wrap v1.1.2.2.2.2.1,IntKind.u8.wrap v1.1.2.2.2.2.2.1])++r3.1)++r4.1)++v1.1.2.2.2.2.2.2.2.1).length:Int)+(2:Int)))).bind fun r5=>(if r5.1.length≤((((v1.2.2.1++[IntKind.u8.wrap v1.1.2.2.2.2.1,IntKind.u8.wrap v1.1.2.2.2.2.2.1])++r3.1)++r4.1)++v1.1.2.2.2.2.2.2.2.1).length then ((vL n (r5.1++((((v1.2.2.1++[IntKind.u8.wrap v1.1.2.2.2.2.1,IntKind.u8.wrap v1.1.2.2.2.2.2.1])++r3.1)++r4.1)++v1.1.2.2.2.2.2.2.2.1).drop r5.1.length)).bind fun r6=>((nC n r6.1).bind fun r7=>(if ((r5.1++((((v1.2.2.1++[IntKind.u8.wrap v1.1.2.2.2.2.1,IntKind.u8.wrap v1.1.2.2.2.2.2.1])++r3.1)++r4.1)++v1.1.2.2.2.2.2.2.2.1).drop r5.1.length).length+r7.1.length) * 1≤140737488355328 then some ((r5.1++((((v1.2.2.1++[IntKind.u8.wrap v1.1.2.2.2.2.1,IntKind.u8.wrap v1.1.2.2.2.2.2.1])++r3.1)++r4.1)++v1.1.2.2.2.2.2.2.2.1).drop r5.1.length)++r7.1,()) else none))) else none)) else none) else none)) else none)) else none))) n (a0,(0:Int),((([(0:Int),(0:Int),IntKind.u8.wrap a0.1,IntKind.u8.wrap (a0.2.1.length:Int)]++a0.2.1)++[IntKind.u8.wrap (a0.2.2.1.length:Int)])++a0.2.2.1)++[IntKind.u8.wrap (a0.2.2.2.1.length:Int)],())) else none) else none) else none) else none)
def afs:Entry:=⟨112,[.ro jW],[.own (.sl 5 (.int .u8)) [5] [] []],fun n c=>uC n c.1⟩
def ai3:Hint:=⟨0,[],[(0,[0,3,4],[514])],[],[(141,some 64,VX),(141,some 83,VX),(141,some 91,VX),(141,some 102,VX),(142,some 106,afr),(141,some 107,VX)],[],[],[103],[]⟩
theorem akq [Fr] (n:Nat):ak Tryz.prog n afs:=aj mixed aI Tryz.func112 (by kernel_rfl) (hi:=ai3) (aa (Ye n) (aa (Ye n) (aa (Ye n) (aa (Ye n) (aa (akp n) (aa (Ye n) aA)))))) (by intro n c; kernel_rfl)
def uo (n:Nat) (a0:List Int):Option (alf×Unit):=(if decide ((a0.length:Int)<(2:Int))=true then some (((5:Int),(0:Int),Fq,()),()) else (if aH (0:Int) a0.length then (if aH (1:Int) a0.length then (if decide ((IntKind.i64.wrap ((IntKind.i64.wrap ((IntKind.i64.wrap (a0.getD (0:Int).toNat (0:Int))) * (256:Int)))+(IntKind.i64.wrap (a0.getD (1:Int).toNat (0:Int)))))<(2:Int))=true then some (((5:Int),(0:Int),Fq,()),()) else (if decide ((IntKind.i64.wrap ((IntKind.i64.wrap ((IntKind.i64.wrap (a0.getD (0:Int).toNat (0:Int))) * (256:Int)))+(IntKind.i64.wrap (a0.getD (1:Int).toNat (0:Int)))))>(a0.length:Int))=true then some (((5:Int),(0:Int),Fq,()),()) else (if 0≤(IntKind.i64.wrap ((IntKind.i64.wrap ((IntKind.i64.wrap (a0.getD (0:Int).toNat (0:Int))) * (256:Int)))+(IntKind.i64.wrap (a0.getD (1:Int).toNat (0:Int)))))∧(IntKind.i64.wrap ((IntKind.i64.wrap ((IntKind.i64.wrap (a0.getD (0:Int).toNat (0:Int))) * (256:Int)))+(IntKind.i64.wrap (a0.getD (1:Int).toNat (0:Int)))))≤(a0.length:Int) then ((uD n (a0.take (IntKind.i64.wrap ((IntKind.i64.wrap ((IntKind.i64.wrap (a0.getD (0:Int).toNat (0:Int))) * (256:Int)))+(IntKind.i64.wrap (a0.getD (1:Int).toNat (0:Int))))).toNat)).bind fun r1=>((oV n r1.1).bind fun r2=>(if (!decide (r2.1=(0:Int)))=true then some (((5:Int),(0:Int),Fq,()),()) else ((uC n r1.1).bind fun r3=>(if 0≤(IntKind.i64.wrap ((IntKind.i64.wrap ((IntKind.i64.wrap (a0.getD (0:Int).toNat (0:Int))) * (256:Int)))+(IntKind.i64.wrap (a0.getD (1:Int).toNat (0:Int)))))∧(IntKind.i64.wrap ((IntKind.i64.wrap ((IntKind.i64.wrap (a0.getD (0:Int).toNat (0:Int))) * (256:Int)))+(IntKind.i64.wrap (a0.getD (1:Int).toNat (0:Int)))))≤(a0.length:Int) then (if (!decide (r3.1=(a0.take (IntKind.i64.wrap ((IntKind.i64.wrap ((IntKind.i64.wrap (a0.getD (0:Int).toNat (0:Int))) * (256:Int)))+(IntKind.i64.wrap (a0.getD (1:Int).toNat (0:Int))))).toNat)))=true then some (((5:Int),(0:Int),Fq,()),()) else some (((0:Int),IntKind.i64.wrap ((IntKind.i64.wrap ((IntKind.i64.wrap (a0.getD (0:Int).toNat (0:Int))) * (256:Int)))+(IntKind.i64.wrap (a0.getD (1:Int).toNat (0:Int)))),r1.1,()),())) else none))))) else none))) else none) else none))
def aft:Entry:=⟨86,[.val (.sl 5 (.int .u8)) []],[.own KI [2,5] [] []],fun n c=>uo n c.1⟩
def ai4:Hint:=⟨0,[45],[],[],[(110,some 31,E_8),(111,some 32,adp),(112,some 35,afs)],[],[],[],[]⟩
theorem akr [Fr] (n:Nat):ak Tryz.prog n aft:=aj mixed aI Tryz.func86 (by kernel_rfl) (hi:=ai4) (aa (K_8 n) (aa (agO n) (aa (akq n) aA))) (by intro n c; kernel_rfl)
def mh (n:Nat) (a0:List Int):Option ((List iE)×Int×Unit):=(rounds (fun L1 (v1:(List Int)×Int×(List iE)×Unit)=>(if decide (v1.2.1<(v1.1.length:Int))=true then (if 0≤v1.2.1∧v1.2.1≤(v1.1.length:Int) then ((uo n (v1.1.drop v1.2.1.toNat)).bind fun r2=>(if (!decide (r2.1.1=(0:Int)))=true then some (v1.2.2.1,v1.2.1,()) else (if (v1.2.2.1.length+[r2.1.2.2.1].length) * 112≤140737488355328 then L1 (v1.1,IntKind.i64.wrap (v1.2.1+r2.1.2.1),v1.2.2.1++[r2.1.2.2.1],()) else none))) else none) else some (v1.2.2.1,v1.2.1,()))) n (a0,(0:Int),([]:List iE),()))
def adq:Entry:=⟨44,[.val (.sl 5 (.int .u8)) []],[.own (.sl 121 jW) [2,5,121] [] [], .val (.int .i64) [] []],fun n c=>mh n c.1⟩
def ai5:Hint:=⟨0,[21],[(0,[0,4,5],[226])],[],[(86,some 15,aft)],[],[],[],[]⟩
theorem agP [Fr] (n:Nat):ak Tryz.prog n adq:=aj mixed aI Tryz.func44 (by kernel_rfl) (hi:=ai5) (aa (akr n) aA) (by intro n c; kernel_rfl)
def uu (n:Nat) (a0:Ae):Option ((List iE)×Bool×Unit):=((mh n a0.2.1).bind fun r1=>((mh n a0.2.2.1).bind fun r2=>(if (r1.1.length+r2.1.length) * 112≤140737488355328 then (if decide (r1.2.1=(a0.2.1.length:Int))=true then some (r1.1++r2.1,decide (r2.2.1=(a0.2.2.1.length:Int)),()) else some (r1.1++r2.1,false,())) else none)))
def afu:Entry:=⟨81,[.ro BQ],[.own (.sl 121 jW) [2,5,121] [] [], .val .bool [] []],fun n c=>uu n c.1⟩
def ai6:Hint:=⟨0,[],[],[],[(44,some 13,adq),(44,some 21,adq)],[],[],[],[]⟩
theorem aks [Fr] (n:Nat):ak Tryz.prog n afu:=aj mixed aI Tryz.func81 (by kernel_rfl) (hi:=ai6) (aa (agP n) (aa (agP n) aA)) (by intro n c; kernel_rfl)
def uY (n:Nat)  : Option (fO×Unit):=some (((1:Int),([]:List dQ),()),())
def afv:Entry:=⟨46,[],[.own ql [5,147,162] [] []],fun n c=>uY n⟩
def ai7:Hint:=⟨0,[],[],[],[],[],[],[],[]⟩
theorem akt [Fr] (n:Nat):ak Tryz.prog n afv:=aj mixed aI Tryz.func46 (by kernel_rfl) (hi:=ai7) aA (by intro n c; kernel_rfl)
def dY (n:Nat) (a0:Int):Option (Hr×Unit):=some ((a0,([]:List Int),Nb,()),())
def J8:Entry:=⟨87,[.val (.int .i64) []],[.own O6 [2,5,147,162] [] []],fun n c=>dY n c.1⟩
def ai8:Hint:=⟨0,[],[],[],[],[],[],[],[]⟩
theorem M4 [Fr] (n:Nat):ak Tryz.prog n J8:=aj mixed aI Tryz.func87 (by kernel_rfl) (hi:=ai8) aA (by intro n c; kernel_rfl)
def nT (n:Nat) (a0:List Int):Option ((List Int)×Unit):=(if (([]:List Int).length+a0.length) * 1≤140737488355328 then some (([]:List Int)++a0,()) else none)
def aaT:Entry:=⟨47,[.val (.sl 5 (.int .u8)) []],[.own (.sl 5 (.int .u8)) [5] [] []],fun n c=>nT n c.1⟩
def ai9:Hint:=⟨0,[],[],[],[],[],[],[],[]⟩
theorem adK [Fr] (n:Nat):ak Tryz.prog n aaT:=aj mixed aI Tryz.func47 (by kernel_rfl) (hi:=ai9) aA (by intro n c; kernel_rfl)
def oG (n:Nat) (a0:List qL):Option ((List qL)×Unit):=(rounds (fun L1 (v1:(List qL)×Int×(List qL)×Unit)=>(if decide (v1.2.1<(v1.1.length:Int))=true then (if aH v1.2.1 v1.1.length then ((nT n (((((v1.1.getD v1.2.1.toNat kN).2).2).2).1)).bind fun r2=>(if (v1.2.2.1.length+[((v1.1.getD v1.2.1.toNat kN).1,((v1.1.getD v1.2.1.toNat kN).2).1,(((v1.1.getD v1.2.1.toNat kN).2).2).1,r2.1,((((v1.1.getD v1.2.1.toNat kN).2).2).2).2)].length) * 48≤140737488355328 then L1 (v1.1,IntKind.i64.wrap (v1.2.1+(1:Int)),v1.2.2.1++[((v1.1.getD v1.2.1.toNat kN).1,((v1.1.getD v1.2.1.toNat kN).2).1,(((v1.1.getD v1.2.1.toNat kN).2).2).1,r2.1,((((v1.1.getD v1.2.1.toNat kN).2).2).2).2)],()) else none)) else none) else some (v1.2.2.1,()))) n (a0,(0:Int),([]:List qL),()))
def afw:Entry:=⟨143,[.val (.sl 162 zh) []],[.own (.sl 162 zh) [5,162] [] []],fun n c=>oG n c.1⟩
def aja:Hint:=⟨0,[22],[(0,[0,3,4],[194])],[],[(47,some 19,aaT)],[],[],[],[]⟩
theorem aku [Fr] (n:Nat):ak Tryz.prog n afw:=aj mixed aI Tryz.func143 (by kernel_rfl) (hi:=aja) (aa (adK n) aA) (by intro n c; kernel_rfl)
def jw (n:Nat) (a0:dQ):Option (dQ×Unit):=((oG n a0.2.2.2.1).bind fun r1=>some ((a0.1,a0.2.1,a0.2.2.1,r1.1,a0.2.2.2.2),()))
def adr:Entry:=⟨113,[.val nP []],[.own nP [5,162] [] []],fun n c=>jw n c.1⟩
def ajb:Hint:=⟨0,[7],[],[],[(143,some 5,afw)],[],[],[],[]⟩
theorem agQ [Fr] (n:Nat):ak Tryz.prog n adr:=aj mixed aI Tryz.func113 (by kernel_rfl) (hi:=ajb) (aa (aku n) aA) (by intro n c; kernel_rfl)
def nU (n:Nat) (a0:fO):Option (fO×Unit):=(rounds (fun L1 (v1:Int×fO×fO×fO×Unit)=>(if decide (v1.1<(v1.2.1.2.1.length:Int))=true then (if aH v1.1 v1.2.1.2.1.length then ((jw n (v1.2.1.2.1.getD v1.1.toNat dG)).bind fun r2=>(if (v1.2.2.2.1.2.1.length+[r2.1].length) * 56≤140737488355328 then L1 (IntKind.i64.wrap (v1.1+(1:Int)),v1.2.1,v1.2.2.1,(v1.2.2.2.1.1,v1.2.2.2.1.2.1++[r2.1],v1.2.2.2.1.2.2),()) else none)) else none) else some (v1.2.2.2.1,()))) n ((0:Int),a0,Nb,(a0.1,([]:List dQ),()),()))
def aaU:Entry:=⟨88,[.val ql []],[.own ql [5,147,162] [] []],fun n c=>nU n c.1⟩
def ajc:Hint:=⟨0,[16,26],[(0,[1,2,3,4],[34,66,98])],[],[(113,some 22,adr)],[],[],[],[]⟩
theorem adL [Fr] (n:Nat):ak Tryz.prog n aaU:=aj mixed aI Tryz.func88 (by kernel_rfl) (hi:=ajc) (aa (agQ n) aA) (by intro n c; kernel_rfl)
def qP (n:Nat) (a0:fO) (a1:List Int):Option (Int×Unit):=(rounds (fun L1 (v1:fO×Zt0)=>(if decide (v1.2.2.1<(v1.1.2.1.length:Int))=true then (if aH v1.2.2.1 v1.1.2.1.length then (if decide (((v1.1.2.1.getD v1.2.2.1.toNat dG).1)=v1.2.1)=true then some (v1.2.2.1,()) else L1 (v1.1,v1.2.1,IntKind.i64.wrap (v1.2.2.1+(1:Int)),())) else none) else some ((-1:Int),()))) n (a0,a1,(0:Int),()))
def aaV:Entry:=⟨145,[.ro ql, .val .str []],[.val (.int .i64) [] []],fun n c=>qP n c.1 c.2.1⟩
def ajd:Hint:=⟨0,[],[(0,[0,1,5],[])],[],[],[],[],[],[]⟩
theorem adM [Fr] (n:Nat):ak Tryz.prog n aaV:=aj mixed aI Tryz.func145 (by kernel_rfl) (hi:=ajd) aA (by intro n c; kernel_rfl)
def uB (n:Nat) (a0:fO) (a1:iE):Option (Hr×Unit):=((qP n a0 a1.2.1).bind fun r1=>(if decide (r1.1≥(0:Int))=true then ((dY n (6:Int)).bind fun r2=>some (r2.1,())) else (if decide ((a0.2.1.length:Int)≥(3:Int))=true then ((dY n (10:Int)).bind fun r3=>some (r3.1,())) else (if decide (a0.1≥(1000:Int))=true then ((dY n (10:Int)).bind fun r4=>some (r4.1,())) else ((nU n a0).bind fun r5=>(if (r5.1.2.1.length+[(a1.2.1,a0.1,(1:Int),([]:List qL),())].length) * 56≤140737488355328 then some (((0:Int),([]:List Int),(IntKind.i64.wrap (a0.1+(1:Int)),r5.1.2.1++[(a1.2.1,a0.1,(1:Int),([]:List qL),())],r5.1.2.2),()),()) else none))))))
def afx:Entry:=⟨144,[.val ql [], .ro jW],[.own O6 [2,5,147,162] [] []],fun n c=>uB n c.1 c.2.1⟩
def aje:Hint:=⟨0,[26,41],[],[],[(145,some 10,aaV),(87,some 12,J8),(87,some 22,J8),(88,some 24,aaU)],[],[],[],[]⟩
theorem akv [Fr] (n:Nat):ak Tryz.prog n afx:=aj mixed aI Tryz.func144 (by kernel_rfl) (hi:=aje) (aa (adM n) (aa (M4 n) (aa (M4 n) (aa (adL n) aA)))) (by intro n c; kernel_rfl)
def nA (n:Nat) (a0:dQ) (a1:qL):Option (Int×dQ×Unit):=((nT n a1.2.2.2.1).bind fun r1=>(if (a0.2.2.2.1.length+[(a0.2.2.1,a1.2.1,a1.2.2.1,r1.1,a1.2.2.2.2)].length) * 48≤140737488355328 then some (a0.2.2.1,(a0.1,a0.2.1,IntKind.i64.wrap (a0.2.2.1+(1:Int)),a0.2.2.2.1++[(a0.2.2.1,a1.2.1,a1.2.2.1,r1.1,a1.2.2.2.2)],a0.2.2.2.2),()) else none))
def ads:Entry:=⟨146,[.rw nP [5,162] [5,162,4294967295] [5,162], .val zh []],[.val (.int .i64) [] []],fun n c=>nA n c.1 c.2.1⟩
def ajf:Hint:=⟨0,[18,19],[],[],[(47,some 12,aaT)],[],[],[],[]⟩
theorem agR [Fr] (n:Nat):ak Tryz.prog n ads:=aj mixed aI Tryz.func146 (by kernel_rfl) (hi:=ajf) (aa (adK n) aA) (by intro n c; kernel_rfl)
def ny (n:Nat) (a0:List Int) (a1:Int):Option (Bool×Unit):=(rounds (fun L1 (v1:(List Int)×Int×Int×Unit)=>(if decide (v1.2.2.1<(v1.1.length:Int))=true then (if aH v1.2.2.1 v1.1.length then (if decide ((v1.1.getD v1.2.2.1.toNat (0:Int))=v1.2.1)=true then some (true,()) else L1 (v1.1,v1.2.1,IntKind.i64.wrap (v1.2.2.1+(1:Int)),())) else none) else some (false,()))) n (a0,a1,(0:Int),()))
def SL:Entry:=⟨170,[.val (.sl 2 (.int .i64)) [], .val (.int .i64) []],[.val .bool [] []],fun n c=>ny n c.1 c.2.1⟩
def Ya:Hint:=⟨0,[],[(0,[0,1,5],[])],[],[],[],[],[],[]⟩
theorem adk:DOk T Ya Tryz.f170 SL:=by intro n c; kernel_rfl
theorem adN [Fr] (n:Nat):ak Tryz.prog n SL:=aj mixed aI Tryz.func170 (by kernel_rfl) (hi:=Ya) aA adk
def rV (n:Nat) (a0:Int) (a1:Int) (a2:Int):Option (Int×Unit):=(if decide (a1=(2:Int))=true then some (IntKind.i64.wrap ((BitVec.ofInt (IntKind.bits .i64) a0 ||| BitVec.ofInt (IntKind.bits .i64) a2).toNat),()) else (if decide (a1=(3:Int))=true then some (IntKind.i64.wrap ((BitVec.ofInt (IntKind.bits .i64) a0 &&& ~~~ BitVec.ofInt (IntKind.bits .i64) a2).toNat),()) else some (a2,())))
def afy:Entry:=⟨171,[.val (.int .i64) [], .val (.int .i64) [], .val (.int .i64) []],[.val (.int .i64) [] []],fun n c=>rV n c.1 c.2.1 c.2.2.1⟩
def ajg:Hint:=⟨0,[],[],[],[],[],[],[],[]⟩
theorem akw [Fr] (n:Nat):ak Tryz.prog n afy:=aj mixed aI Tryz.func171 (by kernel_rfl) (hi:=ajg) aA (by intro n c; kernel_rfl)
def uz (n:Nat) (a0:dQ) (a1:iE):Option ((List Int)×dQ×Unit):=(rounds (fun L1 (v1:iE×Int×dQ×(List Int)×Unit)=>(if decide (v1.2.1<(v1.2.2.1.2.2.2.1.length:Int))=true then (if aH v1.2.1 v1.2.2.1.2.2.2.1.length then ((ny n v1.1.2.2.2.1 ((v1.2.2.1.2.2.2.1.getD v1.2.1.toNat kN).1)).bind fun r2=>(if r2.1=true then ((rV n (((v1.2.2.1.2.2.2.1.getD v1.2.1.toNat kN).2).1) v1.1.2.2.2.2.1 v1.1.2.2.2.2.2.1).bind fun r3=>(if (v1.2.2.2.1.length+[((fH v1.2.2.1.2.2.2.1 v1.2.1.toNat kN fun z1=>(z1.1,r3.1,z1.2.2)).getD v1.2.1.toNat kN).1].length) * 8≤140737488355328 then L1 (v1.1,IntKind.i64.wrap (v1.2.1+(1:Int)),(v1.2.2.1.1,v1.2.2.1.2.1,v1.2.2.1.2.2.1,(fH v1.2.2.1.2.2.2.1 v1.2.1.toNat kN fun z1=>(z1.1,r3.1,z1.2.2)),v1.2.2.1.2.2.2.2),v1.2.2.2.1++[((fH v1.2.2.1.2.2.2.1 v1.2.1.toNat kN fun z1=>(z1.1,r3.1,z1.2.2)).getD v1.2.1.toNat kN).1],()) else none)) else L1 (v1.1,IntKind.i64.wrap (v1.2.1+(1:Int)),v1.2.2.1,v1.2.2.2.1,()))) else none) else some (v1.2.2.2.1,v1.2.2.1,()))) n (a1,(0:Int),a0,([]:List Int),()))
def afz:Entry:=⟨147,[.rw nP [5,162] [162] [], .ro jW],[.own (.sl 2 (.int .i64)) [2] [] []],fun n c=>uz n c.1 c.2.1⟩
def ajh:Hint:=⟨0,[21],[(0,[0,1,5,6],[0,258])],[],[(170,some 32,SL),(171,some 46,afy)],[],[],[],[]⟩
theorem akx [Fr] (n:Nat):ak Tryz.prog n afz:=aj mixed aI Tryz.func147 (by kernel_rfl) (hi:=ajh) (aa (adN n) (aa (akw n) aA)) (by intro n c; kernel_rfl)
namespace IdT
def tyI:XY:={ ty:=[(2,(.int .i64)),(3,(.int .i64)),(4, .bool),(5,(.int .u8)),(6,(.int .u8)),(7,Zk4),(8,Zk4),(9, .str),(10, .str),(11, .str),(12,(.int .u64)),(13,Zk0),(14,Zk0),(21,(.int .i32)),(22,(.sl 5 (.int .u8))),(23,(.sl 142 Zk9)),(24,Ti),(25,Ti),(26,Tm),(27,Tm),(28,(.sl 79 xz)),(29,Wh),(30,Wh),(32,(.sl 9 .str)),(33,(.sl 147 Jo)),(34,QI),(35,QI),(36,QJ),(37,QJ),(38,(.sl 74 xz)),(39,Tq),(40,Tq),(41,Wi),(42,Wi),(57,(.sl 2 (.int .i64))),(58,We),(59,We),(73,xz),(74,xz),(79,xz),(85,(.sl 121 jW)),(88,Wd),(89,Wd),(120,jW),(121,jW),(122,KI),(123,KI),(137,(.sl 22 (.sl 5 (.int .u8)))),(140,(.sl 203 Na)),(141,Zk9),(142,Zk9),(145,(.sl 162 Na)),(146,Jo),(147,Jo),(161,Na),(162,Na),(166,V8),(167,V8),(179,V9),(180,V9),(203,Na),(219,(.int .u32)),(220,(.int .u8)),(221,(.int .u8)),(224,(.int .i32)),(225,(.int .i32))],bytes:=[(2,8),(3,8),(4,1),(5,1),(6,1),(7,24),(8,24),(9,16),(10,16),(11,16),(12,8),(13,24),(14,24),(21,4),(22,24),(23,24),(24,32),(25,32),(26,88),(27,88),(28,24),(29,112),(30,112),(32,24),(33,24),(34,32),(35,32),(36,88),(37,88),(38,24),(39,112),(40,112),(41,144),(42,144),(57,24),(58,120),(59,120),(73,56),(74,56),(79,56),(85,24),(88,64),(89,64),(120,112),(121,112),(122,128),(123,128),(137,24),(140,24),(141,56),(142,56),(145,24),(146,56),(147,56),(161,48),(162,48),(166,32),(167,32),(179,40),(180,40),(203,48),(219,4),(220,1),(221,1),(224,4),(225,4)],ptr:=[15,16,17,55,81,83,116,144,151,165,177,182,223],ids:=true }
def T:ji:=tyI.tab
theorem aI:CO Tryz.prog tyI=true:=by kernel_rfl
theorem mixed:Tryz.prog.follows .mixedOrders=true:=by kernel_rfl
def ny (n:Nat) (a0:List Int) (a1:Int):Option (Bool×Unit):=(rounds (fun L1 (v1:(List Int)×Int×Int×Unit)=>(if decide (v1.2.2.1<(v1.1.length:Int))=true then (if aH v1.2.2.1 v1.1.length then (if decide ((v1.1.getD v1.2.2.1.toNat (0:Int))=v1.2.1)=true then some (true,()) else L1 (v1.1,v1.2.1,IntKind.i64.wrap (v1.2.2.1+(1:Int)),())) else none) else some (false,()))) n (a0,a1,(0:Int),()))
def SL:Entry:=⟨170,[.val (.sl 2 (.int .i64)) [], .val (.int .i64) []],[.val .bool [] []],fun n c=>ny n c.1 c.2.1⟩
def Ya:Hint:=⟨0,[],[(0,[0,1,5],[])],[],[],[],[],[],[]⟩
theorem adk:DOk T Ya Tryz.f170 SL:=by intro n c; kernel_rfl
theorem adN [Fr] (n:Nat):ak Tryz.prog n SL:=aj mixed aI Tryz.func170 (by kernel_rfl) (hi:=Ya) aA adk
def fZ (n:Nat) (a0:Zt9) (a1:List Int) (a2:Int):Option ((List O9)×Zt9×Unit):=(rounds (fun L1 (v1:(List Int)×Int×Int×Zt9×(List O9)×(List O9)×Unit)=>(if decide (v1.2.2.1<(v1.2.2.2.1.2.2.2.1.length:Int))=true then (if aH v1.2.2.1 v1.2.2.2.1.2.2.2.1.length then ((ny n v1.1 ((v1.2.2.2.1.2.2.2.1.getD v1.2.2.1.toNat Pb).1)).bind fun r2=>(if r2.1=true then (if (v1.2.2.2.2.1.length+[v1.2.2.2.1.2.2.2.1.getD v1.2.2.1.toNat Pb].length) * 48≤140737488355328 then L1 (v1.1,v1.2.1,IntKind.i64.wrap (v1.2.2.1+(1:Int)),v1.2.2.2.1,v1.2.2.2.2.1++[v1.2.2.2.1.2.2.2.1.getD v1.2.2.1.toNat Pb],v1.2.2.2.2.2.1,()) else none) else (if (!decide ((IntKind.i64.wrap ((BitVec.ofInt (IntKind.bits .i64) (((v1.2.2.2.1.2.2.2.1.getD v1.2.2.1.toNat Pb).2).1) &&& BitVec.ofInt (IntKind.bits .i64) v1.2.1).toNat))=(0:Int)))=true then (if (v1.2.2.2.2.1.length+[v1.2.2.2.1.2.2.2.1.getD v1.2.2.1.toNat Pb].length) * 48≤140737488355328 then L1 (v1.1,v1.2.1,IntKind.i64.wrap (v1.2.2.1+(1:Int)),v1.2.2.2.1,v1.2.2.2.2.1++[v1.2.2.2.1.2.2.2.1.getD v1.2.2.1.toNat Pb],v1.2.2.2.2.2.1,()) else none) else (if (v1.2.2.2.2.2.1.length+[v1.2.2.2.1.2.2.2.1.getD v1.2.2.1.toNat Pb].length) * 48≤140737488355328 then L1 (v1.1,v1.2.1,IntKind.i64.wrap (v1.2.2.1+(1:Int)),v1.2.2.2.1,v1.2.2.2.2.1,v1.2.2.2.2.2.1++[v1.2.2.2.1.2.2.2.1.getD v1.2.2.1.toNat Pb],()) else none)))) else none) else some (v1.2.2.2.2.1,(v1.2.2.2.1.1,v1.2.2.2.1.2.1,v1.2.2.2.1.2.2.1,v1.2.2.2.2.2.1,v1.2.2.2.1.2.2.2.2),()))) n (a1,a2,(0:Int),a0,([]:List O9),([]:List O9),()))
def X5:Entry:=⟨148,[.rw Jo [5,162] [4294967295] [162], .val (.sl 2 (.int .i64)) [], .val (.int .i64) []],[.own (.sl 162 Na) [162] [] []],fun n c=>fZ n c.1 c.2.1 c.2.2.1⟩
def aji:Hint:=⟨0,[],[(0,[0,1,2,7,8,9],[0,354,386])],[],[(170,some 32,SL)],[],[],[],[]⟩
theorem aa2 [Fr] (n:Nat):ak Tryz.prog n X5:=aj mixed aI Tryz.func148 (by kernel_rfl) (hi:=aji) (aa (adN n) aA) (by intro n c; kernel_rfl)
end IdT
def fZ (n:Nat) (a0:List Int×Int×Int×List kH.Ad×Unit) (a1:List Int) (a2:Int):Option (List kH.Ad×(List Int×Int×Int×List kH.Ad×Unit)×Unit):=jQ.BM jQ.pick n a0 a1 a2
def ac5:List cZ:=[.rw nP [5,162] [4294967295,5] [162,4294967294], .val (.sl 2 (.int .i64)) [], .val (.int .i64) []]
def ait:List jy:=[.own (.sl 162 zh) [5,162] [] []]
def X5:Entry:=⟨148,ac5,ait,fun n (c:Cont (kin ac5))=>fZ n c.1 c.2.1 c.2.2.1⟩
theorem akl {n:Nat} {nm:List Int} {w h:Int} {xs:List O9} {us:List Int} {fl:Int} (hc:xs.length * 48≤140737488355328) (hn:xs.length<n) (hb:us.length≤1048576) (hu:us.length<n) :
  IdT.fZ n (nm,w,h,xs,()) us fl=some (xs.filter (fun x=>jQ.pick us fl x.1 x.2.1),(nm,w,h,xs.filter (fun x=>!jQ.pick us fl x.1 x.2.1),()),()):=
 jQ.XU (has:=IdT.ny n) (fun _ _=>rfl) (fun x=>jQ.Rs (fun _ _=>rfl) hb hu) hc hn
theorem aa2 [Fr] (n:Nat):ak Tryz.prog n X5:=jQ.UT (p:=jQ.pick) (e:=5) (m:=162) (i:=2) (ow:=[162]) (FI:=fun n c=>IdT.fZ n c.1 c.2.1 c.2.2.1) rfl (fun fr=>IdT.aa2 n) (fun _ _ _ _ _ _ hc hn hb hu=>akl hc hn hb hu)
def rU (n:Nat) (a0:fO) (a1:Int) (a2:iE):Option ((List Int)×Int×fO×Unit):=((qP n a0 a2.2.2.1).bind fun r1=>(if decide (r1.1<(0:Int))=true then some (([]:List Int),(4:Int),a0,()) else (if decide (a2.1=(6:Int))=true then (if decide (r1.1=a1)=true then some (([]:List Int),(9:Int),a0,()) else (if aH a1 a0.2.1.length then ((jw n (a0.2.1.getD a1.toNat dG)).bind fun r2=>((fZ n r2.1 a2.2.2.2.1 (0:Int)).bind fun r3=>(if aH r1.1 a0.2.1.length then (if decide ((IntKind.i64.wrap (((((((a0.2.1.getD r1.1.toNat dG).2).2).2).1).length:Int)+(r3.1.length:Int)))>(6:Int))=true then some (([]:List Int),(10:Int),a0,()) else (if decide ((IntKind.i64.wrap (((((a0.2.1.getD r1.1.toNat dG).2).2).1)+(r3.1.length:Int)))>(1000:Int))=true then some (([]:List Int),(10:Int),a0,()) else (rounds (fun L4 (v4:Int×iE×Int×Int×fO×dQ×(List qL)×(List Int)×Unit)=>(if decide (v4.2.2.2.1<(v4.2.2.2.2.2.2.1.length:Int))=true then (if aH v4.2.2.2.1 v4.2.2.2.2.2.2.1.length then ((nA n (v4.2.2.2.2.1.2.1.getD v4.2.2.1.toNat dG) (v4.2.2.2.2.2.2.1.getD v4.2.2.2.1.toNat kN)).bind fun r5=>(if (v4.2.2.2.2.2.2.2.1.length+[r5.1].length) * 8≤140737488355328 then L4 (v4.1,v4.2.1,v4.2.2.1,IntKind.i64.wrap (v4.2.2.2.1+(1:Int)),(v4.2.2.2.2.1.1,v4.2.2.2.2.1.2.1.set v4.2.2.1.toNat r5.2.1,v4.2.2.2.2.1.2.2),v4.2.2.2.2.2.1,v4.2.2.2.2.2.2.1,v4.2.2.2.2.2.2.2.1++[r5.1],()) else none)) else none) else (if decide (v4.2.1.1=(6:Int))=true then (if aH v4.1 v4.2.2.2.2.1.2.1.length then some (v4.2.2.2.2.2.2.2.1,(0:Int),(v4.2.2.2.2.1.1,v4.2.2.2.2.1.2.1.set v4.1.toNat v4.2.2.2.2.2.1,v4.2.2.2.2.1.2.2),()) else none) else some (v4.2.2.2.2.2.2.2.1,(0:Int),v4.2.2.2.2.1,())))) n (a1,a2,r1.1,(0:Int),a0,r3.2.1,r3.1,([]:List Int),())))) else none))) else none)) else (if aH a1 a0.2.1.length then ((jw n (a0.2.1.getD a1.toNat dG)).bind fun r6=>((fZ n r6.1 a2.2.2.2.1 (0:Int)).bind fun r7=>(if aH r1.1 a0.2.1.length then (if decide ((IntKind.i64.wrap (((((((a0.2.1.getD r1.1.toNat dG).2).2).2).1).length:Int)+(r7.1.length:Int)))>(6:Int))=true then some (([]:List Int),(10:Int),a0,()) else (if decide ((IntKind.i64.wrap (((((a0.2.1.getD r1.1.toNat dG).2).2).1)+(r7.1.length:Int)))>(1000:Int))=true then some (([]:List Int),(10:Int),a0,()) else (rounds (fun L8 (v8:Int×iE×Int×Int×fO×dQ×(List qL)×(List Int)×Unit)=>(if decide (v8.2.2.2.1<(v8.2.2.2.2.2.2.1.length:Int))=true then (if aH v8.2.2.2.1 v8.2.2.2.2.2.2.1.length then ((nA n (v8.2.2.2.2.1.2.1.getD v8.2.2.1.toNat dG) (v8.2.2.2.2.2.2.1.getD v8.2.2.2.1.toNat kN)).bind fun r9=>(if (v8.2.2.2.2.2.2.2.1.length+[r9.1].length) * 8≤140737488355328 then L8 (v8.1,v8.2.1,v8.2.2.1,IntKind.i64.wrap (v8.2.2.2.1+(1:Int)),(v8.2.2.2.2.1.1,v8.2.2.2.2.1.2.1.set v8.2.2.1.toNat r9.2.1,v8.2.2.2.2.1.2.2),v8.2.2.2.2.2.1,v8.2.2.2.2.2.2.1,v8.2.2.2.2.2.2.2.1++[r9.1],()) else none)) else none) else (if decide (v8.2.1.1=(6:Int))=true then (if aH v8.1 v8.2.2.2.2.1.2.1.length then some (v8.2.2.2.2.2.2.2.1,(0:Int),(v8.2.2.2.2.1.1,v8.2.2.2.2.1.2.1.set v8.1.toNat v8.2.2.2.2.2.1,v8.2.2.2.2.1.2.2),()) else none) else some (v8.2.2.2.2.2.2.2.1,(0:Int),v8.2.2.2.2.1,())))) n (a1,a2,r1.1,(0:Int),a0,r7.2.1,r7.1,([]:List Int),())))) else none))) else none))))
def afA:Entry:=⟨149,[.rw ql [5,147,162] [5,147,162,4294967295] [5,162], .val (.int .i64) [], .ro jW],[.own (.sl 2 (.int .i64)) [2] [] [], .val (.int .i64) [] []],fun n c=>rU n c.1 c.2.1 c.2.2.1⟩
def ajj:Hint:=⟨0,[48,94,96],[(0,[0,1,2,9,10,11,12,13],[0,290,1410,2242])],[],[(145,some 19,aaV),(113,some 39,adr),(148,some 44,X5),(146,some 83,ads)],[],[],[],[]⟩
theorem aky [Fr] (n:Nat):ak Tryz.prog n afA:=aj mixed aI Tryz.func149 (by kernel_rfl) (hi:=ajj) (aa (adM n) (aa (agQ n) (aa (aa2 n) (aa (agR n) aA)))) (by intro n c; kernel_rfl)
def rT (n:Nat) (a0:fO) (a1:iE):Option (Hr×Unit):=(if decide (a1.1=(1:Int))=true then ((uB n a0 a1).bind fun r1=>some (r1.1,())) else ((qP n a0 a1.2.1).bind fun r2=>(if decide (r2.1<(0:Int))=true then ((dY n (4:Int)).bind fun r3=>some (r3.1,())) else ((nU n a0).bind fun r4=>(if aH r2.1 r4.1.2.1.length then (if decide (a1.1=(2:Int))=true then (if 0≤r2.1∧r2.1≤(r4.1.2.1.length:Int) then (if (([]:List dQ).length+(r4.1.2.1.take r2.1.toNat).length) * 56≤140737488355328 then (if 0≤(IntKind.i64.wrap (r2.1+(1:Int)))∧(IntKind.i64.wrap (r2.1+(1:Int)))≤(r4.1.2.1.length:Int) then (if ((([]:List dQ)++(r4.1.2.1.take r2.1.toNat)).length+(r4.1.2.1.drop (IntKind.i64.wrap (r2.1+(1:Int))).toNat).length) * 56≤140737488355328 then some (((0:Int),([]:List Int),(r4.1.1,(([]:List dQ)++(r4.1.2.1.take r2.1.toNat))++(r4.1.2.1.drop (IntKind.i64.wrap (r2.1+(1:Int))).toNat),r4.1.2.2),()),()) else none) else none) else none) else none) else (if decide (a1.1=(3:Int))=true then (if decide (((((((r4.1.2.1.getD r2.1.toNat dG).2).2).2).1).length:Int)≥(6:Int))=true then ((dY n (10:Int)).bind fun r5=>some (r5.1,())) else (if decide (((((r4.1.2.1.getD r2.1.toNat dG).2).2).1)≥(1000:Int))=true then ((dY n (10:Int)).bind fun r6=>some (r6.1,())) else ((nA n (r4.1.2.1.getD r2.1.toNat dG) ((0:Int),a1.2.2.2.2.2.1,a1.2.2.2.2.2.2.1,a1.2.2.2.2.2.2.2.1,())).bind fun r7=>some (((0:Int),[r7.1],(r4.1.1,r4.1.2.1.set r2.1.toNat r7.2.1,r4.1.2.2),()),())))) else (if decide (a1.1=(4:Int))=true then ((uz n (r4.1.2.1.getD r2.1.toNat dG) a1).bind fun r8=>some (((0:Int),r8.1,(r4.1.1,r4.1.2.1.set r2.1.toNat r8.2.1,r4.1.2.2),()),())) else (if decide (a1.1=(7:Int))=true then ((fZ n (r4.1.2.1.getD r2.1.toNat dG) ([]:List Int) (8:Int)).bind fun r9=>(rounds (fun L10 (v10:Int×Hr×Hr×(List qL)×Unit)=>(if decide (v10.1<(v10.2.2.2.1.length:Int))=true then (if aH v10.1 v10.2.2.2.1.length then (if (v10.2.2.1.2.1.length+[(v10.2.2.2.1.getD v10.1.toNat kN).1].length) * 8≤140737488355328 then L10 (IntKind.i64.wrap (v10.1+(1:Int)),v10.2.1,(v10.2.2.1.1,v10.2.2.1.2.1++[(v10.2.2.2.1.getD v10.1.toNat kN).1],v10.2.2.1.2.2),v10.2.2.2.1,()) else none) else none) else some (v10.2.2.1,()))) n ((0:Int),adZ,((0:Int),([]:List Int),(r4.1.1,r4.1.2.1.set r2.1.toNat r9.2.1,r4.1.2.2),()),r9.1,()))) else ((rU n r4.1 r2.1 a1).bind fun J4=>(if (!decide (J4.2.1=(0:Int)))=true then ((dY n J4.2.1).bind fun Ms=>some (Ms.1,())) else some (((0:Int),J4.1,J4.2.2.1,()),()))))))) else none)))))
def afB:Entry:=⟨114,[.val ql [], .ro jW],[.val O6 [] []],fun n c=>rT n c.1 c.2.1⟩
def ajk:Hint:=⟨0,[34,123,132],[(1,[4,6,9,10],[130,194,3682])],[],[(144,some 20,afx),(145,some 25,aaV),(87,some 28,J8),(88,some 30,aaU),(87,some 88,J8),(146,some 103,ads),(147,some 110,afz),(148,some 115,X5),(149,some 45,afA),(87,some 51,J8)],[],[],[],[]⟩
theorem akz [Fr] (n:Nat):ak Tryz.prog n afB:=aj mixed aI Tryz.func114 (by kernel_rfl) (hi:=ajk) (aa (akv n) (aa (adM n) (aa (M4 n) (aa (adL n) (aa (M4 n) (aa (agR n) (aa (akx n) (aa (aa2 n) (aa (aky n) (aa (M4 n) aA)))))))))) (by intro n c; kernel_rfl)
def rR (n:Nat) (a0:fO) (a1:iE):Option (Hr×Unit):=((jH n a0).bind fun r1=>(if (!decide (r1.1=(0:Int)))=true then ((dY n r1.1).bind fun r2=>some (r2.1,())) else ((oV n a1).bind fun r3=>(if (!decide (r3.1=(0:Int)))=true then ((dY n r3.1).bind fun r4=>some (r4.1,())) else ((rT n a0 a1).bind fun r5=>some (r5.1,()))))))
def afC:Entry:=⟨89,[.val ql [], .val jW []],[.val O6 [] []],fun n c=>rR n c.1 c.2.1⟩
def ajl:Hint:=⟨0,[],[],[],[(80,some 7,E_4),(87,some 11,J8),(111,some 12,adp),(87,some 16,J8),(114,some 18,afB)],[],[],[],[]⟩
theorem akA [Fr] (n:Nat):ak Tryz.prog n afC:=aj mixed aI Tryz.func89 (by kernel_rfl) (hi:=ajl) (aa (K_4 n) (aa (M4 n) (aa (agO n) (aa (M4 n) (aa (akz n) aA))))) (by intro n c; kernel_rfl)
def nO (n:Nat) (a0:fO) (a1:List iE):Option (Hr×Unit):=(if decide ((a1.length:Int)>(60:Int))=true then ((dY n (2:Int)).bind fun r1=>some (r1.1,())) else ((jH n a0).bind fun r2=>(if (!decide (r2.1=(0:Int)))=true then ((dY n r2.1).bind fun r3=>some (r3.1,())) else ((nU n a0).bind fun r4=>(rounds (fun L5 (v5:(List iE)×Int×Hr×Hr×Unit)=>(if decide (v5.2.1<(v5.1.length:Int))=true then (if aH v5.2.1 v5.1.length then ((rR n v5.2.2.2.1.2.2.1 (v5.1.getD v5.2.1.toNat Fq)).bind fun r6=>(if (!decide (r6.1.1=(0:Int)))=true then ((dY n r6.1.1).bind fun r7=>some (r7.1,())) else L5 (v5.1,IntKind.i64.wrap (v5.2.1+(1:Int)),v5.2.2.1,(v5.2.2.2.1.1,v5.2.2.2.1.2.1,r6.1.2.2.1,v5.2.2.2.1.2.2.2),()))) else none) else some (v5.2.2.2.1,()))) n (a1,(0:Int),adZ,((0:Int),([]:List Int),r4.1,()),()))))))
def afD:Entry:=⟨45,[.val ql [], .val (.sl 121 jW) []],[.val O6 [] []],fun n c=>nO n c.1 c.2.1⟩
def ajm:Hint:=⟨0,[43],[(0,[1,4,6,7],[130,194])],[(1000194,[5,147,162])],[(87,some 12,J8),(80,some 13,E_4),(87,some 17,J8),(88,some 19,aaU),(89,some 33,afC),(87,some 39,J8)],[],[],[],[]⟩
theorem akB [Fr] (n:Nat):ak Tryz.prog n afD:=aj mixed aI Tryz.func45 (by kernel_rfl) (hi:=ajm) (aa (M4 n) (aa (K_4 n) (aa (M4 n) (aa (adL n) (aa (akA n) (aa (M4 n) aA)))))) (by intro n c; kernel_rfl)
def kF (n:Nat) (a0:qL) (a1:qL):Option (Bool×Unit):=(if decide (a0.1=a1.1)=true then (if decide (a0.2.1=a1.2.1)=true then (if decide (a0.2.2.1=a1.2.2.1)=true then some (decide (a0.2.2.2.1=a1.2.2.2.1),()) else some (false,())) else some (false,())) else some (false,()))
def afE:Entry:=⟨135,[.ro zh, .ro zh],[.val .bool [] []],fun n c=>kF n c.1 c.2.1⟩
def ajn:Hint:=⟨0,[],[],[],[],[],[],[],[]⟩
theorem akC [Fr] (n:Nat):ak Tryz.prog n afE:=aj mixed aI Tryz.func135 (by kernel_rfl) (hi:=ajn) aA (by intro n c; kernel_rfl)
def pX (n:Nat) (a0:dQ) (a1:dQ):Option (Bool×Unit):=(if (!decide (a0.1=a1.1))=true then some (false,()) else (if (!decide (a0.2.1=a1.2.1))=true then some (false,()) else (if (!decide (a0.2.2.1=a1.2.2.1))=true then some (false,()) else (if (!decide ((a0.2.2.2.1.length:Int)=(a1.2.2.2.1.length:Int)))=true then some (false,()) else (rounds (fun L1 (v1:dQ×dQ×Int×Unit)=>(if decide (v1.2.2.1<(v1.1.2.2.2.1.length:Int))=true then (if aH v1.2.2.1 v1.1.2.2.2.1.length then (if aH v1.2.2.1 v1.2.1.2.2.2.1.length then ((kF n (v1.1.2.2.2.1.getD v1.2.2.1.toNat kN) (v1.2.1.2.2.2.1.getD v1.2.2.1.toNat kN)).bind fun r2=>(if (!r2.1)=true then some (false,()) else L1 (v1.1,v1.2.1,IntKind.i64.wrap (v1.2.2.1+(1:Int)),()))) else none) else none) else some (true,()))) n (a0,a1,(0:Int),()))))))
def afF:Entry:=⟨109,[.ro nP, .ro nP],[.val .bool [] []],fun n c=>pX n c.1 c.2.1⟩
def ajo:Hint:=⟨0,[],[(0,[0,1,5],[])],[],[(135,some 71,afE)],[],[],[],[]⟩
theorem akD [Fr] (n:Nat):ak Tryz.prog n afF:=aj mixed aI Tryz.func109 (by kernel_rfl) (hi:=ajo) (aa (akC n) aA) (by intro n c; kernel_rfl)
def uy (n:Nat) (a0:fO) (a1:fO):Option (Bool×Unit):=(if (!decide (a0.1=a1.1))=true then some (false,()) else (if (!decide ((a0.2.1.length:Int)=(a1.2.1.length:Int)))=true then some (false,()) else (rounds (fun L1 (v1:fO×fO×Int×Unit)=>(if decide (v1.2.2.1<(v1.1.2.1.length:Int))=true then (if aH v1.2.2.1 v1.1.2.1.length then (if aH v1.2.2.1 v1.2.1.2.1.length then ((pX n (v1.1.2.1.getD v1.2.2.1.toNat dG) (v1.2.1.2.1.getD v1.2.2.1.toNat dG)).bind fun r2=>(if (!r2.1)=true then some (false,()) else L1 (v1.1,v1.2.1,IntKind.i64.wrap (v1.2.2.1+(1:Int)),()))) else none) else none) else some (true,()))) n (a0,a1,(0:Int),()))))
def afG:Entry:=⟨82,[.ro ql, .ro ql],[.val .bool [] []],fun n c=>uy n c.1 c.2.1⟩
def ajp:Hint:=⟨0,[],[(0,[0,1,5],[])],[],[(109,some 49,afF)],[],[],[],[]⟩
theorem akE [Fr] (n:Nat):ak Tryz.prog n afG:=aj mixed aI Tryz.func82 (by kernel_rfl) (hi:=ajp) (aa (akD n) aA) (by intro n c; kernel_rfl)
def j4 (n:Nat) (a0:Ae):Option (Int×Unit):=(if decide ((IntKind.i64.wrap ((a0.2.1.length:Int)+(a0.2.2.1.length:Int)))>(8000:Int))=true then some ((2:Int),()) else (if (!a0.1)=true then (if decide ((a0.2.2.1.length:Int)>(0:Int))=true then some ((1:Int),()) else (if (!decide (a0.2.2.2.1.1=(0:Int)))=true then some ((1:Int),()) else (if decide ((a0.2.2.2.1.2.1.length:Int)>(0:Int))=true then some ((1:Int),()) else some ((0:Int),())))) else ((jH n a0.2.2.2.1).bind fun r1=>(if (!decide (r1.1=(0:Int)))=true then some (r1.1,()) else ((uu n a0).bind fun r2=>(if (!r2.2.1)=true then some ((5:Int),()) else ((uY n).bind fun r3=>((nO n r3.1 r2.1).bind fun r4=>(if (!decide (r4.1.1=(0:Int)))=true then some ((9:Int),()) else ((uy n r4.1.2.2.1 a0.2.2.2.1).bind fun r5=>(if (!r5.1)=true then some ((9:Int),()) else some ((0:Int),()))))))))))))
def adt:Entry:=⟨41,[.ro BQ],[.val (.int .i64) [] []],fun n c=>j4 n c.1⟩
def ajq:Hint:=⟨0,[],[],[],[(80,some 50,E_4),(81,some 56,afu),(46,some 61,afv),(45,some 63,afD),(82,some 72,afG)],[],[],[],[]⟩
theorem agS [Fr] (n:Nat):ak Tryz.prog n adt:=aj mixed aI Tryz.func41 (by kernel_rfl) (hi:=ajq) (aa (K_4 n) (aa (aks n) (aa (akt n) (aa (akB n) (aa (akE n) aA))))) (by intro n c; kernel_rfl)
def zX (n:Nat) (a0:Int):Option (Bool×Unit):=((bK n a0 (1:Int) (3:Int)).bind fun r1=>some (r1.1,()))
def afH:Entry:=⟨83,[.val (.int .i64) []],[.val .bool [] []],fun n c=>zX n c.1⟩
def ajr:Hint:=⟨0,[],[],[],[(74,some 4,SG)],[],[],[],[]⟩
theorem akG [Fr] (n:Nat):ak Tryz.prog n afH:=aj mixed aI Tryz.func83 (by kernel_rfl) (hi:=ajr) (aa (SY n) aA) (by intro n c; kernel_rfl)
def oF (n:Nat) (a0:EH):Option (Int×Unit):=((zX n a0.2.2.2.1).bind fun r1=>(if (!r1.1)=true then some ((3:Int),()) else ((bK n a0.2.1 (0:Int) (999:Int)).bind fun r2=>(if (!r2.1)=true then some ((3:Int),()) else (if decide ((a0.2.2.1.length:Int)>(6:Int))=true then some ((3:Int),()) else ((nV n a0.2.2.1).bind fun r3=>(if (!r3.1)=true then some ((3:Int),()) else (if decide (a0.1=([]:List Int))=true then (if (!decide (a0.2.1=(0:Int)))=true then some ((1:Int),()) else (if decide ((a0.2.2.1.length:Int)>(0:Int))=true then some ((1:Int),()) else some ((0:Int),()))) else ((jh n a0.1).bind fun r4=>(if (!r4.1)=true then some ((1:Int),()) else (if decide (a0.2.1=(0:Int))=true then some ((1:Int),()) else some ((0:Int),()))))))))))))
def afI:Entry:=⟨42,[.ro xz],[.val (.int .i64) [] []],fun n c=>oF n c.1⟩
def ajs:Hint:=⟨0,[],[],[],[(83,some 7,afH),(74,some 14,SG),(84,some 30,ado),(85,some 55,E_1)],[],[],[],[]⟩
theorem akH [Fr] (n:Nat):ak Tryz.prog n afI:=aj mixed aI Tryz.func42 (by kernel_rfl) (hi:=ajs) (aa (akG n) (aa (SY n) (aa (agH n) (aa (K_1 n) aA)))) (by intro n c; kernel_rfl)
def fF (n:Nat) (a0:Bw):Option (Int×Unit):=((j4 n a0.1).bind fun r1=>(if (!decide (r1.1=(0:Int)))=true then some (r1.1,()) else (if decide ((a0.2.1.length:Int)<(1:Int))=true then some ((2:Int),()) else (if decide ((a0.2.1.length:Int)>(3:Int))=true then some ((2:Int),()) else (rounds (fun L2 (v2:Bw×Int×Unit)=>(if decide (v2.2.1<(v2.1.2.1.length:Int))=true then (if aH v2.2.1 v2.1.2.1.length then ((oF n (v2.1.2.1.getD v2.2.1.toNat BD)).bind fun r3=>(if (!decide (r3.1=(0:Int)))=true then some (r3.1,()) else L2 (v2.1,IntKind.i64.wrap (v2.2.1+(1:Int)),()))) else none) else some ((0:Int),()))) n (a0,(0:Int),()))))))
def afJ:Entry:=⟨18,[.ro Jp],[.val (.int .i64) [] []],fun n c=>fF n c.1⟩
def ajt:Hint:=⟨0,[],[(0,[0,4],[])],[],[(41,some 9,adt),(42,some 42,afI)],[],[],[],[]⟩
theorem akI [Fr] (n:Nat):ak Tryz.prog n afJ:=aj mixed aI Tryz.func18 (by kernel_rfl) (hi:=ajt) (aa (agS n) (aa (akH n) aA)) (by intro n c; kernel_rfl)
def uw (n:Nat) (a0:Int):Option (O8×Unit):=some ((a0,([]:List (List Int)),abk,()),())
def adu:Entry:=⟨19,[.val (.int .i64) []],[.own O7 [2,5,9,74,147,162] [] []],fun n c=>uw n c.1⟩
def aju:Hint:=⟨0,[],[],[],[],[],[],[],[]⟩
theorem agT [Fr] (n:Nat):ak Tryz.prog n adu:=aj mixed aI Tryz.func19 (by kernel_rfl) (hi:=aju) aA (by intro n c; kernel_rfl)
def vK (n:Nat) (a0:Ae):Option (Int×Unit):=((j4 n a0).bind fun r1=>(if (!decide (r1.1=(0:Int)))=true then some (r1.1,()) else (if (!a0.1)=true then some ((9:Int),()) else some ((0:Int),()))))
def afK:Entry:=⟨73,[.ro BQ],[.val (.int .i64) [] []],fun n c=>vK n c.1⟩
def ajv:Hint:=⟨0,[],[],[],[(41,some 5,adt)],[],[],[],[]⟩
theorem akJ [Fr] (n:Nat):ak Tryz.prog n afK:=aj mixed aI Tryz.func73 (by kernel_rfl) (hi:=ajv) (aa (agS n) aA) (by intro n c; kernel_rfl)
def uq (n:Nat) (a0:Int):Option (adY×Unit):=some ((a0,([]:List Int),ad1,()),())
def adv:Entry:=⟨43,[.val (.int .i64) []],[.own Yp [2,5,147,162] [] []],fun n c=>uq n c.1⟩
def ajw:Hint:=⟨0,[],[],[],[],[],[],[],[]⟩
theorem agU [Fr] (n:Nat):ak Tryz.prog n adv:=aj mixed aI Tryz.func43 (by kernel_rfl) (hi:=ajw) aA (by intro n c; kernel_rfl)
def oC (n:Nat) (a0:Ae) (a1:Int):Option (adY×Unit):=((vK n a0).bind fun r1=>(if (!decide (r1.1=(0:Int)))=true then ((uq n r1.1).bind fun r2=>some (r2.1,())) else ((bK n a1 (0:Int) (a0.2.2.1.length:Int)).bind fun r3=>(if (!r3.1)=true then ((uq n (3:Int)).bind fun r4=>some (r4.1,())) else ((nT n a0.2.1).bind fun r5=>(if 0≤a1∧a1≤(a0.2.2.1.length:Int) then (if (r5.1.length+(a0.2.2.1.take a1.toNat).length) * 1≤140737488355328 then some (((0:Int),([]:List Int),(false,r5.1++(a0.2.2.1.take a1.toNat),([]:List Int),Nb,()),()),()) else none) else none))))))
def afL:Entry:=⟨35,[.val BQ [], .val (.int .i64) []],[.own Yp [2,5,147,162] [] []],fun n c=>oC n c.1 c.2.1⟩
def ajx:Hint:=⟨0,[],[],[],[(73,some 6,afK),(43,some 10,adv),(74,some 15,SG),(43,some 17,adv),(47,some 20,aaT)],[],[],[],[]⟩
theorem akK [Fr] (n:Nat):ak Tryz.prog n afL:=aj mixed aI Tryz.func35 (by kernel_rfl) (hi:=ajx) (aa (akJ n) (aa (agU n) (aa (SY n) (aa (agU n) (aa (adK n) aA))))) (by intro n c; kernel_rfl)
def oD (n:Nat) (a0:Bw) (a1:Int):Option (O8×Unit):=((fF n a0).bind fun r1=>(if (!decide (r1.1=(0:Int)))=true then ((uw n r1.1).bind fun r2=>some (r2.1,())) else ((oC n a0.1 a1).bind fun r3=>(if (!decide (r3.1.1=(0:Int)))=true then ((uw n r3.1.1).bind fun r4=>some (r4.1,())) else (rounds (fun L5 (v5:Int×Bw×O8×Bw×Unit)=>(if decide (v5.1<(v5.2.1.2.1.length:Int))=true then (if (v5.2.2.2.1.2.1.length+[(([]:List Int),(0:Int),([]:List Int),(1:Int),())].length) * 56≤140737488355328 then L5 (IntKind.i64.wrap (v5.1+(1:Int)),v5.2.1,v5.2.2.1,(v5.2.2.2.1.1,v5.2.2.2.1.2.1++[(([]:List Int),(0:Int),([]:List Int),(1:Int),())],v5.2.2.2.1.2.2),()) else none) else some (((0:Int),([]:List (List Int)),v5.2.2.2.1,()),()))) n ((0:Int),a0,((0:Int),([]:List (List Int)),abk,()),(r3.1.2.2.1,([]:List EH),()),()))))))
def afM:Entry:=⟨14,[.val Jp [], .val (.int .i64) []],[.own O7 [2,5,9,74,147,162] [] []],fun n c=>oD n c.1 c.2.1⟩
def ajy:Hint:=⟨0,[25,35,40],[(0,[2,4,7,8],[66,130,226])],[],[(18,some 9,afJ),(19,some 13,adu),(35,some 17,afL),(19,some 23,adu)],[],[],[],[]⟩
theorem akL [Fr] (n:Nat):ak Tryz.prog n afM:=aj mixed aI Tryz.func14 (by kernel_rfl) (hi:=ajy) (aa (akI n) (aa (agT n) (aa (akK n) (aa (agT n) aA)))) (by intro n c; kernel_rfl)
def dz (n:Nat) (a0:Int) (a1:Int) (a2:Int):Option (Bool×Unit):=(if decide (a0≥a1)=true then some (decide (a0≤a2),()) else some (false,()))
def Gs:Entry:=⟨53,[.val (.int .i64) [], .val (.int .i64) [], .val (.int .i64) []],[.val .bool [] []],fun n c=>dz n c.1 c.2.1 c.2.2.1⟩
def ajz:Hint:=⟨0,[],[],[],[],[],[],[],[]⟩
theorem Jh [Fr] (n:Nat):ak Tryz.prog n Gs:=aj mixed aI Tryz.func53 (by kernel_rfl) (hi:=ajz) aA (by intro n c; kernel_rfl)
def ni (n:Nat) (a0:List Int) (a1:Int):Option (Bool×Unit):=(rounds (fun L1 (v1:(List Int)×Int×Int×Int×Unit)=>(if decide (v1.2.2.2.1<v1.2.2.1)=true then (if aH v1.2.2.2.1 v1.1.length then (if decide ((v1.1.getD v1.2.2.2.1.toNat 0)<(97:Int))=true then some (false,()) else (if aH v1.2.2.2.1 v1.1.length then (if decide ((v1.1.getD v1.2.2.2.1.toNat 0)>(122:Int))=true then some (false,()) else L1 (v1.1,v1.2.1,v1.2.2.1,IntKind.i64.wrap (v1.2.2.2.1+(1:Int)),())) else none)) else none) else (if decide ((v1.1.length:Int)≥(1:Int))=true then some (decide ((v1.1.length:Int)≤v1.2.1),()) else some (false,())))) n (a0,a1,(a0.length:Int),(0:Int),()))
def afN:Entry:=⟨96,[.val .str [], .val (.int .i64) []],[.val .bool [] []],fun n c=>ni n c.1 c.2.1⟩
def ajA:Hint:=⟨0,[],[(0,[0,1,7,8],[])],[],[],[],[],[],[]⟩
theorem akM [Fr] (n:Nat):ak Tryz.prog n afN:=aj mixed aI Tryz.func96 (by kernel_rfl) (hi:=ajA) aA (by intro n c; kernel_rfl)
def jg (n:Nat) (a0:List Int):Option (Bool×Unit):=((ni n a0 (8:Int)).bind fun r1=>some (r1.1,()))
def X6:Entry:=⟨57,[.val .str []],[.val .bool [] []],fun n c=>jg n c.1⟩
def ajB:Hint:=⟨0,[],[],[],[(96,some 4,afN)],[],[],[],[]⟩
theorem aa4 [Fr] (n:Nat):ak Tryz.prog n X6:=aj mixed aI Tryz.func57 (by kernel_rfl) (hi:=ajB) (aa (akM n) aA) (by intro n c; kernel_rfl)
def pQ (n:Nat) (a0:Int):Option (Bool×Unit):=((dz n a0 (1:Int) (999:Int)).bind fun r1=>some (r1.1,()))
def adw:Entry:=⟨95,[.val (.int .i64) []],[.val .bool [] []],fun n c=>pQ n c.1⟩
def ajC:Hint:=⟨0,[],[],[],[(53,some 4,Gs)],[],[],[],[]⟩
theorem agV [Fr] (n:Nat):ak Tryz.prog n adw:=aj mixed aI Tryz.func95 (by kernel_rfl) (hi:=ajC) (aa (Jh n) aA) (by intro n c; kernel_rfl)
def fE (n:Nat) (a0:Int):Option (Bool×Unit):=((dz n a0 (0:Int) (15:Int)).bind fun r1=>some (r1.1,()))
def adx:Entry:=⟨156,[.val (.int .i64) []],[.val .bool [] []],fun n c=>fE n c.1⟩
def ajD:Hint:=⟨0,[],[],[],[(53,some 4,Gs)],[],[],[],[]⟩
theorem agW [Fr] (n:Nat):ak Tryz.prog n adx:=aj mixed aI Tryz.func156 (by kernel_rfl) (hi:=ajD) (aa (Jh n) aA) (by intro n c; kernel_rfl)
def iq (n:Nat) (a0:Int):Option (Bool×Unit):=((dz n a0 (0:Int) (9999:Int)).bind fun r1=>some (r1.1,()))
def ady:Entry:=⟨157,[.val (.int .i64) []],[.val .bool [] []],fun n c=>iq n c.1⟩
def ajE:Hint:=⟨0,[],[],[],[(53,some 4,Gs)],[],[],[],[]⟩
theorem agX [Fr] (n:Nat):ak Tryz.prog n ady:=aj mixed aI Tryz.func157 (by kernel_rfl) (hi:=ajE) (aa (Jh n) aA) (by intro n c; kernel_rfl)
def iU (n:Nat) (a0:qL):Option (Int×Unit):=((pQ n a0.1).bind fun r1=>(if (!r1.1)=true then some ((3:Int),()) else ((fE n a0.2.1).bind fun r2=>(if (!r2.1)=true then some ((3:Int),()) else ((iq n a0.2.2.1).bind fun r3=>(if (!r3.1)=true then some ((3:Int),()) else (if decide ((a0.2.2.2.1.length:Int)>(400:Int))=true then some ((2:Int),()) else some ((0:Int),()))))))))
def afO:Entry:=⟨151,[.val zh []],[.val (.int .i64) [] []],fun n c=>iU n c.1⟩
def ajF:Hint:=⟨0,[],[],[],[(95,some 6,adw),(156,some 11,adx),(157,some 17,ady)],[],[],[],[]⟩
theorem akN [Fr] (n:Nat):ak Tryz.prog n afO:=aj mixed aI Tryz.func151 (by kernel_rfl) (hi:=ajF) (aa (agV n) (aa (agW n) (aa (agX n) aA))) (by intro n c; kernel_rfl)
def nL (n:Nat) (a0:dQ):Option (Int×Unit):=((jg n a0.1).bind fun r1=>(if (!r1.1)=true then some ((5:Int),()) else ((dz n a0.2.1 (1:Int) (999:Int)).bind fun r2=>(if (!r2.1)=true then some ((3:Int),()) else ((dz n a0.2.2.1 (1:Int) (1000:Int)).bind fun r3=>(if (!r3.1)=true then some ((3:Int),()) else (if decide ((a0.2.2.2.1.length:Int)>(6:Int))=true then some ((2:Int),()) else (rounds (fun L4 (v4:Int×(List qL)×Int×Int×dQ×Unit)=>(if decide (v4.2.2.2.1<v4.2.2.1)=true then (if aH v4.2.2.2.1 v4.2.1.length then ((iU n (v4.2.1.getD v4.2.2.2.1.toNat kN)).bind fun r5=>(if (!decide (r5.1=(0:Int)))=true then some (r5.1,()) else (if decide (((v4.2.1.getD v4.2.2.2.1.toNat kN).1)≤v4.1)=true then some ((1:Int),()) else (if decide (((v4.2.1.getD v4.2.2.2.1.toNat kN).1)≥v4.2.2.2.2.1.2.2.1)=true then some ((1:Int),()) else L4 ((v4.2.1.getD v4.2.2.2.1.toNat kN).1,v4.2.1,v4.2.2.1,IntKind.i64.wrap (v4.2.2.2.1+(1:Int)),v4.2.2.2.2.1,()))))) else none) else some ((0:Int),()))) n ((0:Int),a0.2.2.2.1,(a0.2.2.2.1.length:Int),(0:Int),a0,())))))))))
def afP:Entry:=⟨116,[.val nP []],[.val (.int .i64) [] []],fun n c=>nL n c.1⟩
def ajG:Hint:=⟨0,[],[(1,[1,3,29,30,31],[34])],[],[(57,some 10,X6),(53,some 15,Gs),(53,some 20,Gs),(151,some 36,afO)],[],[],[],[]⟩
theorem akO [Fr] (n:Nat):ak Tryz.prog n afP:=aj mixed aI Tryz.func116 (by kernel_rfl) (hi:=ajG) (aa (aa4 n) (aa (Jh n) (aa (Jh n) (aa (akN n) aA)))) (by intro n c; kernel_rfl)
def kR (n:Nat) (a0:dQ) (a1:dQ):Option (Bool×Unit):=(if decide (a0.1=a1.1)=true then some (true,()) else some (decide (a0.2.1=a1.2.1),()))
def afQ:Entry:=⟨118,[.val nP [], .ro nP],[.val .bool [] []],fun n c=>kR n c.1 c.2.1⟩
def ajH:Hint:=⟨0,[],[],[],[],[],[],[],[]⟩
theorem akP [Fr] (n:Nat):ak Tryz.prog n afQ:=aj mixed aI Tryz.func118 (by kernel_rfl) (hi:=ajH) aA (by intro n c; kernel_rfl)
def aY (n:Nat) (a0:List dQ) (Jq:dQ):Option (Int×Unit):=(rounds (fun L1 (v1:(List dQ)×dQ×Int×Int×Unit)=>(if decide (v1.2.2.2.1<v1.2.2.1)=true then (if aH v1.2.2.2.1 v1.1.length then ((kR n (v1.1.getD v1.2.2.2.1.toNat dG) v1.2.1).bind fun r2=>(if r2.1=true then some (v1.2.2.2.1,()) else L1 (v1.1,v1.2.1,v1.2.2.1,IntKind.i64.wrap (v1.2.2.2.1+(1:Int)),()))) else none) else some ((-1:Int),()))) n (a0,Jq,(a0.length:Int),(0:Int),()))
def afR:Entry:=⟨152,[.val (.sl 147 nP) [], .fn 118 [nP]],[.val (.int .i64) [] []],fun n c=>aY n c.1 c.2.1⟩
def ajI:Hint:=⟨0,[],[(0,[0,1,7,8],[])],[],[(118,some 16,afQ)],[],[],[],[]⟩
theorem akQ [Fr] (n:Nat):ak Tryz.prog n afR:=aj mixed aI Tryz.func152 (by kernel_rfl) (hi:=ajI) (aa (akP n) aA) (by intro n c; kernel_rfl)
def bB (n:Nat) (a0:List dQ) (Jq:dQ):Option (Bool×Unit):=((aY n a0 Jq).bind fun r1=>some (decide (r1.1≥(0:Int)),()))
def afS:Entry:=⟨117,[.val (.sl 147 nP) [], .fn 118 [nP]],[.val .bool [] []],fun n c=>bB n c.1 c.2.1⟩
def ajJ:Hint:=⟨0,[],[],[],[(152,some 7,afR)],[],[],[],[]⟩
theorem akR [Fr] (n:Nat):ak Tryz.prog n afS:=aj mixed aI Tryz.func117 (by kernel_rfl) (hi:=ajJ) (aa (akQ n) aA) (by intro n c; kernel_rfl)
def iH (n:Nat) (a0:fO):Option (Int×Unit):=((dz n a0.1 (1:Int) (1000:Int)).bind fun r1=>(if (!r1.1)=true then some ((3:Int),()) else (if decide ((a0.2.1.length:Int)>(3:Int))=true then some ((2:Int),()) else (rounds (fun L2 (v2:(List dQ)×Int×Int×fO×Unit)=>(if decide (v2.2.2.1<v2.2.1)=true then (if aH v2.2.2.1 v2.1.length then ((nL n (v2.1.getD v2.2.2.1.toNat dG)).bind fun r3=>(if (!decide (r3.1=(0:Int)))=true then some (r3.1,()) else (if decide ((((v2.1.getD v2.2.2.1.toNat dG).2).1)≥v2.2.2.2.1.1)=true then some ((9:Int),()) else (if 0≤v2.2.2.1∧v2.2.2.1≤(v2.2.2.2.1.2.1.length:Int) then ((bB n (v2.2.2.2.1.2.1.take v2.2.2.1.toNat) (v2.1.getD v2.2.2.1.toNat dG)).bind fun r4=>(if r4.1=true then some ((6:Int),()) else L2 (v2.1,v2.2.1,IntKind.i64.wrap (v2.2.2.1+(1:Int)),v2.2.2.2.1,()))) else none)))) else none) else some ((0:Int),()))) n (a0.2.1,(a0.2.1.length:Int),(0:Int),a0,())))))
def adz:Entry:=⟨92,[.val ql []],[.val (.int .i64) [] []],fun n c=>iH n c.1⟩
def ajK:Hint:=⟨0,[],[(1,[1,17,18,19],[34])],[],[(53,some 9,Gs),(116,some 25,afP),(117,some 41,afS)],[],[],[],[]⟩
theorem agY [Fr] (n:Nat):ak Tryz.prog n adz:=aj mixed aI Tryz.func92 (by kernel_rfl) (hi:=ajK) (aa (Jh n) (aa (akO n) (aa (akR n) aA))) (by intro n c; kernel_rfl)
def bN (n:Nat) (a0:List Int):Option (Int×Unit):=some ((a0.length:Int),())
def Qy:Entry:=⟨76,[.val (.sl 5 (.int .u8)) []],[.val (.int .i64) [] []],fun n c=>bN n c.1⟩
def ajL:Hint:=⟨0,[],[],[],[],[],[],[],[]⟩
theorem S9 [Fr] (n:Nat):ak Tryz.prog n Qy:=aj mixed aI Tryz.func76 (by kernel_rfl) (hi:=ajL) aA (by intro n c; kernel_rfl)
def fq (n:Nat) (a0:Zt1) (a1:Int):Option ((List Int)×Zt1×Unit):=(if a0.2.1=true then (if a1=a1∧0≤a1∧a1 * 1≤140737488355328 then some (List.replicate a1.toNat (0:Int),(a0.1,true,a0.2.2),()) else none) else ((bN n a0.1).bind fun r1=>(if decide (a1>r1.1)=true then (if a1=a1∧0≤a1∧a1 * 1≤140737488355328 then some (List.replicate a1.toNat (0:Int),(a0.1,true,a0.2.2),()) else none) else (if 0≤a1∧a1≤(a0.1.length:Int) then (if 0≤a1∧a1≤(a0.1.length:Int) then some (a0.1.take a1.toNat,(a0.1.drop a1.toNat,a0.2),()) else none) else none))))
def VY:Entry:=⟨125,[.rw V8 [] [4294967295] [5], .val (.int .i64) []],[.val (.sl 5 (.int .u8)) [0] []],fun n c=>fq n c.1 c.2.1⟩
def ajM:Hint:=⟨0,[],[],[],[(76,some 16,Qy)],[],[],[],[]⟩
theorem Yf [Fr] (n:Nat):ak Tryz.prog n VY:=aj mixed aI Tryz.func125 (by kernel_rfl) (hi:=ajM) (aa (S9 n) aA) (by intro n c; kernel_rfl)
def gW (n:Nat) (a0:Zt1):Option (Int×Zt1×Unit):=((fq n a0 (2:Int)).bind fun r1=>(if aH (0:Int) r1.1.length then (if aH (1:Int) r1.1.length then some (IntKind.i64.wrap ((IntKind.i64.wrap ((IntKind.i64.wrap (r1.1.getD (0:Int).toNat (0:Int))) * (256:Int)))+(IntKind.i64.wrap (r1.1.getD (1:Int).toNat (0:Int)))),r1.2.1,()) else none) else none))
def X7:Entry:=⟨123,[.rw V8 [] [4294967295] [5]],[.val (.int .i64) [] []],fun n c=>gW n c.1⟩
def ajN:Hint:=⟨0,[],[],[],[(125,some 5,VY)],[],[],[],[]⟩
theorem aa5 [Fr] (n:Nat):ak Tryz.prog n X7:=aj mixed aI Tryz.func123 (by kernel_rfl) (hi:=ajN) (aa (Yf n) aA) (by intro n c; kernel_rfl)
def eY (n:Nat) (a0:Zt1):Option (Int×Zt1×Unit):=((fq n a0 (1:Int)).bind fun r1=>(if aH (0:Int) r1.1.length then some (IntKind.i64.wrap (r1.1.getD (0:Int).toNat (0:Int)),r1.2.1,()) else none))
def SN:Entry:=⟨124,[.rw V8 [] [4294967295] [5]],[.val (.int .i64) [] []],fun n c=>eY n c.1⟩
def ajO:Hint:=⟨0,[],[],[],[(125,some 4,VY)],[],[],[],[]⟩
theorem V4 [Fr] (n:Nat):ak Tryz.prog n SN:=aj mixed aI Tryz.func124 (by kernel_rfl) (hi:=ajO) (aa (Yf n) aA) (by intro n c; kernel_rfl)
def nM (n:Nat) (a0:iE):Option (Bool×Unit):=(if decide (a0.1=(5:Int))=true then some (true,()) else some (decide (a0.1=(6:Int)),()))
def aaW:Entry:=⟨155,[.val jW []],[.val .bool [] []],fun n c=>nM n c.1⟩
def ajP:Hint:=⟨0,[],[],[],[],[],[],[],[]⟩
theorem adO [Fr] (n:Nat):ak Tryz.prog n aaW:=aj mixed aI Tryz.func155 (by kernel_rfl) (hi:=ajP) aA (by intro n c; kernel_rfl)
def kC (n:Nat) (a0:iE):Option (Bool×Unit):=((nM n a0).bind fun r1=>(if r1.1=true then some (true,()) else some (decide (a0.1=(4:Int)),())))
def afT:Entry:=⟨173,[.val jW []],[.val .bool [] []],fun n c=>kC n c.1⟩
def ajQ:Hint:=⟨0,[],[],[],[(155,some 4,aaW)],[],[],[],[]⟩
theorem akT [Fr] (n:Nat):ak Tryz.prog n afT:=aj mixed aI Tryz.func173 (by kernel_rfl) (hi:=ajQ) (aa (adO n) aA) (by intro n c; kernel_rfl)
def pO (n:Nat) (a0:iE):Option (Bool×Unit):=((nM n a0).bind fun r1=>(if r1.1=true then ((kC n a0).bind fun r2=>(if r2.1=true then (if decide (a0.1=(4:Int))=true then (if decide (a0.1=(4:Int))=true then (if decide (a0.1=(3:Int))=true then some (true,()) else (if decide (a0.2.2.2.2.2.2.1=(0:Int))=true then some (decide ((a0.2.2.2.2.2.2.2.1.length:Int)=(0:Int)),()) else some (false,()))) else (if decide (a0.1=(3:Int))=true then (if decide (a0.1=(3:Int))=true then some (true,()) else (if decide (a0.2.2.2.2.2.2.1=(0:Int))=true then some (decide ((a0.2.2.2.2.2.2.2.1.length:Int)=(0:Int)),()) else some (false,()))) else (if decide (a0.2.2.2.2.2.1=(0:Int))=true then (if decide (a0.1=(3:Int))=true then some (true,()) else (if decide (a0.2.2.2.2.2.2.1=(0:Int))=true then some (decide ((a0.2.2.2.2.2.2.2.1.length:Int)=(0:Int)),()) else some (false,()))) else some (false,())))) else (if decide (a0.2.2.2.2.1=(0:Int))=true then (if decide (a0.1=(4:Int))=true then (if decide (a0.1=(3:Int))=true then some (true,()) else (if decide (a0.2.2.2.2.2.2.1=(0:Int))=true then some (decide ((a0.2.2.2.2.2.2.2.1.length:Int)=(0:Int)),()) else some (false,()))) else (if decide (a0.1=(3:Int))=true then (if decide (a0.1=(3:Int))=true then some (true,()) else (if decide (a0.2.2.2.2.2.2.1=(0:Int))=true then some (decide ((a0.2.2.2.2.2.2.2.1.length:Int)=(0:Int)),()) else some (false,()))) else (if decide (a0.2.2.2.2.2.1=(0:Int))=true then (if decide (a0.1=(3:Int))=true then some (true,()) else (if decide (a0.2.2.2.2.2.2.1=(0:Int))=true then some (decide ((a0.2.2.2.2.2.2.2.1.length:Int)=(0:Int)),()) else some (false,()))) else some (false,())))) else some (false,()))) else (if decide ((a0.2.2.2.1.length:Int)=(0:Int))=true then (if decide (a0.1=(4:Int))=true then (if decide (a0.1=(4:Int))=true then (if decide (a0.1=(3:Int))=true then some (true,()) else (if decide (a0.2.2.2.2.2.2.1=(0:Int))=true then some (decide ((a0.2.2.2.2.2.2.2.1.length:Int)=(0:Int)),()) else some (false,()))) else (if decide (a0.1=(3:Int))=true then (if decide (a0.1=(3:Int))=true then some (true,()) else (if decide (a0.2.2.2.2.2.2.1=(0:Int))=true then some (decide ((a0.2.2.2.2.2.2.2.1.length:Int)=(0:Int)),()) else some (false,()))) else (if decide (a0.2.2.2.2.2.1=(0:Int))=true then (if decide (a0.1=(3:Int))=true then some (true,()) else (if decide (a0.2.2.2.2.2.2.1=(0:Int))=true then some (decide ((a0.2.2.2.2.2.2.2.1.length:Int)=(0:Int)),()) else some (false,()))) else some (false,())))) else (if decide (a0.2.2.2.2.1=(0:Int))=true then (if decide (a0.1=(4:Int))=true then (if decide (a0.1=(3:Int))=true then some (true,()) else (if decide (a0.2.2.2.2.2.2.1=(0:Int))=true then some (decide ((a0.2.2.2.2.2.2.2.1.length:Int)=(0:Int)),()) else some (false,()))) else (if decide (a0.1=(3:Int))=true then (if decide (a0.1=(3:Int))=true then some (true,()) else (if decide (a0.2.2.2.2.2.2.1=(0:Int))=true then some (decide ((a0.2.2.2.2.2.2.2.1.length:Int)=(0:Int)),()) else some (false,()))) else (if decide (a0.2.2.2.2.2.1=(0:Int))=true then (if decide (a0.1=(3:Int))=true then some (true,()) else (if decide (a0.2.2.2.2.2.2.1=(0:Int))=true then some (decide ((a0.2.2.2.2.2.2.2.1.length:Int)=(0:Int)),()) else some (false,()))) else some (false,())))) else some (false,()))) else some (false,())))) else (if decide (a0.2.2.1=([]:List Int))=true then ((kC n a0).bind fun r3=>(if r3.1=true then (if decide (a0.1=(4:Int))=true then (if decide (a0.1=(4:Int))=true then (if decide (a0.1=(3:Int))=true then some (true,()) else (if decide (a0.2.2.2.2.2.2.1=(0:Int))=true then some (decide ((a0.2.2.2.2.2.2.2.1.length:Int)=(0:Int)),()) else some (false,()))) else (if decide (a0.1=(3:Int))=true then (if decide (a0.1=(3:Int))=true then some (true,()) else (if decide (a0.2.2.2.2.2.2.1=(0:Int))=true then some (decide ((a0.2.2.2.2.2.2.2.1.length:Int)=(0:Int)),()) else some (false,()))) else (if decide (a0.2.2.2.2.2.1=(0:Int))=true then (if decide (a0.1=(3:Int))=true then some (true,()) else (if decide (a0.2.2.2.2.2.2.1=(0:Int))=true then some (decide ((a0.2.2.2.2.2.2.2.1.length:Int)=(0:Int)),()) else some (false,()))) else some (false,())))) else (if decide (a0.2.2.2.2.1=(0:Int))=true then (if decide (a0.1=(4:Int))=true then (if decide (a0.1=(3:Int))=true then some (true,()) else (if decide (a0.2.2.2.2.2.2.1=(0:Int))=true then some (decide ((a0.2.2.2.2.2.2.2.1.length:Int)=(0:Int)),()) else some (false,()))) else (if decide (a0.1=(3:Int))=true then (if decide (a0.1=(3:Int))=true then some (true,()) else (if decide (a0.2.2.2.2.2.2.1=(0:Int))=true then some (decide ((a0.2.2.2.2.2.2.2.1.length:Int)=(0:Int)),()) else some (false,()))) else (if decide (a0.2.2.2.2.2.1=(0:Int))=true then (if decide (a0.1=(3:Int))=true then some (true,()) else (if decide (a0.2.2.2.2.2.2.1=(0:Int))=true then some (decide ((a0.2.2.2.2.2.2.2.1.length:Int)=(0:Int)),()) else some (false,()))) else some (false,())))) else some (false,()))) else (if decide ((a0.2.2.2.1.length:Int)=(0:Int))=true then (if decide (a0.1=(4:Int))=true then (if decide (a0.1=(4:Int))=true then (if decide (a0.1=(3:Int))=true then some (true,()) else (if decide (a0.2.2.2.2.2.2.1=(0:Int))=true then some (decide ((a0.2.2.2.2.2.2.2.1.length:Int)=(0:Int)),()) else some (false,()))) else (if decide (a0.1=(3:Int))=true then (if decide (a0.1=(3:Int))=true then some (true,()) else (if decide (a0.2.2.2.2.2.2.1=(0:Int))=true then some (decide ((a0.2.2.2.2.2.2.2.1.length:Int)=(0:Int)),()) else some (false,()))) else (if decide (a0.2.2.2.2.2.1=(0:Int))=true then (if decide (a0.1=(3:Int))=true then some (true,()) else (if decide (a0.2.2.2.2.2.2.1=(0:Int))=true then some (decide ((a0.2.2.2.2.2.2.2.1.length:Int)=(0:Int)),()) else some (false,()))) else some (false,())))) else (if decide (a0.2.2.2.2.1=(0:Int))=true then (if decide (a0.1=(4:Int))=true then (if decide (a0.1=(3:Int))=true then some (true,()) else (if decide (a0.2.2.2.2.2.2.1=(0:Int))=true then some (decide ((a0.2.2.2.2.2.2.2.1.length:Int)=(0:Int)),()) else some (false,()))) else (if decide (a0.1=(3:Int))=true then (if decide (a0.1=(3:Int))=true then some (true,()) else (if decide (a0.2.2.2.2.2.2.1=(0:Int))=true then some (decide ((a0.2.2.2.2.2.2.2.1.length:Int)=(0:Int)),()) else some (false,()))) else (if decide (a0.2.2.2.2.2.1=(0:Int))=true then (if decide (a0.1=(3:Int))=true then some (true,()) else (if decide (a0.2.2.2.2.2.2.1=(0:Int))=true then some (decide ((a0.2.2.2.2.2.2.2.1.length:Int)=(0:Int)),()) else some (false,()))) else some (false,())))) else some (false,()))) else some (false,())))) else some (false,()))))
def afU:Entry:=⟨154,[.val jW []],[.val .bool [] []],fun n c=>pO n c.1⟩
def ajR:Hint:=⟨0,[],[],[],[(155,some 12,aaW),(173,some 20,afT)],[],[],[],[]⟩
theorem akU [Fr] (n:Nat):ak Tryz.prog n afU:=aj mixed aI Tryz.func154 (by kernel_rfl) (hi:=ajR) (aa (adO n) (aa (akT n) aA)) (by intro n c; kernel_rfl)
def lH (n:Nat) (a0:List Int):Option (Bool×Unit):=(rounds (fun L1 (v1:(List Int)×(List Int)×Int×Int×Unit)=>(if decide (v1.2.2.2.1<v1.2.2.1)=true then (if aH v1.2.2.2.1 v1.2.1.length then ((pQ n (v1.2.1.getD v1.2.2.2.1.toNat (0:Int))).bind fun r2=>(if (!r2.1)=true then some (false,()) else (if decide (v1.2.2.2.1>(0:Int))=true then (if aH (IntKind.i64.wrap (v1.2.2.2.1 - (1:Int))) v1.1.length then (if decide ((v1.1.getD (IntKind.i64.wrap (v1.2.2.2.1 - (1:Int))).toNat (0:Int))≥(v1.2.1.getD v1.2.2.2.1.toNat (0:Int)))=true then some (false,()) else L1 (v1.1,v1.2.1,v1.2.2.1,IntKind.i64.wrap (v1.2.2.2.1+(1:Int)),())) else none) else L1 (v1.1,v1.2.1,v1.2.2.1,IntKind.i64.wrap (v1.2.2.2.1+(1:Int)),())))) else none) else some (true,()))) n (a0,a0,(a0.length:Int),(0:Int),()))
def adA:Entry:=⟨56,[.val (.sl 2 (.int .i64)) []],[.val .bool [] []],fun n c=>lH n c.1⟩
def ajS:Hint:=⟨0,[],[(0,[0,5,6,7],[])],[],[(95,some 13,adw)],[],[],[],[]⟩
theorem agZ [Fr] (n:Nat):ak Tryz.prog n adA:=aj mixed aI Tryz.func56 (by kernel_rfl) (hi:=ajS) (aa (agV n) aA) (by intro n c; kernel_rfl)
def oO (n:Nat) (a0:iE):Option (Int×Unit):=((dz n a0.1 (1:Int) (7:Int)).bind fun r1=>(if (!r1.1)=true then some ((1:Int),()) else ((pO n a0).bind fun r2=>(if (!r2.1)=true then some ((1:Int),()) else ((jg n a0.2.1).bind fun r3=>(if (!r3.1)=true then some ((5:Int),()) else ((nM n a0).bind fun r4=>(if r4.1=true then ((jg n a0.2.2.1).bind fun r5=>(if (!r5.1)=true then some ((5:Int),()) else (if decide ((a0.2.2.2.1.length:Int)>(6:Int))=true then some ((2:Int),()) else ((lH n a0.2.2.2.1).bind fun r6=>(if (!r6.1)=true then some ((3:Int),()) else (if decide (a0.1=(4:Int))=true then ((dz n a0.2.2.2.2.1 (1:Int) (3:Int)).bind fun r7=>(if (!r7.1)=true then some ((3:Int),()) else ((fE n a0.2.2.2.2.2.1).bind fun r8=>(if (!r8.1)=true then some ((3:Int),()) else ((iq n a0.2.2.2.2.2.2.1).bind fun r9=>(if (!r9.1)=true then some ((3:Int),()) else (if decide ((a0.2.2.2.2.2.2.2.1.length:Int)>(400:Int))=true then some ((2:Int),()) else some ((0:Int),())))))))) else ((fE n a0.2.2.2.2.2.1).bind fun Qb=>(if (!Qb.1)=true then some ((3:Int),()) else ((iq n a0.2.2.2.2.2.2.1).bind fun J4=>(if (!J4.1)=true then some ((3:Int),()) else (if decide ((a0.2.2.2.2.2.2.2.1.length:Int)>(400:Int))=true then some ((2:Int),()) else some ((0:Int),())))))))))))) else (if decide ((a0.2.2.2.1.length:Int)>(6:Int))=true then some ((2:Int),()) else ((lH n a0.2.2.2.1).bind fun Ms=>(if (!Ms.1)=true then some ((3:Int),()) else (if decide (a0.1=(4:Int))=true then ((dz n a0.2.2.2.2.1 (1:Int) (3:Int)).bind fun Qt=>(if (!Qt.1)=true then some ((3:Int),()) else ((fE n a0.2.2.2.2.2.1).bind fun r14=>(if (!r14.1)=true then some ((3:Int),()) else ((iq n a0.2.2.2.2.2.2.1).bind fun VL=>(if (!VL.1)=true then some ((3:Int),()) else (if decide ((a0.2.2.2.2.2.2.2.1.length:Int)>(400:Int))=true then some ((2:Int),()) else some ((0:Int),())))))))) else ((fE n a0.2.2.2.2.2.1).bind fun r16=>(if (!r16.1)=true then some ((3:Int),()) else ((iq n a0.2.2.2.2.2.2.1).bind fun r17=>(if (!r17.1)=true then some ((3:Int),()) else (if decide ((a0.2.2.2.2.2.2.2.1.length:Int)>(400:Int))=true then some ((2:Int),()) else some ((0:Int),()))))))))))))))))))
def adB:Entry:=⟨126,[.val jW []],[.val (.int .i64) [] []],fun n c=>oO n c.1⟩
def ajT:Hint:=⟨0,[],[],[],[(53,some 6,Gs),(154,some 10,afU),(57,some 16,X6),(155,some 20,aaW),(57,some 24,X6),(56,some 36,adA),(53,some 45,Gs),(156,some 52,adx),(157,some 58,ady)],[],[],[],[]⟩
theorem ag0 [Fr] (n:Nat):ak Tryz.prog n adB:=aj mixed aI Tryz.func126 (by kernel_rfl) (hi:=ajT) (aa (Jh n) (aa (akU n) (aa (aa4 n) (aa (adO n) (aa (aa4 n) (aa (agZ n) (aa (Jh n) (aa (agW n) (aa (agX n) aA))))))))) (by intro n c; kernel_rfl)
def oQ (n:Nat) (a0:Int):Option ((List Int)×Unit):=(if (256:Int)≠0 then (if (256:Int)≠0 then some ([IntKind.u8.wrap (IntKind.i64.wrap (a0.tdiv (256:Int))),IntKind.u8.wrap (a0.tmod (256:Int))],()) else none) else none)
def VZ:Entry:=⟨158,[.val (.int .i64) []],[.own (.sl 5 (.int .u8)) [5] [] []],fun n c=>oQ n c.1⟩
def ajU:Hint:=⟨0,[],[],[],[],[],[],[],[]⟩
theorem Yg [Fr] (n:Nat):ak Tryz.prog n VZ:=aj mixed aI Tryz.func158 (by kernel_rfl) (hi:=ajU) aA (by intro n c; kernel_rfl)
def vJ (n:Nat) (a0:List Int):Option (Int×Unit):=(rounds (fun L1 (v1:Int×(List Int)×Int×Int×Unit)=>(if decide (v1.2.2.2.1<v1.2.2.1)=true then (if aH v1.2.2.2.1 v1.2.1.length then (if (65521:Int)≠0 then L1 ((IntKind.i64.wrap ((IntKind.i64.wrap (v1.1 * (31:Int)))+(IntKind.i64.wrap (v1.2.1.getD v1.2.2.2.1.toNat (0:Int))))).tmod (65521:Int),v1.2.1,v1.2.2.1,IntKind.i64.wrap (v1.2.2.2.1+(1:Int)),()) else none) else none) else some (v1.1,()))) n ((1:Int),a0,(a0.length:Int),(0:Int),()))
def afV:Entry:=⟨159,[.val (.sl 5 (.int .u8)) []],[.val (.int .i64) [] []],fun n c=>vJ n c.1⟩
def ajV:Hint:=⟨0,[],[(0,[3,6,7,8],[])],[],[],[],[],[],[]⟩
theorem akW [Fr] (n:Nat):ak Tryz.prog n afV:=aj mixed aI Tryz.func159 (by kernel_rfl) (hi:=ajV) aA (by intro n c; kernel_rfl)
def uf (n:Nat) (a0:iE):Option ((List Int)×Unit):=(if ([IntKind.u8.wrap a0.1,IntKind.u8.wrap (a0.2.1.length:Int)].length+a0.2.1.length) * 1≤140737488355328 then (if (([IntKind.u8.wrap a0.1,IntKind.u8.wrap (a0.2.1.length:Int)]++a0.2.1).length+[IntKind.u8.wrap (a0.2.2.1.length:Int)].length) * 1≤140737488355328 then (if ((([IntKind.u8.wrap a0.1,IntKind.u8.wrap (a0.2.1.length:Int)]++a0.2.1)++[IntKind.u8.wrap (a0.2.2.1.length:Int)]).length+a0.2.2.1.length) * 1≤140737488355328 then (if (((([IntKind.u8.wrap a0.1,IntKind.u8.wrap (a0.2.1.length:Int)]++a0.2.1)++[IntKind.u8.wrap (a0.2.2.1.length:Int)])++a0.2.2.1).length+[IntKind.u8.wrap (a0.2.2.2.1.length:Int)].length) * 1≤140737488355328 then (rounds (fun L1 (v1:(List Int)×Int×Int×iE×(List Int)×Unit)=>(if decide (v1.2.2.1<v1.2.1)=true then (if aH v1.2.2.1 v1.1.length then ((oQ n (v1.1.getD v1.2.2.1.toNat (0:Int))).bind fun r2=>(if (v1.2.2.2.2.1.length+r2.1.length) * 1≤140737488355328 then L1 (v1.1,v1.2.1,IntKind.i64.wrap (v1.2.2.1+(1:Int)),v1.2.2.2.1,v1.2.2.2.2.1++r2.1,()) else none)) else none) else (if (v1.2.2.2.2.1.length+[IntKind.u8.wrap v1.2.2.2.1.2.2.2.2.1,IntKind.u8.wrap v1.2.2.2.1.2.2.2.2.2.1].length) * 1≤140737488355328 then ((oQ n v1.2.2.2.1.2.2.2.2.2.2.1).bind fun r3=>(if ((v1.2.2.2.2.1++[IntKind.u8.wrap v1.2.2.2.1.2.2.2.2.1,IntKind.u8.wrap v1.2.2.2.1.2.2.2.2.2.1]).length+r3.1.length) * 1≤140737488355328 then ((bN n v1.2.2.2.1.2.2.2.2.2.2.2.1).bind fun r4=>((oQ n r4.1).bind fun r5=>(if (((v1.2.2.2.2.1++[IntKind.u8.wrap v1.2.2.2.1.2.2.2.2.1,IntKind.u8.wrap v1.2.2.2.1.2.2.2.2.2.1])++r3.1).length+r5.1.length) * 1≤140737488355328 then (if ((((v1.2.2.2.2.1++[IntKind.u8.wrap v1.2.2.2.1.2.2.2.2.1,IntKind.u8.wrap v1.2.2.2.1.2.2.2.2.2.1])++r3.1)++r5.1).length+v1.2.2.2.1.2.2.2.2.2.2.2.1.length) * 1≤140737488355328 then ((bN n ((((v1.2.2.2.2.1++[IntKind.u8.wrap v1.2.2.2.1.2.2.2.2.1,IntKind.u8.wrap v1.2.2.2.1.2.2.2.2.2.1])++r3.1)++r5.1)++v1.2.2.2.1.2.2.2.2.2.2.2.1)).bind fun r6=>((oQ n (IntKind.i64.wrap (r6.1+(4:Int)))).bind fun r7=>(if (r7.1.length+((((v1.2.2.2.2.1++[IntKind.u8.wrap v1.2.2.2.1.2.2.2.2.1,IntKind.u8.wrap v1.2.2.2.1.2.2.2.2.2.1])++r3.1)++r5.1)++v1.2.2.2.1.2.2.2.2.2.2.2.1).length) * 1≤140737488355328 then ((vJ n (r7.1++((((v1.2.2.2.2.1++[IntKind.u8.wrap v1.2.2.2.1.2.2.2.2.1,IntKind.u8.wrap v1.2.2.2.1.2.2.2.2.2.1])++r3.1)++r5.1)++v1.2.2.2.1.2.2.2.2.2.2.2.1))).bind fun r8=>((oQ n r8.1).bind fun r9=>(if ((r7.1++((((v1.2.2.2.2.1++[IntKind.u8.wrap v1.2.2.2.1.2.2.2.2.1,IntKind.u8.wrap v1.2.2.2.1.2.2.2.2.2.1])++r3.1)++r5.1)++v1.2.2.2.1.2.2.2.2.2.2.2.1)).length+r9.1.length) * 1≤140737488355328 then some ((r7.1++((((v1.2.2.2.2.1++[IntKind.u8.wrap v1.2.2.2.1.2.2.2.2.1,IntKind.u8.wrap v1.2.2.2.1.2.2.2.2.2.1])++r3.1)++r5.1)++v1.2.2.2.1.2.2.2.2.2.2.2.1))++r9.1,()) else none))) else none))) else none) else none))) else none)) else none))) n (a0.2.2.2.1,(a0.2.2.2.1.length:Int),(0:Int),a0,((([IntKind.u8.wrap a0.1,IntKind.u8.wrap (a0.2.1.length:Int)]++a0.2.1)++[IntKind.u8.wrap (a0.2.2.1.length:Int)])++a0.2.2.1)++[IntKind.u8.wrap (a0.2.2.2.1.length:Int)],())) else none) else none) else none) else none)
def afW:Entry:=⟨128,[.val jW []],[.own (.sl 5 (.int .u8)) [5] [] []],fun n c=>uf n c.1⟩
def ajW:Hint:=⟨0,[],[(0,[1,3,37,38,39],[34,450])],[],[(158,some 45,VZ),(158,some 60,VZ),(76,some 64,Qy),(158,some 65,VZ),(76,some 72,Qy),(158,some 74,VZ),(159,some 79,afV),(158,some 80,VZ)],[],[],[],[]⟩
theorem akX [Fr] (n:Nat):ak Tryz.prog n afW:=aj mixed aI Tryz.func128 (by kernel_rfl) (hi:=ajW) (aa (Yg n) (aa (Yg n) (aa (S9 n) (aa (Yg n) (aa (S9 n) (aa (Yg n) (aa (akW n) (aa (Yg n) aA)))))))) (by intro n c; kernel_rfl)
def yD (n:Nat) (a0:List Int) (a1:List Int):Option (Bool×Unit):=some (decide (a0=a1),())
def afX:Entry:=⟨127,[.val (.sl 5 (.int .u8)) [], .val (.sl 5 (.int .u8)) []],[.val .bool [] []],fun n c=>yD n c.1 c.2.1⟩
def ajX:Hint:=⟨0,[],[],[],[],[],[],[],[]⟩
theorem akY [Fr] (n:Nat):ak Tryz.prog n afX:=aj mixed aI Tryz.func127 (by kernel_rfl) (hi:=ajX) aA (by intro n c; kernel_rfl)
def qz (n:Nat) (a0:List Int):Option (iE×Int×Unit):=((gW n (a0,false,())).bind fun r1=>(if r1.2.1.2.1=true then some (Fq,(0:Int),()) else ((bN n a0).bind fun r2=>(if decide (r1.1>r2.1)=true then some (Fq,(0:Int),()) else (if 0≤(2:Int)∧(2:Int)≤(if r1.1>(2:Int) then r1.1 else (2:Int))∧(if r1.1>(2:Int) then r1.1 else (2:Int))≤(a0.length:Int) then ((eY n ((a0.take (if r1.1>(2:Int) then r1.1 else (2:Int)).toNat).drop (2:Int).toNat,r1.2.1.2)).bind fun r3=>((eY n r3.2.1).bind fun r4=>((fq n r4.2.1 r4.1).bind fun r5=>((eY n r5.2.1).bind fun r6=>((fq n r6.2.1 r6.1).bind fun r7=>((eY n r7.2.1).bind fun r8=>(rounds (fun L9 (v9:(List Int)×Int×Int×Int×iE×iE×Zt1×Unit)=>(if decide (v9.2.2.2.1<v9.2.2.1)=true then ((gW n v9.2.2.2.2.2.2.1).bind fun Qb=>(if (v9.2.2.2.2.2.1.2.2.2.1.length+[Qb.1].length) * 8≤140737488355328 then L9 (v9.1,v9.2.1,v9.2.2.1,IntKind.i64.wrap (v9.2.2.2.1+(1:Int)),v9.2.2.2.2.1,(v9.2.2.2.2.2.1.1,v9.2.2.2.2.2.1.2.1,v9.2.2.2.2.2.1.2.2.1,v9.2.2.2.2.2.1.2.2.2.1++[Qb.1],v9.2.2.2.2.2.1.2.2.2.2),Qb.2.1,()) else none)) else ((eY n v9.2.2.2.2.2.2.1).bind fun J4=>((eY n J4.2.1).bind fun Ms=>((gW n Ms.2.1).bind fun Qt=>((gW n Qt.2.1).bind fun r14=>((fq n r14.2.1 r14.1).bind fun VL=>(if (([]:List Int).length+VL.1.length) * 1≤140737488355328 then (if VL.2.1.2.1=true then some (Fq,(0:Int),()) else ((oO n (v9.2.2.2.2.2.1.1,v9.2.2.2.2.2.1.2.1,v9.2.2.2.2.2.1.2.2.1,v9.2.2.2.2.2.1.2.2.2.1,J4.1,Ms.1,Qt.1,([]:List Int)++VL.1,v9.2.2.2.2.2.1.2.2.2.2.2.2.2.2)).bind fun r16=>(if (!decide (r16.1=(0:Int)))=true then some (Fq,(0:Int),()) else ((uf n (v9.2.2.2.2.2.1.1,v9.2.2.2.2.2.1.2.1,v9.2.2.2.2.2.1.2.2.1,v9.2.2.2.2.2.1.2.2.2.1,J4.1,Ms.1,Qt.1,([]:List Int)++VL.1,v9.2.2.2.2.2.1.2.2.2.2.2.2.2.2)).bind fun r17=>(if 0≤v9.2.1∧v9.2.1≤(v9.1.length:Int) then ((yD n r17.1 (v9.1.take v9.2.1.toNat)).bind fun r18=>(if (!r18.1)=true then some (Fq,(0:Int),()) else some ((v9.2.2.2.2.2.1.1,v9.2.2.2.2.2.1.2.1,v9.2.2.2.2.2.1.2.2.1,v9.2.2.2.2.2.1.2.2.2.1,J4.1,Ms.1,Qt.1,([]:List Int)++VL.1,v9.2.2.2.2.2.1.2.2.2.2.2.2.2.2),v9.2.1,()))) else none))))) else none)))))))) n (a0,r1.1,r8.1,(0:Int),Fq,(r3.1,r5.1,r7.1,([]:List Int),(0:Int),(0:Int),(0:Int),([]:List Int),()),r8.2.1,())))))))) else none)))))
def afY:Entry:=⟨97,[.val (.sl 5 (.int .u8)) []],[.own jW [2,5] [] [], .val (.int .i64) [] []],fun n c=>qz n c.1⟩
def ajY:Hint:=⟨0,[50,92],[(0,[0,2,4,5,6,46,47],[66,194,290])],[],[(123,some 11,X7),(76,some 19,Qy),(124,some 31,SN),(124,some 35,SN),(125,some 36,VY),(124,some 41,SN),(125,some 42,VY),(124,some 46,SN),(123,some 52,X7),(124,some 58,SN),(124,some 61,SN),(123,some 64,X7),(123,some 69,X7),(125,some 70,VY),(126,some 79,adB),(128,some 84,afW),(127,some 88,afX)],[],[],[],[]⟩
theorem akZ [Fr] (n:Nat):ak Tryz.prog n afY:=aj mixed aI Tryz.func97 (by kernel_rfl) (hi:=ajY) (aa (aa5 n) (aa (S9 n) (aa (V4 n) (aa (V4 n) (aa (Yf n) (aa (V4 n) (aa (Yf n) (aa (V4 n) (aa (aa5 n) (aa (V4 n) (aa (V4 n) (aa (aa5 n) (aa (aa5 n) (aa (Yf n) (aa (ag0 n) (aa (akX n) (aa (akY n) aA))))))))))))))))) (by intro n c; kernel_rfl)
def oP (n:Nat) (a0:List Int):Option ((List iE)×Int×Unit):=(rounds (fun L1 (v1:(List Int)×Int×(List iE)×Unit)=>(if 0≤v1.2.1∧v1.2.1≤(v1.1.length:Int) then ((qz n (v1.1.drop v1.2.1.toNat)).bind fun r2=>(if decide (r2.2.1=(0:Int))=true then some (v1.2.2.1,v1.2.1,()) else (if (v1.2.2.1.length+[r2.1].length) * 112≤140737488355328 then L1 (v1.1,IntKind.i64.wrap (v1.2.1+r2.2.1),v1.2.2.1++[r2.1],()) else none))) else none)) n (a0,(0:Int),([]:List iE),()))
def adC:Entry:=⟨58,[.val (.sl 5 (.int .u8)) []],[.own (.sl 121 jW) [2,5,121] [] [], .val (.int .i64) [] []],fun n c=>oP n c.1⟩
def ajZ:Hint:=⟨0,[21],[(0,[0,4,5],[258])],[],[(97,some 13,afY)],[],[],[],[]⟩
theorem ag1 [Fr] (n:Nat):ak Tryz.prog n adC:=aj mixed aI Tryz.func58 (by kernel_rfl) (hi:=ajZ) (aa (akZ n) aA) (by intro n c; kernel_rfl)
def lG (n:Nat) (a0:Ae):Option ((List iE)×Bool×Unit):=((oP n a0.2.1).bind fun r1=>((oP n a0.2.2.1).bind fun r2=>(if (r1.1.length+r2.1.length) * 112≤140737488355328 then ((bN n a0.2.1).bind fun r3=>(if decide (r1.2.1=r3.1)=true then ((bN n a0.2.2.1).bind fun r4=>some (r1.1++r2.1,decide (r2.2.1=r4.1),())) else some (r1.1++r2.1,false,()))) else none)))
def afZ:Entry:=⟨93,[.val BQ []],[.own (.sl 121 jW) [2,5,121] [] [], .val .bool [] []],fun n c=>lG n c.1⟩
def aj0:Hint:=⟨0,[],[],[],[(58,some 11,adC),(58,some 17,adC),(76,some 26,Qy),(76,some 32,Qy)],[],[],[],[]⟩
theorem ak0 [Fr] (n:Nat):ak Tryz.prog n afZ:=aj mixed aI Tryz.func93 (by kernel_rfl) (hi:=aj0) (aa (ag1 n) (aa (ag1 n) (aa (S9 n) (aa (S9 n) aA)))) (by intro n c; kernel_rfl)
def vH (n:Nat)  : Option (fO×Unit):=some (((1:Int),([]:List dQ),()),())
def af0:Entry:=⟨60,[],[.own ql [5,147,162] [] []],fun n c=>vH n⟩
def aj1:Hint:=⟨0,[],[],[],[],[],[],[],[]⟩
theorem ak1 [Fr] (n:Nat):ak Tryz.prog n af0:=aj mixed aI Tryz.func60 (by kernel_rfl) (hi:=aj1) aA (by intro n c; kernel_rfl)
def dV (n:Nat) (a0:List Int):Option ((List Int)×Unit):=(if a0.isEmpty=true then (agC [(.sl 5 (.int .u8))] (some (([]:List Int),())) (if (([]:List Int).length+a0.length) * 1≤140737488355328 then some (([]:List Int)++a0,()) else none)) else (if (([]:List Int).length+a0.length) * 1≤140737488355328 then some (([]:List Int)++a0,()) else none))
def aaX:Entry:=⟨61,[.val (.sl 5 (.int .u8)) []],[.own (.sl 5 (.int .u8)) [5] [] []],fun n c=>dV n c.1⟩
def aj2:Hint:=⟨0,[],[],[],[],[],[],[],[]⟩
theorem adP [Fr] (n:Nat):ak Tryz.prog n aaX:=aj mixed aI Tryz.func61 (by kernel_rfl) (hi:=aj2) aA (by intro n c; kernel_rfl)
def lF (n:Nat) (a0:fO):Option (fO×Unit):=(rounds (fun L1 (v1:(List dQ)×Int×Int×fO×fO×Unit)=>(if decide (v1.2.2.1<v1.2.1)=true then (if aH v1.2.2.1 v1.1.length then (rounds (fun L2 (v2:(List dQ)×Int×Int×(List qL)×Int×Int×fO×fO×dQ×Unit)=>(if decide (v2.2.2.2.2.2.1<v2.2.2.2.2.1)=true then (if aH v2.2.2.2.2.2.1 v2.2.2.2.1.length then ((dV n (((((v2.2.2.2.1.getD v2.2.2.2.2.2.1.toNat kN).2).2).2).1)).bind fun r3=>(if (v2.2.2.2.2.2.2.2.2.1.2.2.2.1.length+[((v2.2.2.2.1.getD v2.2.2.2.2.2.1.toNat kN).1,((v2.2.2.2.1.getD v2.2.2.2.2.2.1.toNat kN).2).1,(((v2.2.2.2.1.getD v2.2.2.2.2.2.1.toNat kN).2).2).1,r3.1,((((v2.2.2.2.1.getD v2.2.2.2.2.2.1.toNat kN).2).2).2).2)].length) * 48≤140737488355328 then L2 (v2.1,v2.2.1,v2.2.2.1,v2.2.2.2.1,v2.2.2.2.2.1,IntKind.i64.wrap (v2.2.2.2.2.2.1+(1:Int)),v2.2.2.2.2.2.2.1,v2.2.2.2.2.2.2.2.1,(v2.2.2.2.2.2.2.2.2.1.1,v2.2.2.2.2.2.2.2.2.1.2.1,v2.2.2.2.2.2.2.2.2.1.2.2.1,v2.2.2.2.2.2.2.2.2.1.2.2.2.1++[((v2.2.2.2.1.getD v2.2.2.2.2.2.1.toNat kN).1,((v2.2.2.2.1.getD v2.2.2.2.2.2.1.toNat kN).2).1,(((v2.2.2.2.1.getD v2.2.2.2.2.2.1.toNat kN).2).2).1,r3.1,((((v2.2.2.2.1.getD v2.2.2.2.2.2.1.toNat kN).2).2).2).2)],v2.2.2.2.2.2.2.2.2.1.2.2.2.2),()) else none)) else none) else (if (v2.2.2.2.2.2.2.2.1.2.1.length+[v2.2.2.2.2.2.2.2.2.1].length) * 56≤140737488355328 then L1 (v2.1,v2.2.1,IntKind.i64.wrap (v2.2.2.1+(1:Int)),v2.2.2.2.2.2.2.1,(v2.2.2.2.2.2.2.2.1.1,v2.2.2.2.2.2.2.2.1.2.1++[v2.2.2.2.2.2.2.2.2.1],v2.2.2.2.2.2.2.2.1.2.2),()) else none))) n (v1.1,v1.2.1,v1.2.2.1,((((v1.1.getD v1.2.2.1.toNat dG).2).2).2).1,((((((v1.1.getD v1.2.2.1.toNat dG).2).2).2).1).length:Int),(0:Int),v1.2.2.2.1,v1.2.2.2.2.1,((v1.1.getD v1.2.2.1.toNat dG).1,((v1.1.getD v1.2.2.1.toNat dG).2).1,(((v1.1.getD v1.2.2.1.toNat dG).2).2).1,([]:List qL),()),())) else none) else some (v1.2.2.2.2.1,()))) n (a0.2.1,(a0.2.1.length:Int),(0:Int),Nb,(a0.1,([]:List dQ),()),()))
def adD:Entry:=⟨98,[.val ql []],[.own ql [5,147,162] [] []],fun n c=>lF n c.1⟩
def aj3:Hint:=⟨0,[38,39,45,46,51],[(0,[2,3,13,14,15],[66,98]),(2,[2,3,6,13,14,15,27,28,29],[66,98,194])],[],[(61,some 35,aaX)],[],[],[],[]⟩
theorem ag2 [Fr] (n:Nat):ak Tryz.prog n adD:=aj mixed aI Tryz.func98 (by kernel_rfl) (hi:=aj3) (aa (adP n) aA) (by intro n c; kernel_rfl)
def qJ (n:Nat) (a0:dQ) (a1:List Int):Option (Bool×Unit):=some (decide (a0.1=a1),())
def af1:Entry:=⟨174,[.val nP [], .ro .str],[.val .bool [] []],fun n c=>qJ n c.1 c.2.1⟩
def aj4:Hint:=⟨0,[],[],[],[],[],[],[],[]⟩
theorem ak2 [Fr] (n:Nat):ak Tryz.prog n af1:=aj mixed aI Tryz.func174 (by kernel_rfl) (hi:=aj4) aA (by intro n c; kernel_rfl)
def bW (n:Nat) (a0:List dQ) (Jq:List Int):Option (Int×Unit):=(rounds (fun L1 (v1:(List dQ)×(List Int)×Int×Int×Unit)=>(if decide (v1.2.2.2.1<v1.2.2.1)=true then (if aH v1.2.2.2.1 v1.1.length then ((qJ n (v1.1.getD v1.2.2.2.1.toNat dG) v1.2.1).bind fun r2=>(if r2.1=true then some (v1.2.2.2.1,()) else L1 (v1.1,v1.2.1,v1.2.2.1,IntKind.i64.wrap (v1.2.2.2.1+(1:Int)),()))) else none) else some ((-1:Int),()))) n (a0,Jq,(a0.length:Int),(0:Int),()))
def af2:Entry:=⟨152,[.val (.sl 147 nP) [], .fn 174 [.str]],[.val (.int .i64) [] []],fun n c=>bW n c.1 c.2.1⟩
def aj5:Hint:=⟨0,[],[(0,[0,1,7,8],[])],[],[(174,some 16,af1)],[],[],[],[]⟩
theorem ak3 [Fr] (n:Nat):ak Tryz.prog n af2:=aj mixed aI Tryz.func152 (by kernel_rfl) (hi:=aj5) (aa (ak2 n) aA) (by intro n c; kernel_rfl)
def jq (n:Nat) (a0:fO) (a1:List Int):Option (Int×Unit):=((bW n a0.2.1 a1).bind fun r1=>some (r1.1,()))
def aaY:Entry:=⟨161,[.val ql [], .val .str []],[.val (.int .i64) [] []],fun n c=>jq n c.1 c.2.1⟩
def aj6:Hint:=⟨0,[],[],[],[(152,some 8,af2)],[],[],[],[]⟩
theorem adQ [Fr] (n:Nat):ak Tryz.prog n aaY:=aj mixed aI Tryz.func161 (by kernel_rfl) (hi:=aj6) (aa (ak3 n) aA) (by intro n c; kernel_rfl)
def oh (n:Nat) (a0:fO) (a1:List Int):Option (Int×fO×Unit):=((jq n a0 a1).bind fun r1=>(if decide (r1.1≥(0:Int))=true then some ((6:Int),a0,()) else (if decide ((a0.2.1.length:Int)=(3:Int))=true then some ((10:Int),a0,()) else (if decide (a0.1=(1000:Int))=true then some ((10:Int),a0,()) else (if (a0.2.1.length+[(a1,a0.1,(1:Int),([]:List qL),())].length) * 56≤140737488355328 then some ((0:Int),(IntKind.i64.wrap (a0.1+(1:Int)),a0.2.1++[(a1,a0.1,(1:Int),([]:List qL),())],a0.2.2),()) else none)))))
def af3:Entry:=⟨160,[.rw ql [5,147,162] [5,147,162,4294967295] [5,147,162], .val .str []],[.val (.int .i64) [] []],fun n c=>oh n c.1 c.2.1⟩
def aj7:Hint:=⟨0,[30],[],[],[(161,some 10,aaY)],[],[],[],[]⟩
theorem ak4 [Fr] (n:Nat):ak Tryz.prog n af3:=aj mixed aI Tryz.func160 (by kernel_rfl) (hi:=aj7) (aa (adQ n) aA) (by intro n c; kernel_rfl)
namespace SV
def tyI:XY:={ ty:=[(2,(.int .i64)),(3,(.int .i64)),(4, .bool),(5,(.int .u8)),(6,(.int .u8)),(7,Zk4),(8,Zk4),(9, .str),(10, .str),(11, .str),(12,(.int .u64)),(13,Zk0),(14,Zk0),(21,(.int .i32)),(22,(.sl 5 (.int .u8))),(23,(.sl 142 KH)),(24,Tj),(25,Tj),(26,Tp),(27,Tp),(28,(.sl 79 xz)),(29,Tt),(30,Tt),(32,(.sl 9 .str)),(33,(.sl 147 Zk3)),(34,Zk8),(35,Zk8),(36,abj),(37,abj),(38,(.sl 74 xz)),(39,adW),(40,adW),(41,ahe),(42,ahe),(57,(.sl 2 (.int .i64))),(58,ahc),(59,ahc),(73,xz),(74,xz),(79,xz),(85,(.sl 121 jW)),(88,ahb),(89,ahb),(120,jW),(121,jW),(122,KI),(123,KI),(137,(.sl 22 (.sl 5 (.int .u8)))),(140,(.sl 203 zh)),(141,KH),(142,KH),(145,(.sl 162 zh)),(146,Zk3),(147,Zk3),(161,zh),(162,zh),(166,V8),(167,V8),(179,V9),(180,V9),(203,zh),(219,(.int .u32)),(220,(.int .u8)),(221,(.int .u8)),(224,(.int .i32)),(225,(.int .i32))],bytes:=[(2,8),(3,8),(4,1),(5,1),(6,1),(7,24),(8,24),(9,16),(10,16),(11,16),(12,8),(13,24),(14,24),(21,4),(22,24),(23,24),(24,32),(25,32),(26,88),(27,88),(28,24),(29,112),(30,112),(32,24),(33,24),(34,32),(35,32),(36,88),(37,88),(38,24),(39,112),(40,112),(41,144),(42,144),(57,24),(58,120),(59,120),(73,56),(74,56),(79,56),(85,24),(88,64),(89,64),(120,112),(121,112),(122,128),(123,128),(137,24),(140,24),(141,56),(142,56),(145,24),(146,56),(147,56),(161,48),(162,48),(166,32),(167,32),(179,40),(180,40),(203,48),(219,4),(220,1),(221,1),(224,4),(225,4)],ptr:=[15,16,17,55,81,83,116,144,151,165,177,182,223],ids:=true }
def T:ji:=tyI.tab
theorem aI:CO Tryz.prog tyI=true:=by kernel_rfl
theorem mixed:Tryz.prog.follows .mixedOrders=true:=by kernel_rfl
def bQ (n:Nat) (a0:List Zt3) (a1:Int) (a2:Int):Option Zt8:=(if 0≤a1∧a1≤a2∧a2≤(a0.length:Int)∧(a0.length:Int)≤(a0.length:Int) then (if decide (a1=a2)=true then some (((a0.length:Nat):Int),a0,()) else (if 0≤(0:Int)∧(0:Int)≤a1∧a1≤(a0.length:Int) then (if 0≤a2∧a2≤(a0.length:Int)∧(a0.length:Int)≤(a0.length:Int) then (if a1.toNat≤a2.toNat then (if 0≤(((a1.toNat+((a0.length:Int).toNat - a2.toNat)) - 0:Nat):Int)∧(((a1.toNat+((a0.length:Int).toNat - a2.toNat)) - 0:Nat):Int)≤(a0.length:Int)∧((0:Nat):Int)+(a0.length:Int)≤((a0.take a1.toNat++(a0.take ((a0.length:Int).toNat)).drop a2.toNat++a0.drop (a1.toNat+((a0.length:Int).toNat - a2.toNat))).length:Int) then some ((((a1.toNat+((a0.length:Int).toNat - a2.toNat)):Nat):Int),(a0.take a1.toNat++(a0.take ((a0.length:Int).toNat)).drop a2.toNat++a0.drop (a1.toNat+((a0.length:Int).toNat - a2.toNat))).take (0+(((a1.toNat+((a0.length:Int).toNat - a2.toNat)) - 0:Nat):Int).toNat)++List.replicate ((0+(a0.length:Int).toNat) - (0+(((a1.toNat+((a0.length:Int).toNat - a2.toNat)) - 0:Nat):Int).toNat)) (([]:List Int),(0:Int),(0:Int),(0:Nat),())++(a0.take a1.toNat++(a0.take ((a0.length:Int).toNat)).drop a2.toNat++a0.drop (a1.toNat+((a0.length:Int).toNat - a2.toNat))).drop (0+(a0.length:Int).toNat),()) else none) else none) else none) else none)) else none)
def aaZ:Entry:=⟨162,[.jl (.sl 147 Zk3) [5,147,162] [147], .val (.int .i64) [], .val (.int .i64) []],[.into 0 []],fun n c=>bQ n c.1 c.2.1 c.2.2.1⟩
def aj8:Hint:=⟨0,[],[],[],[],[],[],[13,22,25,26,29,31],[]⟩
theorem adR [Fr] (n:Nat):ak Tryz.prog n aaZ:=aj mixed aI Tryz.func162 (by kernel_rfl) (hi:=aj8) aA (by intro n c; kernel_rfl)
end SV
def ac6:List cZ:=[.jl (.sl 147 nP) [5,147,162] [147], .val (.int .i64) [], .val (.int .i64) []]
def aiu:List jy:=[.into 0 []]
def bQ (n:Nat) (a0:List dQ) (a1:Int) (a2:Int):Option (Int×List dQ×Unit):=mU.K7 dG a0 a1 a2
def aaZ:Entry:=⟨162,ac6,aiu,fun n (c:Cont (kin ac6))=>bQ n c.1 c.2.1 c.2.2.1⟩
theorem adR [Fr] (n:Nat):ak Tryz.prog n aaZ:=mU.Pq (k0:=.str) (kk:=zh) (e:=162) (t:=147) (ow:=[5,147,162]) (wt:=[147]) (sK:=[147]) (d0:=([]:List Int)) (FI:=SV.bQ) (by simp [K.tys,aL]) (by simp [K.tys,aL]) (by simp [K.tys,aL]) (fun fr=>SV.adR n) (by simp [nJ,aL]) (fun _ _ _=>⟨rfl,rfl⟩) (fun xs i j h=>mU.TQ _ xs i j h)
def rz (n:Nat) (a0:dQ) (a1:qL):Option (Int×dQ×Unit):=((dV n a1.2.2.2.1).bind fun r1=>(if [(a0.2.2.1,a1.2.1,a1.2.2.1,r1.1,())].length=1∧(a0.2.2.2.1.length+1) * 48≤140737488355328 then some (IntKind.i64.wrap ((IntKind.i64.wrap (a0.2.2.1+(1:Int))) - (1:Int)),(a0.1,a0.2.1,IntKind.i64.wrap (a0.2.2.1+(1:Int)),a0.2.2.2.1++[[(a0.2.2.1,a1.2.1,a1.2.2.1,r1.1,())].getD 0 kN],a0.2.2.2.2),()) else none))
def af4:Entry:=⟨163,[.rw nP [5,162] [162,4294967295] [5,162], .val zh []],[.val (.int .i64) [] []],fun n c=>rz n c.1 c.2.1⟩
def aj9:Hint:=⟨0,[9],[],[],[(61,some 20,aaX)],[],[],[],[23]⟩
theorem ak5 [Fr] (n:Nat):ak Tryz.prog n af4:=aj mixed aI Tryz.func163 (by kernel_rfl) (hi:=aj9) (aa (adP n) aA) (by intro n c; kernel_rfl)
def eH (n:Nat) (a0:List Int) (a1:Int):Option (Int×Unit):=(rounds (fun L1 (v1:(List Int)×Int×Int×Int×Unit)=>(if decide (v1.2.2.2.1<v1.2.2.1)=true then (if aH v1.2.2.2.1 v1.1.length then (if decide (v1.2.1=(v1.1.getD v1.2.2.2.1.toNat (0:Int)))=true then some (v1.2.2.2.1,()) else L1 (v1.1,v1.2.1,v1.2.2.1,IntKind.i64.wrap (v1.2.2.2.1+(1:Int)),())) else none) else some ((-1:Int),()))) n (a0,a1,(a0.length:Int),(0:Int),()))
def SQ:Entry:=⟨180,[.val (.sl 2 (.int .i64)) [], .val (.int .i64) []],[.val (.int .i64) [] []],fun n c=>eH n c.1 c.2.1⟩
def Yb:Hint:=⟨0,[],[(0,[0,1,7,8],[])],[],[],[],[],[],[]⟩
theorem adl:DOk T Yb Tryz.f180 SQ:=by intro n c; kernel_rfl
theorem adS [Fr] (n:Nat):ak Tryz.prog n SQ:=aj mixed aI Tryz.func180 (by kernel_rfl) (hi:=Yb) aA adl
def aW (n:Nat) (a0:List Int) (a1:Int):Option (Bool×Unit):=((eH n a0 a1).bind fun r1=>some (decide (r1.1≥(0:Int)),()))
def Qz:Entry:=⟨175,[.val (.sl 2 (.int .i64)) [], .val (.int .i64) []],[.val .bool [] []],fun n c=>aW n c.1 c.2.1⟩
def Yc:Hint:=⟨0,[],[],[],[(180,some 7,SQ)],[],[],[],[]⟩
theorem adm:DOk T Yc Tryz.f175 Qz:=by intro n c; kernel_rfl
theorem aa6 [Fr] (n:Nat):ak Tryz.prog n Qz:=aj mixed aI Tryz.func175 (by kernel_rfl) (hi:=Yc) (aa (adS n) aA) adm
def mZ (n:Nat) (a0:dQ) (a1:iE):Option ((List Int)×dQ×Unit):=(rounds (fun L1 (v1:Int×Int×dQ×iE×(List Int)×Unit)=>(if decide (v1.2.1<v1.1)=true then (if aH v1.2.1 v1.2.2.1.2.2.2.1.length then ((aW n v1.2.2.2.1.2.2.2.1 ((v1.2.2.1.2.2.2.1.getD v1.2.1.toNat kN).1)).bind fun r2=>(if (!r2.1)=true then L1 (v1.1,IntKind.i64.wrap (v1.2.1+(1:Int)),v1.2.2.1,v1.2.2.2.1,v1.2.2.2.2.1,()) else (if (v1.2.2.2.2.1.length+[(v1.2.2.1.2.2.2.1.getD v1.2.1.toNat kN).1].length) * 8≤140737488355328 then (if decide (v1.2.2.2.1.2.2.2.2.1=(1:Int))=true then L1 (v1.1,IntKind.i64.wrap (v1.2.1+(1:Int)),(v1.2.2.1.1,v1.2.2.1.2.1,v1.2.2.1.2.2.1,(fH v1.2.2.1.2.2.2.1 v1.2.1.toNat kN fun z1=>(z1.1,v1.2.2.2.1.2.2.2.2.2.1,z1.2.2)),v1.2.2.1.2.2.2.2),v1.2.2.2.1,v1.2.2.2.2.1++[(v1.2.2.1.2.2.2.1.getD v1.2.1.toNat kN).1],()) else (if decide (v1.2.2.2.1.2.2.2.2.1=(2:Int))=true then L1 (v1.1,IntKind.i64.wrap (v1.2.1+(1:Int)),(v1.2.2.1.1,v1.2.2.1.2.1,v1.2.2.1.2.2.1,(fH v1.2.2.1.2.2.2.1 v1.2.1.toNat kN fun z1=>(z1.1,IntKind.i64.wrap ((BitVec.ofInt (IntKind.bits .i64) (((v1.2.2.1.2.2.2.1.getD v1.2.1.toNat kN).2).1) ||| BitVec.ofInt (IntKind.bits .i64) v1.2.2.2.1.2.2.2.2.2.1).toNat),z1.2.2)),v1.2.2.1.2.2.2.2),v1.2.2.2.1,v1.2.2.2.2.1++[(v1.2.2.1.2.2.2.1.getD v1.2.1.toNat kN).1],()) else L1 (v1.1,IntKind.i64.wrap (v1.2.1+(1:Int)),(v1.2.2.1.1,v1.2.2.1.2.1,v1.2.2.1.2.2.1,(fH v1.2.2.1.2.2.2.1 v1.2.1.toNat kN fun z1=>(z1.1,IntKind.i64.wrap ((BitVec.ofInt (IntKind.bits .i64) (((v1.2.2.1.2.2.2.1.getD v1.2.1.toNat kN).2).1) &&& ~~~ BitVec.ofInt (IntKind.bits .i64) v1.2.2.2.1.2.2.2.2.2.1).toNat),z1.2.2)),v1.2.2.1.2.2.2.2),v1.2.2.2.1,v1.2.2.2.2.1++[(v1.2.2.1.2.2.2.1.getD v1.2.1.toNat kN).1],()))) else none))) else none) else some (v1.2.2.2.2.1,v1.2.2.1,()))) n ((a0.2.2.2.1.length:Int),(0:Int),a0,a1,([]:List Int),()))
def af5:Entry:=⟨164,[.rw nP [5,162] [162] [], .val jW []],[.own (.sl 2 (.int .i64)) [2] [] []],fun n c=>mZ n c.1 c.2.1⟩
def aka:Hint:=⟨0,[20],[(0,[0,3,5,13,14],[0,98,258])],[],[(175,some 29,Qz)],[],[],[],[]⟩
theorem ak6 [Fr] (n:Nat):ak Tryz.prog n af5:=aj mixed aI Tryz.func164 (by kernel_rfl) (hi:=aka) (aa (aa6 n) aA) (by intro n c; kernel_rfl)
namespace IdP
def tyI:XY:={ ty:=[(2,(.int .i64)),(3,(.int .i64)),(4, .bool),(5,(.int .u8)),(6,(.int .u8)),(7,Zk4),(8,Zk4),(9, .str),(10, .str),(11, .str),(12,(.int .u64)),(13,Zk0),(14,Zk0),(21,(.int .i32)),(22,(.sl 5 (.int .u8))),(23,(.sl 142 Zk9)),(24,Ti),(25,Ti),(26,Tm),(27,Tm),(28,(.sl 79 xz)),(29,Wh),(30,Wh),(32,(.sl 9 .str)),(33,(.sl 147 Jo)),(34,QI),(35,QI),(36,QJ),(37,QJ),(38,(.sl 74 xz)),(39,Tq),(40,Tq),(41,Wi),(42,Wi),(57,(.sl 2 (.int .i64))),(58,We),(59,We),(73,xz),(74,xz),(79,xz),(85,(.sl 121 jW)),(88,Wd),(89,Wd),(120,jW),(121,jW),(122,KI),(123,KI),(137,(.sl 22 (.sl 5 (.int .u8)))),(140,(.sl 203 Na)),(141,Zk9),(142,Zk9),(145,(.sl 162 Na)),(146,Jo),(147,Jo),(161,Na),(162,Na),(166,V8),(167,V8),(179,V9),(180,V9),(203,Na),(219,(.int .u32)),(220,(.int .u8)),(221,(.int .u8)),(224,(.int .i32)),(225,(.int .i32))],bytes:=[(2,8),(3,8),(4,1),(5,1),(6,1),(7,24),(8,24),(9,16),(10,16),(11,16),(12,8),(13,24),(14,24),(21,4),(22,24),(23,24),(24,32),(25,32),(26,88),(27,88),(28,24),(29,112),(30,112),(32,24),(33,24),(34,32),(35,32),(36,88),(37,88),(38,24),(39,112),(40,112),(41,144),(42,144),(57,24),(58,120),(59,120),(73,56),(74,56),(79,56),(85,24),(88,64),(89,64),(120,112),(121,112),(122,128),(123,128),(137,24),(140,24),(141,56),(142,56),(145,24),(146,56),(147,56),(161,48),(162,48),(166,32),(167,32),(179,40),(180,40),(203,48),(219,4),(220,1),(221,1),(224,4),(225,4)],ptr:=[15,16,17,55,81,83,116,144,151,165,177,182,223],ids:=true }
def T:ji:=tyI.tab
theorem aI:CO Tryz.prog tyI=true:=by kernel_rfl
theorem mixed:Tryz.prog.follows .mixedOrders=true:=by kernel_rfl
def gu (n:Nat) (a0:Zt9):Option ((List Int)×Zt9×Unit):=(rounds (fun L1 (v1:(List O9)×Int×Int×Zt9×(List Int)×(List O9)×Unit)=>(if decide (v1.2.2.1<v1.2.1)=true then (if aH v1.2.2.1 v1.1.length then (if (!decide ((IntKind.i64.wrap ((BitVec.ofInt (IntKind.bits .i64) (((v1.1.getD v1.2.2.1.toNat Pb).2).1) &&& BitVec.ofInt (IntKind.bits .i64) (8:Int)).toNat))=(0:Int)))=true then (if (v1.2.2.2.2.1.length+[(v1.1.getD v1.2.2.1.toNat Pb).1].length) * 8≤140737488355328 then L1 (v1.1,v1.2.1,IntKind.i64.wrap (v1.2.2.1+(1:Int)),v1.2.2.2.1,v1.2.2.2.2.1++[(v1.1.getD v1.2.2.1.toNat Pb).1],v1.2.2.2.2.2.1,()) else none) else (if (v1.2.2.2.2.2.1.length+[v1.1.getD v1.2.2.1.toNat Pb].length) * 48≤140737488355328 then L1 (v1.1,v1.2.1,IntKind.i64.wrap (v1.2.2.1+(1:Int)),v1.2.2.2.1,v1.2.2.2.2.1,v1.2.2.2.2.2.1++[v1.1.getD v1.2.2.1.toNat Pb],()) else none)) else none) else some (v1.2.2.2.2.1,(v1.2.2.2.1.1,v1.2.2.2.1.2.1,v1.2.2.2.1.2.2.1,v1.2.2.2.2.2.1,v1.2.2.2.1.2.2.2.2),()))) n (a0.2.2.2.1,(a0.2.2.2.1.length:Int),(0:Int),a0,([]:List Int),([]:List O9),()))
def aa0:Entry:=⟨165,[.rw Jo [5,162] [4294967295] [162]],[.own (.sl 2 (.int .i64)) [2] [] []],fun n c=>gu n c.1⟩
def akb:Hint:=⟨0,[],[(0,[0,3,4,12,13,14],[0,226,258])],[],[],[],[],[],[]⟩
theorem adT [Fr] (n:Nat):ak Tryz.prog n aa0:=aj mixed aI Tryz.func165 (by kernel_rfl) (hi:=akb) aA (by intro n c; kernel_rfl)
end IdP
def gu (n:Nat) (a0:List Int×Int×Int×List kH.Ad×Unit):Option (List Int×(List Int×Int×Int×List kH.Ad×Unit)×Unit):=kH.za n a0
def ac7:List cZ:=[.rw nP [5,162] [4294967295,5] [162,4294967294]]
def aiv:List jy:=[.own (.sl 2 (.int .i64)) [2] [] []]
def aa0:Entry:=⟨165,ac7,aiv,fun n (c:Cont (kin ac7))=>gu n c.1⟩
def adH (x:O9):Bool:=!decide ((IntKind.i64.wrap ((BitVec.ofInt (IntKind.bits .i64) (x.2.1) &&& BitVec.ofInt (IntKind.bits .i64) (8:Int)).toNat))=(0:Int))
theorem akm {n:Nat} {nm:List Int} {w h:Int} {xs:List O9} (hc:xs.length * 48≤140737488355328) (hn:xs.length<n):IdP.gu n (nm,w,h,xs,())=some ((xs.filter adH).map (·.1),(nm,w,h,xs.filter (fun x=>!adH x),()),()):=
 Va.XE (xs:=xs) (p:=adH) (g:=(·.1)) (d:=Pb) (sc:=8) (sa:=48) (a0:=(nm,w,h,xs,()))
  (fin:=fun a cs ks=>(cs,(a.1,a.2.1,a.2.2.1,ks,a.2.2.2.2),())) (fun _ _=>rfl) (by have:=hc; omega) (by have:=hc; omega) hc hn
theorem adT [Fr] (n:Nat):ak Tryz.prog n aa0:=kH.Qa (e:=5) (m:=162) (i:=2) (FI:=fun n c=>IdP.gu n c.1) (fun fr=>IdP.adT n) (fun nm w h xs hc hn=>akm hc hn)
def eG (n:Nat) (a0:List qL):Option (Int×Unit):=some ((a0.length:Int),())
def af6:Entry:=⟨176,[.val (.sl 162 zh) []],[.val (.int .i64) [] []],fun n c=>eG n c.1⟩
def akc:Hint:=⟨0,[],[],[],[],[],[],[],[]⟩
theorem ak8 [Fr] (n:Nat):ak Tryz.prog n af6:=aj mixed aI Tryz.func176 (by kernel_rfl) (hi:=akc) aA (by intro n c; kernel_rfl)
def kr (n:Nat) (a0:dQ) (a1:qL):Option (Int×dQ×Unit):=((dV n a1.2.2.2.1).bind fun r1=>(if [(a0.2.2.1,a1.2.1,a1.2.2.1,r1.1,())].length=1∧(a0.2.2.2.1.length+1) * 48≤140737488355328 then some (IntKind.i64.wrap ((IntKind.i64.wrap (a0.2.2.1+(1:Int))) - (1:Int)),(a0.1,a0.2.1,IntKind.i64.wrap (a0.2.2.1+(1:Int)),a0.2.2.2.1++[[(a0.2.2.1,a1.2.1,a1.2.2.1,r1.1,())].getD 0 kN],a0.2.2.2.2),()) else none))
def af7:Entry:=⟨163,[.rw nP [5,162] [162,4294967295] [5,162], .val zh [0]],[.val (.int .i64) [] []],fun n c=>kr n c.1 c.2.1⟩
def ake:Hint:=⟨0,[9],[],[],[(61,some 20,aaX)],[],[],[],[23]⟩
theorem ak9 [Fr] (n:Nat):ak Tryz.prog n af7:=aj mixed aI Tryz.func163 (by kernel_rfl) (hi:=ake) (aa (adP n) aA) (by intro n c; kernel_rfl)
namespace wD
def tyI:XY:={ ty:=[(2,(.int .i64)),(3,(.int .i64)),(4, .bool),(5,(.int .u8)),(6,(.int .u8)),(7,Zk4),(8,Zk4),(9, .str),(10, .str),(11, .str),(12,(.int .u64)),(13,Zk0),(14,Zk0),(21,(.int .i32)),(22,(.sl 5 (.int .u8))),(23,(.sl 142 Zk9)),(24,Ti),(25,Ti),(26,Tm),(27,Tm),(28,(.sl 79 xz)),(29,Wh),(30,Wh),(32,(.sl 9 .str)),(33,(.sl 147 Jo)),(34,QI),(35,QI),(36,QJ),(37,QJ),(38,(.sl 74 xz)),(39,Tq),(40,Tq),(41,Wi),(42,Wi),(57,(.sl 2 (.int .i64))),(58,We),(59,We),(73,xz),(74,xz),(79,xz),(85,(.sl 121 jW)),(88,Wd),(89,Wd),(120,jW),(121,jW),(122,KI),(123,KI),(137,(.sl 22 (.sl 5 (.int .u8)))),(140,(.sl 203 Na)),(141,Zk9),(142,Zk9),(145,(.sl 162 Na)),(146,Jo),(147,Jo),(161,Na),(162,Na),(166,V8),(167,V8),(179,V9),(180,V9),(203,Na),(219,(.int .u32)),(220,(.int .u8)),(221,(.int .u8)),(224,(.int .i32)),(225,(.int .i32))],bytes:=[(2,8),(3,8),(4,1),(5,1),(6,1),(7,24),(8,24),(9,16),(10,16),(11,16),(12,8),(13,24),(14,24),(21,4),(22,24),(23,24),(24,32),(25,32),(26,88),(27,88),(28,24),(29,112),(30,112),(32,24),(33,24),(34,32),(35,32),(36,88),(37,88),(38,24),(39,112),(40,112),(41,144),(42,144),(57,24),(58,120),(59,120),(73,56),(74,56),(79,56),(85,24),(88,64),(89,64),(120,112),(121,112),(122,128),(123,128),(137,24),(140,24),(141,56),(142,56),(145,24),(146,56),(147,56),(161,48),(162,48),(166,32),(167,32),(179,40),(180,40),(203,48),(219,4),(220,1),(221,1),(224,4),(225,4)],ptr:=[15,16,17,55,81,83,116,144,151,165,177,182,223],ids:=true }
def T:ji:=tyI.tab
theorem aI:CO Tryz.prog tyI=true:=by kernel_rfl
theorem mixed:Tryz.prog.follows .mixedOrders=true:=by kernel_rfl
def eH (n:Nat) (a0:List Int) (a1:Int):Option (Int×Unit):=(rounds (fun L1 (v1:(List Int)×Int×Int×Int×Unit)=>(if decide (v1.2.2.2.1<v1.2.2.1)=true then (if aH v1.2.2.2.1 v1.1.length then (if decide (v1.2.1=(v1.1.getD v1.2.2.2.1.toNat (0:Int)))=true then some (v1.2.2.2.1,()) else L1 (v1.1,v1.2.1,v1.2.2.1,IntKind.i64.wrap (v1.2.2.2.1+(1:Int)),())) else none) else some ((-1:Int),()))) n (a0,a1,(a0.length:Int),(0:Int),()))
def SQ:Entry:=⟨180,[.val (.sl 2 (.int .i64)) [], .val (.int .i64) []],[.val (.int .i64) [] []],fun n c=>eH n c.1 c.2.1⟩
def Yb:Hint:=⟨0,[],[(0,[0,1,7,8],[])],[],[],[],[],[],[]⟩
theorem adl:DOk T Yb Tryz.f180 SQ:=by intro n c; kernel_rfl
theorem adS [Fr] (n:Nat):ak Tryz.prog n SQ:=aj mixed aI Tryz.func180 (by kernel_rfl) (hi:=Yb) aA adl
def aW (n:Nat) (a0:List Int) (a1:Int):Option (Bool×Unit):=((eH n a0 a1).bind fun r1=>some (decide (r1.1≥(0:Int)),()))
def Qz:Entry:=⟨175,[.val (.sl 2 (.int .i64)) [], .val (.int .i64) []],[.val .bool [] []],fun n c=>aW n c.1 c.2.1⟩
def Yc:Hint:=⟨0,[],[],[],[(180,some 7,SQ)],[],[],[],[]⟩
theorem adm:DOk T Yc Tryz.f175 Qz:=by intro n c; kernel_rfl
theorem aa6 [Fr] (n:Nat):ak Tryz.prog n Qz:=aj mixed aI Tryz.func175 (by kernel_rfl) (hi:=Yc) (aa (adS n) aA) adm
def fB (n:Nat) (a0:O9) (a1:iE):Option (Bool×Unit):=((aW n a1.2.2.2.1 a0.1).bind fun r1=>some (r1.1,()))
def adE:Entry:=⟨178,[.val Na [], .ro jW],[.val .bool [] []],fun n c=>fB n c.1 c.2.1⟩
def akf:Hint:=⟨0,[],[],[],[(175,some 8,Qz)],[],[],[],[]⟩
theorem ag3 [Fr] (n:Nat):ak Tryz.prog n adE:=aj mixed aI Tryz.func178 (by kernel_rfl) (hi:=akf) (aa (aa6 n) aA) (by intro n c; kernel_rfl)
def aZ (n:Nat) (a0:List O9) (Jq:iE):Option (Int×Unit):=(rounds (fun L1 (v1:(List O9)×iE×Int×Int×Unit)=>(if decide (v1.2.2.2.1<v1.2.2.1)=true then (if aH v1.2.2.2.1 v1.1.length then ((fB n (v1.1.getD v1.2.2.2.1.toNat Pb) v1.2.1).bind fun r2=>(if r2.1=true then some (v1.2.2.2.1,()) else L1 (v1.1,v1.2.1,v1.2.2.1,IntKind.i64.wrap (v1.2.2.2.1+(1:Int)),()))) else none) else some ((-1:Int),()))) n (a0,Jq,(a0.length:Int),(0:Int),()))
def af8:Entry:=⟨181,[.val (.sl 162 Na) [], .fn 178 [jW]],[.val (.int .i64) [] []],fun n c=>aZ n c.1 c.2.1⟩
def akg:Hint:=⟨0,[],[(0,[0,1,7,8],[])],[],[(178,some 16,adE)],[],[],[],[]⟩
theorem ala [Fr] (n:Nat):ak Tryz.prog n af8:=aj mixed aI Tryz.func181 (by kernel_rfl) (hi:=akg) (aa (ag3 n) aA) (by intro n c; kernel_rfl)
def aF (n:Nat) (a0:List O9) (Jq:iE):Option (Int×(List O9)×Unit):=((aZ n a0 Jq).bind fun r1=>(if decide (r1.1=(-1:Int))=true then some (((a0.length:Nat):Int),a0,()) else (rounds (fun L2 (v2:iE×Int×Int×(List O9)×Unit)=>(if decide (v2.2.2.1<(v2.2.2.2.1.length:Int))=true then (if aH v2.2.2.1 v2.2.2.2.1.length then ((fB n (v2.2.2.2.1.getD v2.2.2.1.toNat Pb) v2.1).bind fun r3=>(if (!r3.1)=true then (if aH v2.2.1 v2.2.2.2.1.length then L2 (v2.1,IntKind.i64.wrap (v2.2.1+(1:Int)),IntKind.i64.wrap (v2.2.2.1+(1:Int)),v2.2.2.2.1.set v2.2.1.toNat (v2.2.2.2.1.getD v2.2.2.1.toNat Pb),()) else none) else L2 (v2.1,v2.2.1,IntKind.i64.wrap (v2.2.2.1+(1:Int)),v2.2.2.2.1,()))) else none) else (if 0≤v2.2.1∧v2.2.1≤(v2.2.2.2.1.length:Int)∧(v2.2.2.2.1.length:Int)≤(v2.2.2.2.1.length:Int) then (if 0≤(0:Int)∧(0:Int)≤v2.2.1∧v2.2.1≤((v2.2.2.2.1.take v2.2.1.toNat++List.replicate ((v2.2.2.2.1.length:Int).toNat - v2.2.1.toNat) Pb++v2.2.2.2.1.drop ((v2.2.2.2.1.length:Int).toNat)).length:Int) then some (((v2.2.1.toNat:Nat):Int),v2.2.2.2.1.take v2.2.1.toNat++List.replicate ((v2.2.2.2.1.length:Int).toNat - v2.2.1.toNat) Pb++v2.2.2.2.1.drop ((v2.2.2.2.1.length:Int).toNat),()) else none) else none))) n (Jq,r1.1,IntKind.i64.wrap (r1.1+(1:Int)),a0,()))))
def aa1:Entry:=⟨177,[.jl (.sl 162 Na) [5,162] [162], .fn 178 [jW]],[.into 0 []],fun n c=>aF n c.1 c.2.1⟩
def akh:Hint:=⟨0,[],[(0,[0,1,5,6],[0])],[],[(181,some 10,af8),(178,some 28,adE)],[],[],[38,41],[]⟩
theorem adU [Fr] (n:Nat):ak Tryz.prog n aa1:=aj mixed aI Tryz.func177 (by kernel_rfl) (hi:=akh) (aa (ala n) (aa (ag3 n) aA)) (by intro n c; kernel_rfl)
end wD
def ac8:List cZ:=[.jl (.sl 162 zh) [5,162] [162], .fn 178 [jW]]
def aiw:List jy:=[.into 0 []]
def aF (n:Nat) (a0:List qL) (Jq:iE):Option (Int×List qL×Unit):=mU.Gt n a0 Jq
def aa1:Entry:=⟨177,ac8,aiw,fun n (c:Cont (kin ac8))=>aF n c.1 c.2.1⟩
theorem akn {n:Nat} {xs:List mU.aa7} {op:mU.OpC} (hx:xs.length≤140737488355328) (hn:xs.length<n) (hb:op.2.2.2.1.length≤140737488355328) (hu:op.2.2.2.1.length<n):wD.aF n xs op=some (mU.IP (0,0,0,0,()) (fun x=>op.2.2.2.1.contains x.1) xs):=by
 have hc:∀x,wD.fB n x op=some (op.2.2.2.1.contains x.1,()):=fun x=>by
  have h:wD.aW n op.2.2.2.1 x.1=some (op.2.2.2.1.contains x.1,()):=mU.Pz (fun _ _=>rfl) hb hu
  show (wD.aW n op.2.2.2.1 x.1).bind _=_
  rw [h]; rfl
 have hi:wD.aZ n xs op=some (_,()):=mU.LP (p:=fun x=>op.2.2.2.1.contains x.1) (q:=fun c x=>wD.fB n x c) (d:=(0,0,0,0,())) (fun _ _=>rfl) hc hx hn
 show (wD.aZ n xs op).bind _=_
 rw [hi]
 exact mU.Wz (p:=fun x=>op.2.2.2.1.contains x.1) (q:=fun c x=>wD.fB n x c) (d:=(0,0,0,0,())) (fun _ _=>rfl) hc hx hn
theorem adU [Fr] (n:Nat):ak Tryz.prog n aa1:=mU.Ng (e:=5) (t:=162) (i:=2) (b:=5) (cl:=178) (ow:=[5,162]) (wt:=[162]) (sK:=[162]) (FI:=wD.aF) (by simp [K.tys,aL]) (by simp [K.tys,aL]) (by simp [K.tys,aL]) (fun fr=>wD.adU n) (by simp [nJ,aL]) (fun xs op h1 h2 h3 h4=>akn h1 h2 h3 h4)
def kT (n:Nat) (a0:fO) (a1:Int) (a2:iE):Option ((List Int)×Int×fO×Unit):=((jq n a0 a2.2.2.1).bind fun r1=>(if decide (r1.1<(0:Int))=true then some (([]:List Int),(4:Int),a0,()) else (if decide (a2.1=(6:Int))=true then (if decide (r1.1=a1)=true then some (([]:List Int),(9:Int),a0,()) else (if aH a1 a0.2.1.length then (rounds (fun L2 (v2:Int×Int×(List qL)×Int×Int×fO×iE×(List qL)×Unit)=>(if decide (v2.2.2.2.2.1<v2.2.2.2.1)=true then (if aH v2.2.2.2.2.1 v2.2.2.1.length then ((aW n v2.2.2.2.2.2.2.1.2.2.2.1 ((v2.2.2.1.getD v2.2.2.2.2.1.toNat kN).1)).bind fun r3=>(if r3.1=true then (if (v2.2.2.2.2.2.2.2.1.length+[v2.2.2.1.getD v2.2.2.2.2.1.toNat kN].length) * 48≤140737488355328 then L2 (v2.1,v2.2.1,v2.2.2.1,v2.2.2.2.1,IntKind.i64.wrap (v2.2.2.2.2.1+(1:Int)),v2.2.2.2.2.2.1,v2.2.2.2.2.2.2.1,v2.2.2.2.2.2.2.2.1++[v2.2.2.1.getD v2.2.2.2.2.1.toNat kN],()) else none) else L2 (v2.1,v2.2.1,v2.2.2.1,v2.2.2.2.1,IntKind.i64.wrap (v2.2.2.2.2.1+(1:Int)),v2.2.2.2.2.2.1,v2.2.2.2.2.2.2.1,v2.2.2.2.2.2.2.2.1,()))) else none) else (if aH v2.2.1 v2.2.2.2.2.2.1.2.1.length then (if decide ((IntKind.i64.wrap (((((((v2.2.2.2.2.2.1.2.1.getD v2.2.1.toNat dG).2).2).2).1).length:Int)+(v2.2.2.2.2.2.2.2.1.length:Int)))>(6:Int))=true then some (([]:List Int),(10:Int),v2.2.2.2.2.2.1,()) else ((eG n v2.2.2.2.2.2.2.2.1).bind fun r4=>(if decide ((IntKind.i64.wrap (((((v2.2.2.2.2.2.1.2.1.getD v2.2.1.toNat dG).2).2).1)+r4.1))>(1000:Int))=true then some (([]:List Int),(10:Int),v2.2.2.2.2.2.1,()) else (rounds (fun L5 (v5:Int×Int×Int×Int×fO×iE×(List qL)×(List Int)×Unit)=>(if decide (v5.2.2.2.1<v5.2.2.1)=true then (if aH v5.2.2.2.1 v5.2.2.2.2.2.2.1.length then ((kr n (v5.2.2.2.2.1.2.1.getD v5.2.1.toNat dG) (v5.2.2.2.2.2.2.1.getD v5.2.2.2.1.toNat kN)).bind fun r6=>(if (v5.2.2.2.2.2.2.2.1.length+[r6.1].length) * 8≤140737488355328 then L5 (v5.1,v5.2.1,v5.2.2.1,IntKind.i64.wrap (v5.2.2.2.1+(1:Int)),(v5.2.2.2.2.1.1,v5.2.2.2.2.1.2.1.set v5.2.1.toNat r6.2.1,v5.2.2.2.2.1.2.2),v5.2.2.2.2.2.1,v5.2.2.2.2.2.2.1,v5.2.2.2.2.2.2.2.1++[r6.1],()) else none)) else none) else (if decide (v5.2.2.2.2.2.1.1=(6:Int))=true then (if aH v5.1 v5.2.2.2.2.1.2.1.length then ((aF n (((((v5.2.2.2.2.1.2.1.getD v5.1.toNat dG).2).2).2).1) v5.2.2.2.2.2.1).bind fun r7=>(if ([v5.1]:List Int)=([v5.1]:List Int) then some (v5.2.2.2.2.2.2.2.1,(0:Int),(v5.2.2.2.2.1.1,(fH (fH v5.2.2.2.2.1.2.1 v5.1.toNat dG fun z1=>(z1.1,z1.2.1,z1.2.2.1,r7.2.1,z1.2.2.2.2)) v5.1.toNat dG fun z1=>(z1.1,z1.2.1,z1.2.2.1,((((((fH v5.2.2.2.2.1.2.1 v5.1.toNat dG fun z1=>(z1.1,z1.2.1,z1.2.2.1,r7.2.1,z1.2.2.2.2)).getD v5.1.toNat dG).2).2).2).1).take r7.1.toNat,z1.2.2.2.2)),v5.2.2.2.2.1.2.2),()) else none)) else none) else some (v5.2.2.2.2.2.2.2.1,(0:Int),v5.2.2.2.2.1,())))) n (v2.1,v2.2.1,(v2.2.2.2.2.2.2.2.1.length:Int),(0:Int),v2.2.2.2.2.2.1,v2.2.2.2.2.2.2.1,v2.2.2.2.2.2.2.2.1,([]:List Int),()))))) else none))) n (a1,r1.1,((((a0.2.1.getD a1.toNat dG).2).2).2).1,((((((a0.2.1.getD a1.toNat dG).2).2).2).1).length:Int),(0:Int),a0,a2,([]:List qL),())) else none)) else (if aH a1 a0.2.1.length then (rounds (fun L8 (v8:Int×Int×(List qL)×Int×Int×fO×iE×(List qL)×Unit)=>(if decide (v8.2.2.2.2.1<v8.2.2.2.1)=true then (if aH v8.2.2.2.2.1 v8.2.2.1.length then ((aW n v8.2.2.2.2.2.2.1.2.2.2.1 ((v8.2.2.1.getD v8.2.2.2.2.1.toNat kN).1)).bind fun r9=>(if r9.1=true then (if (v8.2.2.2.2.2.2.2.1.length+[v8.2.2.1.getD v8.2.2.2.2.1.toNat kN].length) * 48≤140737488355328 then L8 (v8.1,v8.2.1,v8.2.2.1,v8.2.2.2.1,IntKind.i64.wrap (v8.2.2.2.2.1+(1:Int)),v8.2.2.2.2.2.1,v8.2.2.2.2.2.2.1,v8.2.2.2.2.2.2.2.1++[v8.2.2.1.getD v8.2.2.2.2.1.toNat kN],()) else none) else L8 (v8.1,v8.2.1,v8.2.2.1,v8.2.2.2.1,IntKind.i64.wrap (v8.2.2.2.2.1+(1:Int)),v8.2.2.2.2.2.1,v8.2.2.2.2.2.2.1,v8.2.2.2.2.2.2.2.1,()))) else none) else (if aH v8.2.1 v8.2.2.2.2.2.1.2.1.length then (if decide ((IntKind.i64.wrap (((((((v8.2.2.2.2.2.1.2.1.getD v8.2.1.toNat dG).2).2).2).1).length:Int)+(v8.2.2.2.2.2.2.2.1.length:Int)))>(6:Int))=true then some (([]:List Int),(10:Int),v8.2.2.2.2.2.1,()) else ((eG n v8.2.2.2.2.2.2.2.1).bind fun Qb=>(if decide ((IntKind.i64.wrap (((((v8.2.2.2.2.2.1.2.1.getD v8.2.1.toNat dG).2).2).1)+Qb.1))>(1000:Int))=true then some (([]:List Int),(10:Int),v8.2.2.2.2.2.1,()) else (rounds (fun L11 (v11:Int×Int×Int×Int×fO×iE×(List qL)×(List Int)×Unit)=>(if decide (v11.2.2.2.1<v11.2.2.1)=true then (if aH v11.2.2.2.1 v11.2.2.2.2.2.2.1.length then ((kr n (v11.2.2.2.2.1.2.1.getD v11.2.1.toNat dG) (v11.2.2.2.2.2.2.1.getD v11.2.2.2.1.toNat kN)).bind fun Ms=>(if (v11.2.2.2.2.2.2.2.1.length+[Ms.1].length) * 8≤140737488355328 then L11 (v11.1,v11.2.1,v11.2.2.1,IntKind.i64.wrap (v11.2.2.2.1+(1:Int)),(v11.2.2.2.2.1.1,v11.2.2.2.2.1.2.1.set v11.2.1.toNat Ms.2.1,v11.2.2.2.2.1.2.2),v11.2.2.2.2.2.1,v11.2.2.2.2.2.2.1,v11.2.2.2.2.2.2.2.1++[Ms.1],()) else none)) else none) else (if decide (v11.2.2.2.2.2.1.1=(6:Int))=true then (if aH v11.1 v11.2.2.2.2.1.2.1.length then ((aF n (((((v11.2.2.2.2.1.2.1.getD v11.1.toNat dG).2).2).2).1) v11.2.2.2.2.2.1).bind fun Qt=>(if ([v11.1]:List Int)=([v11.1]:List Int) then some (v11.2.2.2.2.2.2.2.1,(0:Int),(v11.2.2.2.2.1.1,(fH (fH v11.2.2.2.2.1.2.1 v11.1.toNat dG fun z1=>(z1.1,z1.2.1,z1.2.2.1,Qt.2.1,z1.2.2.2.2)) v11.1.toNat dG fun z1=>(z1.1,z1.2.1,z1.2.2.1,((((((fH v11.2.2.2.2.1.2.1 v11.1.toNat dG fun z1=>(z1.1,z1.2.1,z1.2.2.1,Qt.2.1,z1.2.2.2.2)).getD v11.1.toNat dG).2).2).2).1).take Qt.1.toNat,z1.2.2.2.2)),v11.2.2.2.2.1.2.2),()) else none)) else none) else some (v11.2.2.2.2.2.2.2.1,(0:Int),v11.2.2.2.2.1,())))) n (v8.1,v8.2.1,(v8.2.2.2.2.2.2.2.1.length:Int),(0:Int),v8.2.2.2.2.2.1,v8.2.2.2.2.2.2.1,v8.2.2.2.2.2.2.2.1,([]:List Int),()))))) else none))) n (a1,r1.1,((((a0.2.1.getD a1.toNat dG).2).2).2).1,((((((a0.2.1.getD a1.toNat dG).2).2).2).1).length:Int),(0:Int),a0,a2,([]:List qL),())) else none))))
def af9:Entry:=⟨166,[.rw ql [5,147,162] [5,147,162,4294967295] [5,162], .val (.int .i64) [], .val jW []],[.own (.sl 2 (.int .i64)) [2] [] [], .val (.int .i64) [] []],fun n c=>kT n c.1 c.2.1 c.2.2.1⟩
def aki:Hint:=⟨0,[62,104,111],[(1,[0,1,5,8,9,43,44,45],[0,162,1122]),(3,[0,1,5,12,13,85,86,87],[0,162,1122,2690])],[(35,[5])],[(161,some 22,aaY),(175,some 53,Qz),(176,some 80,af6),(163,some 94,af7),(177,some 113,aa1)],[],[(2245,[0])],[],[]⟩
theorem alb [Fr] (n:Nat):ak Tryz.prog n af9:=aj mixed aI Tryz.func166 (by kernel_rfl) (hi:=aki) (aa (adQ n) (aa (aa6 n) (aa (ak8 n) (aa (ak9 n) (aa (adU n) aA))))) (by intro n c; kernel_rfl)
def ng (n:Nat) (a0:fO) (a1:iE):Option ((List Int)×Int×fO×Unit):=(if decide (a1.1=(1:Int))=true then ((oh n a0 a1.2.1).bind fun r1=>some (([]:List Int),r1.1,r1.2.1,())) else ((jq n a0 a1.2.1).bind fun r2=>(if decide (r2.1<(0:Int))=true then some (([]:List Int),(4:Int),a0,()) else (if aH r2.1 a0.2.1.length then (if decide (a1.1=(2:Int))=true then ((bQ n a0.2.1 r2.1 (IntKind.i64.wrap (r2.1+(1:Int)))).bind fun r3=>(if ([]:List Int)=([]:List Int) then some (([]:List Int),(0:Int),(a0.1,r3.2.1.take r3.1.toNat,a0.2.2),()) else none)) else (if decide (a1.1=(3:Int))=true then (if decide (((((((a0.2.1.getD r2.1.toNat dG).2).2).2).1).length:Int)=(6:Int))=true then some (([]:List Int),(10:Int),a0,()) else (if decide (((((a0.2.1.getD r2.1.toNat dG).2).2).1)=(1000:Int))=true then some (([]:List Int),(10:Int),a0,()) else ((rz n (a0.2.1.getD r2.1.toNat dG) ((0:Int),a1.2.2.2.2.2.1,a1.2.2.2.2.2.2.1,a1.2.2.2.2.2.2.2.1,())).bind fun r4=>some ([r4.1],(0:Int),(a0.1,a0.2.1.set r2.1.toNat r4.2.1,a0.2.2),())))) else (if decide (a1.1=(4:Int))=true then ((mZ n (a0.2.1.getD r2.1.toNat dG) a1).bind fun r5=>some (r5.1,(0:Int),(a0.1,a0.2.1.set r2.1.toNat r5.2.1,a0.2.2),())) else (if decide (a1.1=(7:Int))=true then ((gu n (a0.2.1.getD r2.1.toNat dG)).bind fun r6=>some (r6.1,(0:Int),(a0.1,a0.2.1.set r2.1.toNat r6.2.1,a0.2.2),())) else ((kT n a0 r2.1 a1).bind fun r7=>some (r7.1,r7.2.1,r7.2.2.1,())))))) else none))))
def aga:Entry:=⟨129,[.rw ql [5,147,162] [5,147,162,4294967295] [5,147,162,4294967294], .val jW []],[.own (.sl 2 (.int .i64)) [2] [] [], .val (.int .i64) [] []],fun n c=>ng n c.1 c.2.1⟩
def akj:Hint:=⟨0,[26,37],[],[],[(160,some 14,af3),(161,some 20,aaY),(162,some 41,aaZ),(163,some 67,af4),(164,some 73,af5),(165,some 77,aa0),(166,some 81,af9)],[],[],[],[]⟩
theorem alc [Fr] (n:Nat):ak Tryz.prog n aga:=aj mixed aI Tryz.func129 (by kernel_rfl) (hi:=akj) (aa (ak4 n) (aa (adQ n) (aa (adR n) (aa (ak5 n) (aa (ak6 n) (aa (adT n) (aa (alb n) aA))))))) (by intro n c; kernel_rfl)
def rA (n:Nat) (a0:fO) (a1:iE):Option (Hr×Unit):=((oO n a1).bind fun r1=>(if (!decide (r1.1=(0:Int)))=true then some ((r1.1,([]:List Int),Nb,()),()) else ((lF n a0).bind fun r2=>((ng n r2.1 a1).bind fun r3=>(if (!decide (r3.2.1=(0:Int)))=true then some ((r3.2.1,([]:List Int),Nb,()),()) else some (((0:Int),r3.1,r3.2.2.1,()),()))))))
def agb:Entry:=⟨99,[.val ql [], .val jW []],[.own O6 [2,5,147,162] [] []],fun n c=>rA n c.1 c.2.1⟩
def akk:Hint:=⟨0,[27],[],[],[(126,some 10,adB),(98,some 16,adD),(129,some 19,aga)],[],[],[],[]⟩
theorem ald [Fr] (n:Nat):ak Tryz.prog n agb:=aj mixed aI Tryz.func99 (by kernel_rfl) (hi:=akk) (aa (ag0 n) (aa (ag2 n) (aa (alc n) aA))) (by intro n c; kernel_rfl)
def nK (n:Nat) (a0:fO) (a1:List iE):Option (Hr×Unit):=(if decide ((a1.length:Int)>(60:Int))=true then some (((2:Int),([]:List Int),Nb,()),()) else ((iH n a0).bind fun r1=>(if (!decide (r1.1=(0:Int)))=true then some ((r1.1,([]:List Int),Nb,()),()) else ((lF n a0).bind fun r2=>(rounds (fun L3 (v3:(List iE)×Int×Int×Hr×fO×Unit)=>(if decide (v3.2.2.1<v3.2.1)=true then (if aH v3.2.2.1 v3.1.length then ((rA n v3.2.2.2.2.1 (v3.1.getD v3.2.2.1.toNat Fq)).bind fun r4=>(if (!decide (r4.1.1=(0:Int)))=true then some ((r4.1.1,([]:List Int),Nb,()),()) else L3 (v3.1,v3.2.1,IntKind.i64.wrap (v3.2.2.1+(1:Int)),v3.2.2.2.1,r4.1.2.2.1,()))) else none) else some (((0:Int),([]:List Int),v3.2.2.2.2.1,()),()))) n (a1,(a1.length:Int),(0:Int),adZ,r2.1,()))))))
def acg:Entry:=⟨59,[.val ql [], .val (.sl 121 jW) []],[.own O6 [2,5,147,162] [] []],fun n c=>nK n c.1 c.2.1⟩
def agd:Hint:=⟨0,[38,40],[(0,[4,6,22,23,24],[130,194])],[],[(92,some 15,adz),(98,some 21,adD),(99,some 30,agb)],[],[],[],[]⟩
theorem agx [Fr] (n:Nat):ak Tryz.prog n acg:=aj mixed aI Tryz.func59 (by kernel_rfl) (hi:=agd) (aa (agY n) (aa (ag2 n) (aa (ald n) aA))) (by intro n c; kernel_rfl)
def iw (n:Nat) (a0:List Int) (a1:List Int):Option (Bool×Unit):=(if (!decide ((a0.length:Int)=(a1.length:Int)))=true then some (false,()) else (rounds (fun L1 (v1:(List Int)×(List Int)×Int×Int×Unit)=>(if decide (v1.2.2.2.1<v1.2.2.1)=true then (if aH v1.2.2.2.1 v1.1.length then (if aH v1.2.2.2.1 v1.2.1.length then (if (!decide ((v1.1.getD v1.2.2.2.1.toNat (0:Int))=(v1.2.1.getD v1.2.2.2.1.toNat (0:Int))))=true then some (false,()) else L1 (v1.1,v1.2.1,v1.2.2.1,IntKind.i64.wrap (v1.2.2.2.1+(1:Int)),())) else none) else none) else some (true,()))) n (a0,a1,(a0.length:Int),(0:Int),())))
def ach:Entry:=⟨153,[.val (.sl 5 (.int .u8)) [], .val (.sl 5 (.int .u8)) []],[.val .bool [] []],fun n c=>iw n c.1 c.2.1⟩
def age:Hint:=⟨0,[],[(0,[0,1,12,13],[])],[],[],[],[],[],[]⟩
theorem agy [Fr] (n:Nat):ak Tryz.prog n ach:=aj mixed aI Tryz.func153 (by kernel_rfl) (hi:=age) aA (by intro n c; kernel_rfl)
def kU (n:Nat) (a0:qL) (a1:qL):Option (Bool×Unit):=(if decide (a0.1=a1.1)=true then (if decide (a0.2.1=a1.2.1)=true then (if decide (a0.2.2.1=a1.2.2.1)=true then ((iw n a0.2.2.2.1 a1.2.2.2.1).bind fun r1=>some (r1.1,())) else some (false,())) else some (false,())) else some (false,()))
def aci:Entry:=⟨122,[.val zh [], .val zh []],[.val .bool [] []],fun n c=>kU n c.1 c.2.1⟩
def agf:Hint:=⟨0,[],[],[],[(153,some 29,ach)],[],[],[],[]⟩
theorem agz [Fr] (n:Nat):ak Tryz.prog n aci:=aj mixed aI Tryz.func122 (by kernel_rfl) (hi:=agf) (aa (agy n) aA) (by intro n c; kernel_rfl)
def aO (n:Nat) (a0:List qL) (a1:List qL):Option (Bool×Unit):=(if (!decide ((a0.length:Int)=(a1.length:Int)))=true then some (false,()) else (rounds (fun L1 (v1:(List qL)×(List qL)×Int×Int×Unit)=>(if decide (v1.2.2.2.1<v1.2.2.1)=true then (if aH v1.2.2.2.1 v1.2.1.length then (if aH v1.2.2.2.1 v1.1.length then ((kU n (v1.2.1.getD v1.2.2.2.1.toNat kN) (v1.1.getD v1.2.2.2.1.toNat kN)).bind fun r2=>(if (!r2.1)=true then some (false,()) else L1 (v1.1,v1.2.1,v1.2.2.1,IntKind.i64.wrap (v1.2.2.2.1+(1:Int)),()))) else none) else none) else some (true,()))) n (a1,a0,(a0.length:Int),(0:Int),())))
def acj:Entry:=⟨121,[.val (.sl 162 zh) [], .val (.sl 162 zh) [], .fn 122 []],[.val .bool [] []],fun n c=>aO n c.1 c.2.1⟩
def agh:Hint:=⟨0,[],[(0,[1,2,15,16,17],[])],[],[(122,some 29,aci)],[],[],[],[]⟩
theorem agA [Fr] (n:Nat):ak Tryz.prog n acj:=aj mixed aI Tryz.func121 (by kernel_rfl) (hi:=agh) (aa (agz n) aA) (by intro n c; kernel_rfl)
def kQ (n:Nat) (a0:dQ) (a1:dQ):Option (Bool×Unit):=(if decide (a0.1=a1.1)=true then (if decide (a0.2.1=a1.2.1)=true then (if decide (a0.2.2.1=a1.2.2.1)=true then ((aO n a0.2.2.2.1 a1.2.2.2.1).bind fun r1=>some (r1.1,())) else some (false,())) else some (false,())) else some (false,()))
def ack:Entry:=⟨120,[.val nP [], .val nP []],[.val .bool [] []],fun n c=>kQ n c.1 c.2.1⟩
def agi:Hint:=⟨0,[],[],[],[(121,some 29,acj)],[],[],[],[]⟩
theorem agB [Fr] (n:Nat):ak Tryz.prog n ack:=aj mixed aI Tryz.func120 (by kernel_rfl) (hi:=agi) (aa (agA n) aA) (by intro n c; kernel_rfl)
def bu (n:Nat) (a0:List dQ) (a1:List dQ):Option (Bool×Unit):=(if (!decide ((a0.length:Int)=(a1.length:Int)))=true then some (false,()) else (rounds (fun L1 (v1:(List dQ)×(List dQ)×Int×Int×Unit)=>(if decide (v1.2.2.2.1<v1.2.2.1)=true then (if aH v1.2.2.2.1 v1.2.1.length then (if aH v1.2.2.2.1 v1.1.length then ((kQ n (v1.2.1.getD v1.2.2.2.1.toNat dG) (v1.1.getD v1.2.2.2.1.toNat dG)).bind fun r2=>(if (!r2.1)=true then some (false,()) else L1 (v1.1,v1.2.1,v1.2.2.1,IntKind.i64.wrap (v1.2.2.2.1+(1:Int)),()))) else none) else none) else some (true,()))) n (a1,a0,(a0.length:Int),(0:Int),())))
def acm:Entry:=⟨119,[.val (.sl 147 nP) [], .val (.sl 147 nP) [], .fn 120 []],[.val .bool [] []],fun n c=>bu n c.1 c.2.1⟩
def agj:Hint:=⟨0,[],[(0,[1,2,15,16,17],[])],[],[(120,some 29,ack)],[],[],[],[]⟩
theorem agD [Fr] (n:Nat):ak Tryz.prog n acm:=aj mixed aI Tryz.func119 (by kernel_rfl) (hi:=agj) (aa (agB n) aA) (by intro n c; kernel_rfl)
def kD (n:Nat) (a0:fO) (a1:fO):Option (Bool×Unit):=(if decide (a0.1=a1.1)=true then ((bu n a0.2.1 a1.2.1).bind fun r1=>some (r1.1,())) else some (false,()))
def acn:Entry:=⟨94,[.val ql [], .val ql []],[.val .bool [] []],fun n c=>kD n c.1 c.2.1⟩
def agk:Hint:=⟨0,[],[],[],[(119,some 15,acm)],[],[],[],[]⟩
theorem agE [Fr] (n:Nat):ak Tryz.prog n acn:=aj mixed aI Tryz.func94 (by kernel_rfl) (hi:=agk) (aa (agD n) aA) (by intro n c; kernel_rfl)
def iI (n:Nat) (a0:Ae):Option (Int×Unit):=(if decide ((IntKind.i64.wrap ((a0.2.1.length:Int)+(a0.2.2.1.length:Int)))>(8000:Int))=true then some ((2:Int),()) else (if (!a0.1)=true then (if decide ((a0.2.2.1.length:Int)>(0:Int))=true then some ((1:Int),()) else (if (!decide (a0.2.2.2.1.1=(0:Int)))=true then some ((1:Int),()) else (if decide ((a0.2.2.2.1.2.1.length:Int)>(0:Int))=true then some ((1:Int),()) else (if (!a0.1)=true then some ((0:Int),()) else ((iH n a0.2.2.2.1).bind fun r1=>(if (!decide (r1.1=(0:Int)))=true then some (r1.1,()) else ((lG n a0).bind fun r2=>(if (!r2.2.1)=true then some ((5:Int),()) else ((vH n).bind fun r3=>((nK n r3.1 r2.1).bind fun r4=>(if (!decide (r4.1.1=(0:Int)))=true then some ((9:Int),()) else ((kD n r4.1.2.2.1 a0.2.2.2.1).bind fun r5=>(if (!r5.1)=true then some ((9:Int),()) else some ((0:Int),())))))))))))))) else (if (!a0.1)=true then some ((0:Int),()) else ((iH n a0.2.2.2.1).bind fun r6=>(if (!decide (r6.1=(0:Int)))=true then some (r6.1,()) else ((lG n a0).bind fun r7=>(if (!r7.2.1)=true then some ((5:Int),()) else ((vH n).bind fun r8=>((nK n r8.1 r7.1).bind fun r9=>(if (!decide (r9.1.1=(0:Int)))=true then some ((9:Int),()) else ((kD n r9.1.2.2.1 a0.2.2.2.1).bind fun Qb=>(if (!Qb.1)=true then some ((9:Int),()) else some ((0:Int),())))))))))))))
def X3:Entry:=⟨52,[.val BQ []],[.val (.int .i64) [] []],fun n c=>iI n c.1⟩
def agl:Hint:=⟨0,[],[],[],[(92,some 45,adz),(93,some 51,afZ),(60,some 56,af0),(59,some 58,acg),(94,some 67,acn)],[],[],[],[]⟩
theorem acz [Fr] (n:Nat):ak Tryz.prog n X3:=aj mixed aI Tryz.func52 (by kernel_rfl) (hi:=agl) (aa (agY n) (aa (ak0 n) (aa (ak1 n) (aa (agx n) (aa (agE n) aA))))) (by intro n c; kernel_rfl)
def gz (n:Nat) (a0:List EH):Option (Int×Unit):=some ((a0.length:Int),())
def aco:Entry:=⟨54,[.val (.sl 74 xz) []],[.val (.int .i64) [] []],fun n c=>gz n c.1⟩
def agm:Hint:=⟨0,[],[],[],[],[],[],[],[]⟩
theorem agF [Fr] (n:Nat):ak Tryz.prog n aco:=aj mixed aI Tryz.func54 (by kernel_rfl) (hi:=agm) aA (by intro n c; kernel_rfl)
def qj (n:Nat) (a0:Int):Option (Bool×Unit):=((dz n a0 (1:Int) (3:Int)).bind fun r1=>some (r1.1,()))
def acp:Entry:=⟨55,[.val (.int .i64) []],[.val .bool [] []],fun n c=>qj n c.1⟩
def agn:Hint:=⟨0,[],[],[],[(53,some 4,Gs)],[],[],[],[]⟩
theorem agG [Fr] (n:Nat):ak Tryz.prog n acp:=aj mixed aI Tryz.func55 (by kernel_rfl) (hi:=agn) (aa (Jh n) aA) (by intro n c; kernel_rfl)
def gy (n:Nat) (a0:Bw):Option (Int×Unit):=((iI n a0.1).bind fun r1=>(if (!decide (r1.1=(0:Int)))=true then some (r1.1,()) else ((gz n a0.2.1).bind fun r2=>((dz n r2.1 (1:Int) (3:Int)).bind fun r3=>(if (!r3.1)=true then some ((2:Int),()) else (rounds (fun L4 (v4:(List EH)×Int×Int×Unit)=>(if decide (v4.2.2.1<v4.2.1)=true then (if aH v4.2.2.1 v4.1.length then ((qj n (((((v4.1.getD v4.2.2.1.toNat BD).2).2).2).1)).bind fun r5=>(if (!r5.1)=true then some ((3:Int),()) else ((dz n (((v4.1.getD v4.2.2.1.toNat BD).2).1) (0:Int) (999:Int)).bind fun r6=>(if (!r6.1)=true then some ((3:Int),()) else (if decide ((((((v4.1.getD v4.2.2.1.toNat BD).2).2).1).length:Int)>(6:Int))=true then some ((3:Int),()) else ((lH n ((((v4.1.getD v4.2.2.1.toNat BD).2).2).1)).bind fun r7=>(if (!r7.1)=true then some ((3:Int),()) else (if decide (((v4.1.getD v4.2.2.1.toNat BD).1)=([]:List Int))=true then (if (!decide ((((v4.1.getD v4.2.2.1.toNat BD).2).1)=(0:Int)))=true then some ((1:Int),()) else (if decide ((((((v4.1.getD v4.2.2.1.toNat BD).2).2).1).length:Int)>(0:Int))=true then some ((1:Int),()) else (if (!decide (((v4.1.getD v4.2.2.1.toNat BD).1)=([]:List Int)))=true then ((jg n ((v4.1.getD v4.2.2.1.toNat BD).1)).bind fun r8=>(if (!r8.1)=true then some ((1:Int),()) else (if decide ((((v4.1.getD v4.2.2.1.toNat BD).2).1)=(0:Int))=true then some ((1:Int),()) else L4 (v4.1,v4.2.1,IntKind.i64.wrap (v4.2.2.1+(1:Int)),())))) else L4 (v4.1,v4.2.1,IntKind.i64.wrap (v4.2.2.1+(1:Int)),())))) else (if (!decide (((v4.1.getD v4.2.2.1.toNat BD).1)=([]:List Int)))=true then ((jg n ((v4.1.getD v4.2.2.1.toNat BD).1)).bind fun r9=>(if (!r9.1)=true then some ((1:Int),()) else (if decide ((((v4.1.getD v4.2.2.1.toNat BD).2).1)=(0:Int))=true then some ((1:Int),()) else L4 (v4.1,v4.2.1,IntKind.i64.wrap (v4.2.2.1+(1:Int)),())))) else L4 (v4.1,v4.2.1,IntKind.i64.wrap (v4.2.2.1+(1:Int)),())))))))))) else none) else some ((0:Int),()))) n (a0.2.1,(a0.2.1.length:Int),(0:Int),())))))))
def acr:Entry:=⟨24,[.val Jp []],[.val (.int .i64) [] []],fun n c=>gy n c.1⟩
def agp:Hint:=⟨0,[],[(0,[18,19,20],[])],[],[(52,some 8,X3),(54,some 14,aco),(53,some 15,Gs),(55,some 27,acp),(53,some 32,Gs),(56,some 44,adA),(57,some 69,X6)],[],[],[],[]⟩
theorem agI [Fr] (n:Nat):ak Tryz.prog n acr:=aj mixed aI Tryz.func24 (by kernel_rfl) (hi:=agp) (aa (acz n) (aa (agF n) (aa (Jh n) (aa (agG n) (aa (Jh n) (aa (agZ n) (aa (aa4 n) aA))))))) (by intro n c; kernel_rfl)
def ug (n:Nat) (a0:Ae):Option (Int×Unit):=((iI n a0).bind fun r1=>(if (!decide (r1.1=(0:Int)))=true then some (r1.1,()) else (if (!a0.1)=true then some ((9:Int),()) else some ((0:Int),()))))
def acs:Entry:=⟨75,[.val BQ []],[.val (.int .i64) [] []],fun n c=>ug n c.1⟩
def agq:Hint:=⟨0,[],[],[],[(52,some 5,X3)],[],[],[],[]⟩
theorem agJ [Fr] (n:Nat):ak Tryz.prog n acs:=aj mixed aI Tryz.func75 (by kernel_rfl) (hi:=agq) (aa (acz n) aA) (by intro n c; kernel_rfl)
def WV:Go.Shelf.Ren:=⟨fun | 4=>106 | n=>n,fun | 22=>22 | 25=>5 | 3=>3 | 4=>4 | 9=>9 | 20=>20 | 0=>0 | n=>n,fun | n=>n⟩
theorem ahn:Go.Proofs.Lays8.n4 Tryz.prog WV:={
 mixed:=by kernel_rfl
 f4:=⟨Tryz.f106.name,by decide,Tryz.func106.trans (congrArg some (by kernel_rfl))⟩
 t0:=Tryz.underlying0
 a0:=Tryz.isAgg0
 z0:=Tryz.sizeOf0
 v0:=Tryz.zeroValue0
 t3:=Tryz.underlying3
 a3:=Tryz.isAgg3
 z3:=Tryz.sizeOf3
 v3:=Tryz.zeroValue3
 t4:=Tryz.underlying4
 a4:=Tryz.isAgg4
 z4:=Tryz.sizeOf4
 v4:=Tryz.zeroValue4
 t9:=Tryz.underlying9
 a9:=Tryz.isAgg9
 z9:=Tryz.sizeOf9
 v9:=Tryz.zeroValue9
 t20:=Tryz.underlying20
 a20:=Tryz.isAgg20
 z20:=Tryz.sizeOf20
 v20:=Tryz.zeroValue20
 t22:=Tryz.underlying22
 a22:=Tryz.isAgg22
 z22:=Tryz.sizeOf22
 v22:=Tryz.zeroValue22 }
def rQ (n:Nat) (a0:Int):Option (List Int×Unit):=if 0≤a0∧a0≤1073741824 then some ([],()) else none
def aaj:List cZ:=[.into 0 [], .val (.int .i64) []]
def ae3:List jy:=[.own (.sl 5 (.int .u8)) [5] [] []]
def acu:Entry:=⟨106,aaj,ae3,fun n (c:Cont (kin aaj))=>rQ n c.1⟩
theorem agK [Fr] (n:Nat):ak Tryz.prog n acu:=U6.Ui (t:=22) (T:=T) ahn rfl rfl ((UR aI).ty 22 _ (by kernel_rfl)) (by kernel_rfl) (Go.MuLone.run_callFunc_enter Tryz.func106 (by kernel_rfl) rfl)
def gQ (n:Nat) (a0:List (List Int)):Option ((List Int)×Unit):=(rounds (fun L1 (v1:(List (List Int))×Int×(List (List Int))×Int×Int×Unit)=>(if decide (v1.2.2.2.2.1<v1.2.2.2.1)=true then (if aH v1.2.2.2.2.1 v1.2.2.1.length then (if decide ((IntKind.i64.wrap (v1.2.1+((v1.2.2.1.getD v1.2.2.2.2.1.toNat ([]:List Int)).length:Int)))<(0:Int))=true then none else L1 (v1.1,IntKind.i64.wrap (v1.2.1+((v1.2.2.1.getD v1.2.2.2.2.1.toNat ([]:List Int)).length:Int)),v1.2.2.1,v1.2.2.2.1,IntKind.i64.wrap (v1.2.2.2.2.1+(1:Int)),())) else none) else ((rQ n v1.2.1).bind fun r2=>(rounds (fun L3 (v3:(List (List Int))×Int×Int×(List Int)×Unit)=>(if decide (v3.2.2.1<v3.2.1)=true then (if aH v3.2.2.1 v3.1.length then (if (v3.2.2.2.1.length+(v3.1.getD v3.2.2.1.toNat ([]:List Int)).length) * 1≤140737488355328 then L3 (v3.1,v3.2.1,IntKind.i64.wrap (v3.2.2.1+(1:Int)),v3.2.2.2.1++(v3.1.getD v3.2.2.1.toNat ([]:List Int)),()) else none) else none) else some (v3.2.2.2.1,()))) n (v1.1,(v1.1.length:Int),(0:Int),r2.1,()))))) n (a0,(0:Int),a0,(a0.length:Int),(0:Int),()))
def acv:Entry:=⟨77,[.val (.sl 22 (.sl 5 (.int .u8))) []],[.own (.sl 5 (.int .u8)) [5] [] []],fun n c=>gQ n c.1⟩
def agr:Hint:=⟨0,[],[(0,[0,3,9,10,11],[]),(2,[6,25,26,27],[770])],[],[(106,some 24,acu)],[],[],[],[]⟩
theorem agL [Fr] (n:Nat):ak Tryz.prog n acv:=aj mixed aI Tryz.func77 (by kernel_rfl) (hi:=agr) (aa (agK n) aA) (by intro n c; kernel_rfl)
def og (n:Nat) (a0:Ae) (a1:Int):Option (adY×Unit):=((ug n a0).bind fun r1=>(if (!decide (r1.1=(0:Int)))=true then some ((r1.1,([]:List Int),ad1,()),()) else ((bN n a0.2.2.1).bind fun r2=>((dz n a1 (0:Int) r2.1).bind fun r3=>(if (!r3.1)=true then some (((3:Int),([]:List Int),ad1,()),()) else (if 0≤a1∧a1≤(a0.2.2.1.length:Int) then ((gQ n [a0.2.1,a0.2.2.1.take a1.toNat]).bind fun r4=>some (((0:Int),([]:List Int),(false,r4.1,([]:List Int),Nb,()),()),())) else none))))))
def acw:Entry:=⟨36,[.val BQ [], .val (.int .i64) []],[.own Yp [2,5,147,162] [] []],fun n c=>og n c.1 c.2.1⟩
def ags:Hint:=⟨0,[],[],[],[(75,some 7,acs),(76,some 15,Qy),(53,some 16,Gs),(77,some 26,acv)],[],[],[],[]⟩
theorem agM [Fr] (n:Nat):ak Tryz.prog n acw:=aj mixed aI Tryz.func36 (by kernel_rfl) (hi:=ags) (aa (agJ n) (aa (S9 n) (aa (Jh n) (aa (agL n) aA)))) (by intro n c; kernel_rfl)
def vI (n:Nat) (a0:Int):Option ((List EH)×Unit):=(rounds (fun L1 (v1:Int×Int×(List EH)×Unit)=>(if decide (v1.2.1<v1.1)=true then (if (v1.2.2.1.length+[(([]:List Int),(0:Int),([]:List Int),(1:Int),())].length) * 56≤140737488355328 then L1 (v1.1,IntKind.i64.wrap (v1.2.1+(1:Int)),v1.2.2.1++[(([]:List Int),(0:Int),([]:List Int),(1:Int),())],()) else none) else some (v1.2.2.1,()))) n (a0,(0:Int),([]:List EH),()))
def acy:Entry:=⟨37,[.val (.int .i64) []],[.own (.sl 74 xz) [2,74] [] []],fun n c=>vI n c.1⟩
def agt:Hint:=⟨0,[],[(0,[3,5,6],[130])],[],[],[],[],[],[]⟩
theorem agN [Fr] (n:Nat):ak Tryz.prog n acy:=aj mixed aI Tryz.func37 (by kernel_rfl) (hi:=agt) aA (by intro n c; kernel_rfl)
def ku (n:Nat) (a0:Bw) (a1:Int):Option (O8×Unit):=((gy n a0).bind fun r1=>(if (!decide (r1.1=(0:Int)))=true then some ((r1.1,([]:List (List Int)),abk,()),()) else ((og n a0.1 a1).bind fun r2=>(if (!decide (r2.1.1=(0:Int)))=true then some ((r2.1.1,([]:List (List Int)),abk,()),()) else ((vI n (a0.2.1.length:Int)).bind fun r3=>some (((0:Int),([]:List (List Int)),(r2.1.2.2.1,r3.1,()),()),()))))))
def X4:Entry:=⟨15,[.val Jp [], .val (.int .i64) []],[.own O7 [2,5,9,74,147,162] [] []],fun n c=>ku n c.1 c.2.1⟩
def agu:Hint:=⟨0,[24],[],[],[(24,some 8,acr),(36,some 16,acw),(37,some 28,acy)],[],[],[],[]⟩
theorem acA [Fr] (n:Nat):ak Tryz.prog n X4:=aj mixed aI Tryz.func15 (by kernel_rfl) (hi:=agu) (aa (agI n) (aa (agM n) (aa (agN n) aA))) (by intro n c; kernel_rfl)
def pR (n:Nat) (a0:List (List Int)) (a1:List (List Int)):Option (Bool×Unit):=(if (!decide ((a0.length:Int)=(a1.length:Int)))=true then some (false,()) else (rounds (fun L1 (v1:(List (List Int))×(List (List Int))×Int×Unit)=>(if decide (v1.2.2.1<(v1.1.length:Int))=true then (if aH v1.2.2.1 v1.1.length then (if aH v1.2.2.1 v1.2.1.length then (if (!decide ((v1.1.getD v1.2.2.1.toNat ([]:List Int))=(v1.2.1.getD v1.2.2.1.toNat ([]:List Int))))=true then some (false,()) else L1 (v1.1,v1.2.1,IntKind.i64.wrap (v1.2.2.1+(1:Int)),())) else none) else none) else some (true,()))) n (a0,a1,(0:Int),())))
def xZ:List cZ:=[.val (.sl 9 .str) [], .val (.sl 9 .str) []]
def F5:List jy:=[.val .bool [] []]
def yT:Entry:=⟨27,xZ,F5,fun n (c:Cont (kin xZ))=>pR n c.1 c.2.1⟩
def Gw:Hint:=⟨0,[],[(0,[0,1,5],[])],[],[],[],[],[],[]⟩
theorem GU [Fr] (n:Nat):ak Tryz.prog n yT:=aj mixed aI Tryz.func27 (by kernel_rfl) (hi:=Gw) aA (by intro n c; kernel_rfl)
def lI (n:Nat) (a0:List Int) (a1:List Int):Option (Bool×Unit):=(if (!decide ((a0.length:Int)=(a1.length:Int)))=true then some (false,()) else (rounds (fun L1 (v1:(List Int)×Zt0)=>(if decide (v1.2.2.1<(v1.1.length:Int))=true then (if aH v1.2.2.1 v1.1.length then (if aH v1.2.2.1 v1.2.1.length then (if (!decide ((v1.1.getD v1.2.2.1.toNat (0:Int))=(v1.2.1.getD v1.2.2.1.toNat (0:Int))))=true then some (false,()) else L1 (v1.1,v1.2.1,IntKind.i64.wrap (v1.2.2.1+(1:Int)),())) else none) else none) else some (true,()))) n (a0,a1,(0:Int),())))
def Bf:List cZ:=[.val (.sl 5 (.int .u8)) [], .val (.sl 5 (.int .u8)) []]
def JE:List jy:=[.val .bool [] []]
def q9:Entry:=⟨64,Bf,JE,fun n (c:Cont (kin Bf))=>lI n c.1 c.2.1⟩
def Ka:Hint:=⟨0,[],[(0,[0,1,5],[])],[],[],[],[],[],[]⟩
theorem wE [Fr] (n:Nat):ak Tryz.prog n q9:=aj mixed aI Tryz.func64 (by kernel_rfl) (hi:=Ka) aA (by intro n c; kernel_rfl)
def lJ (n:Nat) (a0:qL) (a1:qL):Option (Bool×Unit):=(if (!decide (a0.1=a1.1))=true then some (false,()) else (if (!decide (a0.2.1=a1.2.1))=true then some (false,()) else (if (!decide (a0.2.2.1=a1.2.2.1))=true then some (false,()) else ((lI n a0.2.2.2.1 a1.2.2.2.1).bind fun r1=>(if (!r1.1)=true then some (false,()) else some (true,()))))))
def xX:List cZ:=[.val zh [], .val zh []]
def F3:List jy:=[.val .bool [] []]
def yR:Entry:=⟨179,xX,F3,fun n (c:Cont (kin xX))=>lJ n c.1 c.2.1⟩
def Gu:Hint:=⟨0,[],[],[],[(64,some 24,q9)],[],[],[],[]⟩
theorem GQ [Fr] (n:Nat):ak Tryz.prog n yR:=aj mixed aI Tryz.func179 (by kernel_rfl) (hi:=Gu) (aa (wE n) aA) (by intro n c; kernel_rfl)
def om (n:Nat) (a0:List qL) (a1:List qL):Option (Bool×Unit):=(if (!decide ((a0.length:Int)=(a1.length:Int)))=true then some (false,()) else (rounds (fun L1 (v1:(List qL)×(List qL)×Int×Unit)=>(if decide (v1.2.2.1<(v1.1.length:Int))=true then (if aH v1.2.2.1 v1.1.length then (if aH v1.2.2.1 v1.2.1.length then ((lJ n (v1.1.getD v1.2.2.1.toNat kN) (v1.2.1.getD v1.2.2.1.toNat kN)).bind fun r2=>(if (!r2.1)=true then some (false,()) else L1 (v1.1,v1.2.1,IntKind.i64.wrap (v1.2.2.1+(1:Int)),()))) else none) else none) else some (true,()))) n (a0,a1,(0:Int),())))
def wX:List cZ:=[.val (.sl 162 zh) [], .val (.sl 162 zh) []]
def Ep:List jy:=[.val .bool [] []]
def xH:Entry:=⟨167,wX,Ep,fun n (c:Cont (kin wX))=>om n c.1 c.2.1⟩
def EP:Hint:=⟨0,[],[(0,[0,1,5],[])],[],[(179,some 25,yR)],[],[],[],[]⟩
theorem EZ [Fr] (n:Nat):ak Tryz.prog n xH:=aj mixed aI Tryz.func167 (by kernel_rfl) (hi:=EP) (aa (GQ n) aA) (by intro n c; kernel_rfl)
def rC (n:Nat) (a0:dQ) (a1:dQ):Option (Bool×Unit):=(if (!decide (a0.1=a1.1))=true then some (false,()) else (if (!decide (a0.2.1=a1.2.1))=true then some (false,()) else (if (!decide (a0.2.2.1=a1.2.2.1))=true then some (false,()) else ((om n a0.2.2.2.1 a1.2.2.2.1).bind fun r1=>(if (!r1.1)=true then some (false,()) else some (true,()))))))
def DL:List cZ:=[.val nP [], .val nP []]
def Nu:List jy:=[.val .bool [] []]
def EM:Entry:=⟨130,DL,Nu,fun n (c:Cont (kin DL))=>rC n c.1 c.2.1⟩
def OV:Hint:=⟨0,[],[],[],[(167,some 24,xH)],[],[],[],[]⟩
theorem OY [Fr] (n:Nat):ak Tryz.prog n EM:=aj mixed aI Tryz.func130 (by kernel_rfl) (hi:=OV) (aa (EZ n) aA) (by intro n c; kernel_rfl)
def uh (n:Nat) (a0:List dQ) (a1:List dQ):Option (Bool×Unit):=(if (!decide ((a0.length:Int)=(a1.length:Int)))=true then some (false,()) else (rounds (fun L1 (v1:(List dQ)×(List dQ)×Int×Unit)=>(if decide (v1.2.2.1<(v1.1.length:Int))=true then (if aH v1.2.2.1 v1.1.length then (if aH v1.2.2.1 v1.2.1.length then ((rC n (v1.1.getD v1.2.2.1.toNat dG) (v1.2.1.getD v1.2.2.1.toNat dG)).bind fun r2=>(if (!r2.1)=true then some (false,()) else L1 (v1.1,v1.2.1,IntKind.i64.wrap (v1.2.2.1+(1:Int)),()))) else none) else none) else some (true,()))) n (a0,a1,(0:Int),())))
def Ct:List cZ:=[.val (.sl 147 nP) [], .val (.sl 147 nP) []]
def ME:List jy:=[.val .bool [] []]
def Dy:Entry:=⟨100,Ct,ME,fun n (c:Cont (kin Ct))=>uh n c.1 c.2.1⟩
def MZ:Hint:=⟨0,[],[(0,[0,1,5],[])],[],[(130,some 25,EM)],[],[],[],[]⟩
theorem M5 [Fr] (n:Nat):ak Tryz.prog n Dy:=aj mixed aI Tryz.func100 (by kernel_rfl) (hi:=MZ) (aa (OY n) aA) (by intro n c; kernel_rfl)
def rD (n:Nat) (a0:fO) (a1:fO):Option (Bool×Unit):=(if (!decide (a0.1=a1.1))=true then some (false,()) else ((uh n a0.2.1 a1.2.1).bind fun r1=>(if (!r1.1)=true then some (false,()) else some (true,()))))
def Bg:List cZ:=[.val ql [], .val ql []]
def JF:List jy:=[.val .bool [] []]
def BF:Entry:=⟨65,Bg,JF,fun n (c:Cont (kin Bg))=>rD n c.1 c.2.1⟩
def Kb:Hint:=⟨0,[],[],[],[(100,some 14,Dy)],[],[],[],[]⟩
theorem Kq [Fr] (n:Nat):ak Tryz.prog n BF:=aj mixed aI Tryz.func65 (by kernel_rfl) (hi:=Kb) (aa (M5 n) aA) (by intro n c; kernel_rfl)
def oU (n:Nat) (a0:Ae) (a1:Ae):Option (Bool×Unit):=(if (!(a0.1 == a1.1))=true then some (false,()) else ((lI n a0.2.1 a1.2.1).bind fun r1=>(if (!r1.1)=true then some (false,()) else ((lI n a0.2.2.1 a1.2.2.1).bind fun r2=>(if (!r2.1)=true then some (false,()) else ((rD n a0.2.2.2.1 a1.2.2.2.1).bind fun r3=>(if (!r3.1)=true then some (false,()) else some (true,()))))))))
def Bh:List cZ:=[.val BQ [], .val BQ []]
def JG:List jy:=[.val .bool [] []]
def BG:Entry:=⟨28,Bh,JG,fun n (c:Cont (kin Bh))=>oU n c.1 c.2.1⟩
def Kc:Hint:=⟨0,[],[],[],[(64,some 14,q9),(64,some 20,q9),(65,some 26,BF)],[],[],[],[]⟩
theorem Kr [Fr] (n:Nat):ak Tryz.prog n BG:=aj mixed aI Tryz.func28 (by kernel_rfl) (hi:=Kc) (aa (wE n) (aa (wE n) (aa (Kq n) aA))) (by intro n c; kernel_rfl)
def jZ (n:Nat) (a0:List Int) (a1:List Int):Option (Bool×Unit):=(if (!decide ((a0.length:Int)=(a1.length:Int)))=true then some (false,()) else (rounds (fun L1 (v1:(List Int)×Zt0)=>(if decide (v1.2.2.1<(v1.1.length:Int))=true then (if aH v1.2.2.1 v1.1.length then (if aH v1.2.2.1 v1.2.1.length then (if (!decide ((v1.1.getD v1.2.2.1.toNat (0:Int))=(v1.2.1.getD v1.2.2.1.toNat (0:Int))))=true then some (false,()) else L1 (v1.1,v1.2.1,IntKind.i64.wrap (v1.2.2.1+(1:Int)),())) else none) else none) else some (true,()))) n (a0,a1,(0:Int),())))
def zH:List cZ:=[.val (.sl 2 (.int .i64)) [], .val (.sl 2 (.int .i64)) []]
def Ik:List jy:=[.val .bool [] []]
def AY:Entry:=⟨101,zH,Ik,fun n (c:Cont (kin zH))=>jZ n c.1 c.2.1⟩
def Jb:Hint:=⟨0,[],[(0,[0,1,5],[])],[],[],[],[],[],[]⟩
theorem Ji [Fr] (n:Nat):ak Tryz.prog n AY:=aj mixed aI Tryz.func101 (by kernel_rfl) (hi:=Jb) aA (by intro n c; kernel_rfl)
def jr (n:Nat) (a0:EH) (a1:EH):Option (Bool×Unit):=(if (!decide (a0.1=a1.1))=true then some (false,()) else (if (!decide (a0.2.1=a1.2.1))=true then some (false,()) else ((jZ n a0.2.2.1 a1.2.2.1).bind fun r1=>(if (!r1.1)=true then some (false,()) else (if (!decide (a0.2.2.2.1=a1.2.2.2.1))=true then some (false,()) else some (true,()))))))
def xY:List cZ:=[.val xz [], .val xz []]
def F4:List jy:=[.val .bool [] []]
def yS:Entry:=⟨66,xY,F4,fun n (c:Cont (kin xY))=>jr n c.1 c.2.1⟩
def Gv:Hint:=⟨0,[],[],[],[(101,some 19,AY)],[],[],[],[]⟩
theorem GR [Fr] (n:Nat):ak Tryz.prog n yS:=aj mixed aI Tryz.func66 (by kernel_rfl) (hi:=Gv) (aa (Ji n) aA) (by intro n c; kernel_rfl)
def kE (n:Nat) (a0:List EH) (a1:List EH):Option (Bool×Unit):=(if (!decide ((a0.length:Int)=(a1.length:Int)))=true then some (false,()) else (rounds (fun L1 (v1:(List EH)×(List EH)×Int×Unit)=>(if decide (v1.2.2.1<(v1.1.length:Int))=true then (if aH v1.2.2.1 v1.1.length then (if aH v1.2.2.1 v1.2.1.length then ((jr n (v1.1.getD v1.2.2.1.toNat BD) (v1.2.1.getD v1.2.2.1.toNat BD)).bind fun r2=>(if (!r2.1)=true then some (false,()) else L1 (v1.1,v1.2.1,IntKind.i64.wrap (v1.2.2.1+(1:Int)),()))) else none) else none) else some (true,()))) n (a0,a1,(0:Int),())))
def wY:List cZ:=[.val (.sl 74 xz) [], .val (.sl 74 xz) []]
def Er:List jy:=[.val .bool [] []]
def xI:Entry:=⟨29,wY,Er,fun n (c:Cont (kin wY))=>kE n c.1 c.2.1⟩
def ER:Hint:=⟨0,[],[(0,[0,1,5],[])],[],[(66,some 25,yS)],[],[],[],[]⟩
theorem E5 [Fr] (n:Nat):ak Tryz.prog n xI:=aj mixed aI Tryz.func29 (by kernel_rfl) (hi:=ER) (aa (GR n) aA) (by intro n c; kernel_rfl)
def lK (n:Nat) (a0:Bw) (a1:Bw):Option (Bool×Unit):=((oU n a0.1 a1.1).bind fun r1=>(if (!r1.1)=true then some (false,()) else ((kE n a0.2.1 a1.2.1).bind fun r2=>(if (!r2.1)=true then some (false,()) else some (true,())))))
def Bj:List cZ:=[.val Jp [], .val Jp []]
def JH:List jy:=[.val .bool [] []]
def wo:Entry:=⟨10,Bj,JH,fun n (c:Cont (kin Bj))=>lK n c.1 c.2.1⟩
def Ke:Hint:=⟨0,[],[],[],[(28,some 9,BG),(29,some 15,xI)],[],[],[],[]⟩
theorem BO [Fr] (n:Nat):ak Tryz.prog n wo:=aj mixed aI Tryz.func10 (by kernel_rfl) (hi:=Ke) (aa (Kr n) (aa (E5 n) aA)) (by intro n c; kernel_rfl)
def fJ (n:Nat) (a0:O8) (a1:O8):Option (Bool×Unit):=(if (!decide (a0.1=a1.1))=true then some (false,()) else ((pR n a0.2.1 a1.2.1).bind fun r1=>(if (!r1.1)=true then some (false,()) else ((lK n a0.2.2.1 a1.2.2.1).bind fun r2=>(if (!r2.1)=true then some (false,()) else some (true,()))))))
def sQ:List cZ:=[.val O7 [], .val O7 []]
def BA:List jy:=[.val .bool [] []]
def ko:Entry:=⟨9,sQ,BA,fun n (c:Cont (kin sQ))=>fJ n c.1 c.2.1⟩
def BN:Hint:=⟨0,[],[],[],[(27,some 14,yT),(10,some 20,wo)],[],[],[],[]⟩
theorem oW [Fr] (n:Nat):ak Tryz.prog n ko:=aj mixed aI Tryz.func9 (by kernel_rfl) (hi:=BN) (aa (GU n) (aa (BO n) aA)) (by intro n c; kernel_rfl)
def jv (n:Nat) (a0:List Int) (a1:Int):Option (Int×(List Int)×Unit):=(rounds (fun L1 (v1:Int×Int×(List Int)×Unit)=>(if decide (v1.2.1<(v1.2.2.1.length:Int))=true then (if aH v1.2.1 v1.2.2.1.length then L1 (IntKind.i64.wrap (v1.1+(1:Int)),IntKind.i64.wrap (v1.2.1+(1:Int)),v1.2.2.1.set v1.2.1.toNat (IntKind.u8.wrap v1.1),()) else none) else some (v1.1,v1.2.2.1,()))) n (a1,(0:Int),a0,()))
def yg:List cZ:=[.jl (.sl 5 (.int .u8)) [5] [5], .val (.int .i64) []]
def Ga:List jy:=[.val (.int .i64) [] []]
def pM:Entry:=⟨67,yg,Ga,fun n (c:Cont (kin yg))=>jv n c.1 c.2.1⟩
def GG:Hint:=⟨0,[],[(0,[0,1,5],[0])],[],[],[],[],[],[]⟩
theorem sZ [Fr] (n:Nat):ak Tryz.prog n pM:=aj mixed aI Tryz.func67 (by kernel_rfl) (hi:=GG) aA (by intro n c; kernel_rfl)
def dP (n:Nat) (a0:Int):Option ((List Int)×Unit):=(if decide (a0≤(0:Int))=true then some ([109,48],()) else (rounds (fun L1 (v1:Int×(List Int)×Unit)=>(if decide (v1.1>(0:Int))=true then (if (10:Int)≠0 then (if [IntKind.u8.wrap (IntKind.i64.wrap ((48:Int)+(v1.1.tmod (10:Int))))].length+v1.2.1.length≤9223372036854775807 then (if (10:Int)≠0 then L1 (IntKind.i64.wrap (v1.1.tdiv (10:Int)),[IntKind.u8.wrap (IntKind.i64.wrap ((48:Int)+(v1.1.tmod (10:Int))))]++v1.2.1,()) else none) else none) else none) else (if [109].length+v1.2.1.length≤9223372036854775807 then some ([109]++v1.2.1,()) else none))) n (a0,([]:List Int),())))
def zK:List cZ:=[.val (.int .i64) []]
def Io:List jy:=[.val .str [] []]
def iJ:Entry:=⟨69,zK,Io,fun n (c:Cont (kin zK))=>dP n c.1⟩
def Je:Hint:=⟨0,[],[(0,[0,3],[])],[],[],[],[],[],[]⟩
theorem j5 [Fr] (n:Nat):ak Tryz.prog n iJ:=aj mixed aI Tryz.func69 (by kernel_rfl) (hi:=Je) aA (by intro n c; kernel_rfl)
def kZ (n:Nat) (a0:List qL) (a1:Int):Option (Int×(List qL)×Unit):=(rounds (fun L1 (v1:Int×Int×(List qL)×Unit)=>(if decide (v1.2.1<(v1.2.2.1.length:Int))=true then (if aH v1.2.1 v1.2.2.1.length then (if aH v1.2.1 (fH v1.2.2.1 v1.2.1.toNat kN fun z1=>(v1.1,z1.2)).length then (if aH v1.2.1 (fH (fH v1.2.2.1 v1.2.1.toNat kN fun z1=>(v1.1,z1.2)) v1.2.1.toNat kN fun z1=>(z1.1,IntKind.i64.wrap (v1.1+(1:Int)),z1.2.2)).length then (if aH v1.2.1 (fH (fH (fH v1.2.2.1 v1.2.1.toNat kN fun z1=>(v1.1,z1.2)) v1.2.1.toNat kN fun z1=>(z1.1,IntKind.i64.wrap (v1.1+(1:Int)),z1.2.2)) v1.2.1.toNat kN fun z1=>(z1.1,z1.2.1,IntKind.i64.wrap ((IntKind.i64.wrap (v1.1+(1:Int)))+(1:Int)),z1.2.2.2)).length then ((jv n ((((((fH (fH (fH v1.2.2.1 v1.2.1.toNat kN fun z1=>(v1.1,z1.2)) v1.2.1.toNat kN fun z1=>(z1.1,IntKind.i64.wrap (v1.1+(1:Int)),z1.2.2)) v1.2.1.toNat kN fun z1=>(z1.1,z1.2.1,IntKind.i64.wrap ((IntKind.i64.wrap (v1.1+(1:Int)))+(1:Int)),z1.2.2.2)).getD v1.2.1.toNat kN).2).2).2).1) (IntKind.i64.wrap ((IntKind.i64.wrap ((IntKind.i64.wrap (v1.1+(1:Int)))+(1:Int)))+(1:Int)))).bind fun r2=>L1 (r2.1,IntKind.i64.wrap (v1.2.1+(1:Int)),(fH (fH (fH (fH v1.2.2.1 v1.2.1.toNat kN fun z1=>(v1.1,z1.2)) v1.2.1.toNat kN fun z1=>(z1.1,IntKind.i64.wrap (v1.1+(1:Int)),z1.2.2)) v1.2.1.toNat kN fun z1=>(z1.1,z1.2.1,IntKind.i64.wrap ((IntKind.i64.wrap (v1.1+(1:Int)))+(1:Int)),z1.2.2.2)) v1.2.1.toNat kN fun z1=>(z1.1,z1.2.1,z1.2.2.1,r2.2.1,z1.2.2.2.2)),())) else none) else none) else none) else none) else some (v1.1,v1.2.2.1,()))) n (a1,(0:Int),a0,()))
def uT:List cZ:=[.jl (.sl 162 zh) [5,162] [5,162,4294967295], .val (.int .i64) []]
def Cz:List jy:=[.val (.int .i64) [] []]
def vo:Entry:=⟨131,uT,Cz,fun n (c:Cont (kin uT))=>kZ n c.1 c.2.1⟩
def Dk:Hint:=⟨0,[37],[(0,[0,1,5],[0])],[],[(67,some 39,pM)],[],[],[],[]⟩
theorem Dp [Fr] (n:Nat):ak Tryz.prog n vo:=aj mixed aI Tryz.func131 (by kernel_rfl) (hi:=Dk) (aa (sZ n) aA) (by intro n c; kernel_rfl)
def qF (n:Nat) (a0:List dQ) (a1:Int):Option fO:=(rounds (fun L1 (v1:Int×fO)=>(if decide (v1.2.1<(v1.2.2.1.length:Int))=true then ((dP n v1.1).bind fun r2=>(if aH v1.2.1 v1.2.2.1.length then (if aH v1.2.1 (fH v1.2.2.1 v1.2.1.toNat dG fun z1=>(r2.1,z1.2)).length then (if aH v1.2.1 (fH (fH v1.2.2.1 v1.2.1.toNat dG fun z1=>(r2.1,z1.2)) v1.2.1.toNat dG fun z1=>(z1.1,IntKind.i64.wrap (v1.1+(1:Int)),z1.2.2)).length then (if aH v1.2.1 (fH (fH (fH v1.2.2.1 v1.2.1.toNat dG fun z1=>(r2.1,z1.2)) v1.2.1.toNat dG fun z1=>(z1.1,IntKind.i64.wrap (v1.1+(1:Int)),z1.2.2)) v1.2.1.toNat dG fun z1=>(z1.1,z1.2.1,IntKind.i64.wrap ((IntKind.i64.wrap (v1.1+(1:Int)))+(1:Int)),z1.2.2.2)).length then ((kZ n ((((((fH (fH (fH v1.2.2.1 v1.2.1.toNat dG fun z1=>(r2.1,z1.2)) v1.2.1.toNat dG fun z1=>(z1.1,IntKind.i64.wrap (v1.1+(1:Int)),z1.2.2)) v1.2.1.toNat dG fun z1=>(z1.1,z1.2.1,IntKind.i64.wrap ((IntKind.i64.wrap (v1.1+(1:Int)))+(1:Int)),z1.2.2.2)).getD v1.2.1.toNat dG).2).2).2).1) (IntKind.i64.wrap ((IntKind.i64.wrap ((IntKind.i64.wrap (v1.1+(1:Int)))+(1:Int)))+(1:Int)))).bind fun r3=>L1 (r3.1,IntKind.i64.wrap (v1.2.1+(1:Int)),(fH (fH (fH (fH v1.2.2.1 v1.2.1.toNat dG fun z1=>(r2.1,z1.2)) v1.2.1.toNat dG fun z1=>(z1.1,IntKind.i64.wrap (v1.1+(1:Int)),z1.2.2)) v1.2.1.toNat dG fun z1=>(z1.1,z1.2.1,IntKind.i64.wrap ((IntKind.i64.wrap (v1.1+(1:Int)))+(1:Int)),z1.2.2.2)) v1.2.1.toNat dG fun z1=>(z1.1,z1.2.1,z1.2.2.1,r3.2.1,z1.2.2.2.2)),())) else none) else none) else none) else none)) else some (v1.1,v1.2.2.1,()))) n (a1,(0:Int),a0,()))
def zJ:List cZ:=[.jl (.sl 147 nP) [5,147,162] [5,147,162,4294967295], .val (.int .i64) []]
def Im:List jy:=[.val (.int .i64) [] []]
def A7:Entry:=⟨102,zJ,Im,fun n (c:Cont (kin zJ))=>qF n c.1 c.2.1⟩
def Jd:Hint:=⟨0,[38],[(0,[0,1,5],[0])],[],[(69,some 15,iJ),(131,some 40,vo)],[],[],[],[]⟩
theorem Jk [Fr] (n:Nat):ak Tryz.prog n A7:=aj mixed aI Tryz.func102 (by kernel_rfl) (hi:=Jd) (aa (j5 n) (aa (Dp n) aA)) (by intro n c; kernel_rfl)
def pU (n:Nat) (a0:fO) (a1:Int):Option (Int×fO×Unit):=((qF n a0.2.1 a1).bind fun r1=>some (r1.1,(a0.1,r1.2.1,a0.2.2),()))
def yh:List cZ:=[.jl ql [5,147,162] [5,147,162,4294967295], .val (.int .i64) []]
def Gb:List jy:=[.val (.int .i64) [] []]
def yY:Entry:=⟨68,yh,Gb,fun n (c:Cont (kin yh))=>pU n c.1 c.2.1⟩
def GH:Hint:=⟨0,[],[],[],[(102,some 8,A7)],[],[],[],[]⟩
theorem GZ [Fr] (n:Nat):ak Tryz.prog n yY:=aj mixed aI Tryz.func68 (by kernel_rfl) (hi:=GH) (aa (Jk n) aA) (by intro n c; kernel_rfl)
def pV (n:Nat) (a0:Ae) (a1:Int):Option (Int×Ae×Unit):=((jv n a0.2.1 a1).bind fun r1=>((jv n a0.2.2.1 r1.1).bind fun r2=>((pU n a0.2.2.2.1 r2.1).bind fun r3=>some (r3.1,(a0.1,r1.2.1,r2.2.1,r3.2.1,a0.2.2.2.2),()))))
def yj:List cZ:=[.jl BQ [5,147,162] [5,147,162,4294967295], .val (.int .i64) []]
def Gc:List jy:=[.val (.int .i64) [] []]
def yZ:Entry:=⟨30,yj,Gc,fun n (c:Cont (kin yj))=>pV n c.1 c.2.1⟩
def GI:Hint:=⟨0,[],[],[],[(67,some 8,pM),(67,some 12,pM),(68,some 16,yY)],[],[],[],[]⟩
theorem G5 [Fr] (n:Nat):ak Tryz.prog n yZ:=aj mixed aI Tryz.func30 (by kernel_rfl) (hi:=GI) (aa (sZ n) (aa (sZ n) (aa (GZ n) aA))) (by intro n c; kernel_rfl)
def oq (n:Nat) (a0:List Int) (a1:Int):Option (Int×(List Int)×Unit):=(rounds (fun L1 (v1:Int×Int×(List Int)×Unit)=>(if decide (v1.2.1<(v1.2.2.1.length:Int))=true then (if aH v1.2.1 v1.2.2.1.length then L1 (IntKind.i64.wrap (v1.1+(1:Int)),IntKind.i64.wrap (v1.2.1+(1:Int)),v1.2.2.1.set v1.2.1.toNat v1.1,()) else none) else some (v1.1,v1.2.2.1,()))) n (a1,(0:Int),a0,()))
def w9:List cZ:=[.jl (.sl 2 (.int .i64)) [2] [2], .val (.int .i64) []]
def Et:List jy:=[.val (.int .i64) [] []]
def xK:Entry:=⟨70,w9,Et,fun n (c:Cont (kin w9))=>oq n c.1 c.2.1⟩
def ET:Hint:=⟨0,[],[(0,[0,1,5],[0])],[],[],[],[],[],[]⟩
theorem E9 [Fr] (n:Nat):ak Tryz.prog n xK:=aj mixed aI Tryz.func70 (by kernel_rfl) (hi:=ET) aA (by intro n c; kernel_rfl)
def lq (n:Nat) (a0:List EH) (a1:Int):Option (Int×(List EH)×Unit):=(rounds (fun L1 (v1:Int×Int×(List EH)×Unit)=>(if decide (v1.2.1<(v1.2.2.1.length:Int))=true then ((dP n v1.1).bind fun r2=>(if aH v1.2.1 v1.2.2.1.length then (if aH v1.2.1 (fH v1.2.2.1 v1.2.1.toNat BD fun z1=>(r2.1,z1.2)).length then (if aH v1.2.1 (fH (fH v1.2.2.1 v1.2.1.toNat BD fun z1=>(r2.1,z1.2)) v1.2.1.toNat BD fun z1=>(z1.1,IntKind.i64.wrap (v1.1+(1:Int)),z1.2.2)).length then ((oq n (((((fH (fH v1.2.2.1 v1.2.1.toNat BD fun z1=>(r2.1,z1.2)) v1.2.1.toNat BD fun z1=>(z1.1,IntKind.i64.wrap (v1.1+(1:Int)),z1.2.2)).getD v1.2.1.toNat BD).2).2).1) (IntKind.i64.wrap ((IntKind.i64.wrap (v1.1+(1:Int)))+(1:Int)))).bind fun r3=>(if aH v1.2.1 (fH (fH (fH v1.2.2.1 v1.2.1.toNat BD fun z1=>(r2.1,z1.2)) v1.2.1.toNat BD fun z1=>(z1.1,IntKind.i64.wrap (v1.1+(1:Int)),z1.2.2)) v1.2.1.toNat BD fun z1=>(z1.1,z1.2.1,r3.2.1,z1.2.2.2)).length then L1 (IntKind.i64.wrap (r3.1+(1:Int)),IntKind.i64.wrap (v1.2.1+(1:Int)),(fH (fH (fH (fH v1.2.2.1 v1.2.1.toNat BD fun z1=>(r2.1,z1.2)) v1.2.1.toNat BD fun z1=>(z1.1,IntKind.i64.wrap (v1.1+(1:Int)),z1.2.2)) v1.2.1.toNat BD fun z1=>(z1.1,z1.2.1,r3.2.1,z1.2.2.2)) v1.2.1.toNat BD fun z1=>(z1.1,z1.2.1,z1.2.2.1,r3.1,z1.2.2.2.2)),()) else none)) else none) else none) else none)) else some (v1.1,v1.2.2.1,()))) n (a1,(0:Int),a0,()))
def uU:List cZ:=[.jl (.sl 74 xz) [2,74] [2,74,4294967295], .val (.int .i64) []]
def CB:List jy:=[.val (.int .i64) [] []]
def vv:Entry:=⟨31,uU,CB,fun n (c:Cont (kin uU))=>lq n c.1 c.2.1⟩
def Dl:Hint:=⟨0,[31],[(0,[0,1,5],[0])],[],[(69,some 15,iJ),(70,some 33,xK)],[],[],[],[]⟩
theorem Dq [Fr] (n:Nat):ak Tryz.prog n vv:=aj mixed aI Tryz.func31 (by kernel_rfl) (hi:=Dl) (aa (j5 n) (aa (E9 n) aA)) (by intro n c; kernel_rfl)
def lU (n:Nat) (a0:Bw) (a1:Int):Option (Int×Bw×Unit):=((pV n a0.1 a1).bind fun r1=>((lq n a0.2.1 r1.1).bind fun r2=>some (r2.1,(r1.2.1,r2.2.1,a0.2.2),())))
def yl:List cZ:=[.jl Jp [2,5,74,147,162] [2,5,74,147,162,4294967295], .val (.int .i64) []]
def Gd:List jy:=[.val (.int .i64) [] []]
def sS:Entry:=⟨11,yl,Gd,fun n (c:Cont (kin yl))=>lU n c.1 c.2.1⟩
def GJ:Hint:=⟨0,[],[],[],[(30,some 8,yZ),(31,some 12,vv)],[],[],[],[]⟩
theorem ze [Fr] (n:Nat):ak Tryz.prog n sS:=aj mixed aI Tryz.func11 (by kernel_rfl) (hi:=GJ) (aa (G5 n) (aa (Dq n) aA)) (by intro n c; kernel_rfl)
def nk (n:Nat) (a0:List (List Int)) (a1:Int):Option (Int×(List (List Int))×Unit):=(rounds (fun L1 (v1:Int×Int×(List (List Int))×Unit)=>(if decide (v1.2.1<(v1.2.2.1.length:Int))=true then ((dP n v1.1).bind fun r2=>(if aH v1.2.1 v1.2.2.1.length then L1 (IntKind.i64.wrap (v1.1+(1:Int)),IntKind.i64.wrap (v1.2.1+(1:Int)),v1.2.2.1.set v1.2.1.toNat r2.1,()) else none)) else some (v1.1,v1.2.2.1,()))) n (a1,(0:Int),a0,()))
def vD:List cZ:=[.jl (.sl 9 .str) [9] [9], .val (.int .i64) []]
def Dv:List jy:=[.val (.int .i64) [] []]
def wz:Entry:=⟨32,vD,Dv,fun n (c:Cont (kin vD))=>nk n c.1 c.2.1⟩
def DX:Hint:=⟨0,[],[(0,[0,1,5],[0])],[],[(69,some 15,iJ)],[],[],[],[]⟩
theorem DZ [Fr] (n:Nat):ak Tryz.prog n wz:=aj mixed aI Tryz.func32 (by kernel_rfl) (hi:=DX) (aa (j5 n) aA) (by intro n c; kernel_rfl)
def iX (n:Nat) (a0:O8) (a1:Int):Option (Int×O8×Unit):=((nk n a0.2.1 a1).bind fun r1=>((lU n a0.2.2.1 r1.1).bind fun r2=>some (r2.1,(a0.1,r1.2.1,r2.2.1,a0.2.2.2),())))
def qY:List cZ:=[.jl O7 [2,5,9,74,147,162] [2,5,9,74,147,162,4294967295], .val (.int .i64) []]
def zR:List jy:=[.val (.int .i64) [] []]
def rq:Entry:=⟨12,qY,zR,fun n (c:Cont (kin qY))=>iX n c.1 c.2.1⟩
def zZ:Hint:=⟨0,[],[],[],[(32,some 8,wz),(11,some 12,sS)],[],[],[],[]⟩
theorem z8 [Fr] (n:Nat):ak Tryz.prog n rq:=aj mixed aI Tryz.func12 (by kernel_rfl) (hi:=zZ) (aa (DZ n) (aa (ze n) aA)) (by intro n c; kernel_rfl)
def jF (n:Nat) (a0:List (List Int)) (a1:Int):Option (Int×Unit):=(rounds (fun L1 (v1:(List (List Int))×Int×Int×Unit)=>(if decide (v1.2.2.1<(v1.1.length:Int))=true then (if aH v1.2.2.1 v1.1.length then ((dP n v1.2.1).bind fun r2=>(if (!decide ((v1.1.getD v1.2.2.1.toNat ([]:List Int))=r2.1))=true then some ((-1:Int),()) else L1 (v1.1,IntKind.i64.wrap (v1.2.1+(1:Int)),IntKind.i64.wrap (v1.2.2.1+(1:Int)),()))) else none) else some (v1.2.1,()))) n (a0,a1,(0:Int),()))
def vC:List cZ:=[.val (.sl 9 .str) [], .val (.int .i64) []]
def Du:List jy:=[.val (.int .i64) [] []]
def wu:Entry:=⟨33,vC,Du,fun n (c:Cont (kin vC))=>jF n c.1 c.2.1⟩
def DW:Hint:=⟨0,[],[(0,[0,1,5],[])],[],[(69,some 17,iJ)],[],[],[],[]⟩
theorem DY [Fr] (n:Nat):ak Tryz.prog n wu:=aj mixed aI Tryz.func33 (by kernel_rfl) (hi:=DW) (aa (j5 n) aA) (by intro n c; kernel_rfl)
def fK (n:Nat) (a0:List Int) (a1:Int):Option (Int×Unit):=(rounds (fun L1 (v1:(List Int)×Int×Int×Unit)=>(if decide (v1.2.2.1<(v1.1.length:Int))=true then (if aH v1.2.2.1 v1.1.length then (if (!decide ((v1.1.getD v1.2.2.1.toNat (0:Int))=(IntKind.u8.wrap v1.2.1)))=true then some ((-1:Int),()) else L1 (v1.1,IntKind.i64.wrap (v1.2.1+(1:Int)),IntKind.i64.wrap (v1.2.2.1+(1:Int)),())) else none) else some (v1.2.1,()))) n (a0,a1,(0:Int),()))
def x8:List cZ:=[.val (.sl 5 (.int .u8)) [], .val (.int .i64) []]
def F6:List jy:=[.val (.int .i64) [] []]
def pK:Entry:=⟨103,x8,F6,fun n (c:Cont (kin x8))=>fK n c.1 c.2.1⟩
def Gx:Hint:=⟨0,[],[(0,[0,1,5],[])],[],[],[],[],[],[]⟩
theorem sW [Fr] (n:Nat):ak Tryz.prog n pK:=aj mixed aI Tryz.func103 (by kernel_rfl) (hi:=Gx) aA (by intro n c; kernel_rfl)
def kY (n:Nat) (a0:List qL) (a1:Int):Option (Int×Unit):=(rounds (fun L1 (v1:(List qL)×Int×Int×Unit)=>(if decide (v1.2.2.1<(v1.1.length:Int))=true then (if aH v1.2.2.1 v1.1.length then (if (!decide (((v1.1.getD v1.2.2.1.toNat kN).1)=v1.2.1))=true then some ((-1:Int),()) else (if aH v1.2.2.1 v1.1.length then (if (!decide ((((v1.1.getD v1.2.2.1.toNat kN).2).1)=(IntKind.i64.wrap (v1.2.1+(1:Int)))))=true then some ((-1:Int),()) else (if aH v1.2.2.1 v1.1.length then (if (!decide (((((v1.1.getD v1.2.2.1.toNat kN).2).2).1)=(IntKind.i64.wrap ((IntKind.i64.wrap (v1.2.1+(1:Int)))+(1:Int)))))=true then some ((-1:Int),()) else (if aH v1.2.2.1 v1.1.length then ((fK n (((((v1.1.getD v1.2.2.1.toNat kN).2).2).2).1) (IntKind.i64.wrap ((IntKind.i64.wrap ((IntKind.i64.wrap (v1.2.1+(1:Int)))+(1:Int)))+(1:Int)))).bind fun r2=>(if decide (r2.1<(0:Int))=true then some ((-1:Int),()) else L1 (v1.1,r2.1,IntKind.i64.wrap (v1.2.2.1+(1:Int)),()))) else none)) else none)) else none)) else none) else some (v1.2.1,()))) n (a0,a1,(0:Int),()))
def uR:List cZ:=[.val (.sl 162 zh) [], .val (.int .i64) []]
def Cw:List jy:=[.val (.int .i64) [] []]
def vg:Entry:=⟨168,uR,Cw,fun n (c:Cont (kin uR))=>kY n c.1 c.2.1⟩
def Di:Hint:=⟨0,[],[(0,[0,1,5],[])],[],[(103,some 45,pK)],[],[],[],[]⟩
theorem Dm [Fr] (n:Nat):ak Tryz.prog n vg:=aj mixed aI Tryz.func168 (by kernel_rfl) (hi:=Di) (aa (sW n) aA) (by intro n c; kernel_rfl)
def nN (n:Nat) (a0:List dQ) (a1:Int):Option (Int×Unit):=(rounds (fun L1 (v1:(List dQ)×Int×Int×Unit)=>(if decide (v1.2.2.1<(v1.1.length:Int))=true then (if aH v1.2.2.1 v1.1.length then ((dP n v1.2.1).bind fun r2=>(if (!decide (((v1.1.getD v1.2.2.1.toNat dG).1)=r2.1))=true then some ((-1:Int),()) else (if aH v1.2.2.1 v1.1.length then (if (!decide ((((v1.1.getD v1.2.2.1.toNat dG).2).1)=(IntKind.i64.wrap (v1.2.1+(1:Int)))))=true then some ((-1:Int),()) else (if aH v1.2.2.1 v1.1.length then (if (!decide (((((v1.1.getD v1.2.2.1.toNat dG).2).2).1)=(IntKind.i64.wrap ((IntKind.i64.wrap (v1.2.1+(1:Int)))+(1:Int)))))=true then some ((-1:Int),()) else (if aH v1.2.2.1 v1.1.length then ((kY n (((((v1.1.getD v1.2.2.1.toNat dG).2).2).2).1) (IntKind.i64.wrap ((IntKind.i64.wrap ((IntKind.i64.wrap (v1.2.1+(1:Int)))+(1:Int)))+(1:Int)))).bind fun r3=>(if decide (r3.1<(0:Int))=true then some ((-1:Int),()) else L1 (v1.1,r3.1,IntKind.i64.wrap (v1.2.2.1+(1:Int)),()))) else none)) else none)) else none))) else none) else some (v1.2.1,()))) n (a0,a1,(0:Int),()))
def zI:List cZ:=[.val (.sl 147 nP) [], .val (.int .i64) []]
def Il:List jy:=[.val (.int .i64) [] []]
def AZ:Entry:=⟨132,zI,Il,fun n (c:Cont (kin zI))=>nN n c.1 c.2.1⟩
def Jc:Hint:=⟨0,[],[(0,[0,1,5],[])],[],[(69,some 18,iJ),(168,some 46,vg)],[],[],[],[]⟩
theorem Jj [Fr] (n:Nat):ak Tryz.prog n AZ:=aj mixed aI Tryz.func132 (by kernel_rfl) (hi:=Jc) (aa (j5 n) (aa (Dm n) aA)) (by intro n c; kernel_rfl)
def lN (n:Nat) (a0:fO) (a1:Int):Option (Int×Unit):=((nN n a0.2.1 a1).bind fun r1=>(if decide (r1.1<(0:Int))=true then some ((-1:Int),()) else some (r1.1,())))
def x9:List cZ:=[.val ql [], .val (.int .i64) []]
def F7:List jy:=[.val (.int .i64) [] []]
def yU:Entry:=⟨104,x9,F7,fun n (c:Cont (kin x9))=>lN n c.1 c.2.1⟩
def Gy:Hint:=⟨0,[],[],[],[(132,some 8,AZ)],[],[],[],[]⟩
theorem GV [Fr] (n:Nat):ak Tryz.prog n yU:=aj mixed aI Tryz.func104 (by kernel_rfl) (hi:=Gy) (aa (Jj n) aA) (by intro n c; kernel_rfl)
def lQ (n:Nat) (a0:Ae) (a1:Int):Option (Int×Unit):=((fK n a0.2.1 a1).bind fun r1=>(if decide (r1.1<(0:Int))=true then some ((-1:Int),()) else ((fK n a0.2.2.1 r1.1).bind fun r2=>(if decide (r2.1<(0:Int))=true then some ((-1:Int),()) else ((lN n a0.2.2.2.1 r2.1).bind fun r3=>(if decide (r3.1<(0:Int))=true then some ((-1:Int),()) else some (r3.1,())))))))
def yc:List cZ:=[.val BQ [], .val (.int .i64) []]
def F8:List jy:=[.val (.int .i64) [] []]
def yV:Entry:=⟨71,yc,F8,fun n (c:Cont (kin yc))=>lQ n c.1 c.2.1⟩
def Gz:Hint:=⟨0,[],[],[],[(103,some 8,pK),(103,some 14,pK),(104,some 20,yU)],[],[],[],[]⟩
theorem GX [Fr] (n:Nat):ak Tryz.prog n yV:=aj mixed aI Tryz.func71 (by kernel_rfl) (hi:=Gz) (aa (sW n) (aa (sW n) (aa (GV n) aA))) (by intro n c; kernel_rfl)
def oo (n:Nat) (a0:List Int) (a1:Int):Option (Int×Unit):=(rounds (fun L1 (v1:(List Int)×Int×Int×Unit)=>(if decide (v1.2.2.1<(v1.1.length:Int))=true then (if aH v1.2.2.1 v1.1.length then (if (!decide ((v1.1.getD v1.2.2.1.toNat (0:Int))=v1.2.1))=true then some ((-1:Int),()) else L1 (v1.1,IntKind.i64.wrap (v1.2.1+(1:Int)),IntKind.i64.wrap (v1.2.2.1+(1:Int)),())) else none) else some (v1.2.1,()))) n (a0,a1,(0:Int),()))
def wZ:List cZ:=[.val (.sl 2 (.int .i64)) [], .val (.int .i64) []]
def Es:List jy:=[.val (.int .i64) [] []]
def xJ:Entry:=⟨105,wZ,Es,fun n (c:Cont (kin wZ))=>oo n c.1 c.2.1⟩
def ES:Hint:=⟨0,[],[(0,[0,1,5],[])],[],[],[],[],[],[]⟩
theorem E8 [Fr] (n:Nat):ak Tryz.prog n xJ:=aj mixed aI Tryz.func105 (by kernel_rfl) (hi:=ES) aA (by intro n c; kernel_rfl)
def iV (n:Nat) (a0:List EH) (a1:Int):Option (Int×Unit):=(rounds (fun L1 (v1:(List EH)×Int×Int×Unit)=>(if decide (v1.2.2.1<(v1.1.length:Int))=true then (if aH v1.2.2.1 v1.1.length then ((dP n v1.2.1).bind fun r2=>(if (!decide (((v1.1.getD v1.2.2.1.toNat BD).1)=r2.1))=true then some ((-1:Int),()) else (if aH v1.2.2.1 v1.1.length then (if (!decide ((((v1.1.getD v1.2.2.1.toNat BD).2).1)=(IntKind.i64.wrap (v1.2.1+(1:Int)))))=true then some ((-1:Int),()) else (if aH v1.2.2.1 v1.1.length then ((oo n ((((v1.1.getD v1.2.2.1.toNat BD).2).2).1) (IntKind.i64.wrap ((IntKind.i64.wrap (v1.2.1+(1:Int)))+(1:Int)))).bind fun r3=>(if decide (r3.1<(0:Int))=true then some ((-1:Int),()) else (if aH v1.2.2.1 v1.1.length then (if (!decide ((((((v1.1.getD v1.2.2.1.toNat BD).2).2).2).1)=r3.1))=true then some ((-1:Int),()) else L1 (v1.1,IntKind.i64.wrap (r3.1+(1:Int)),IntKind.i64.wrap (v1.2.2.1+(1:Int)),())) else none))) else none)) else none))) else none) else some (v1.2.1,()))) n (a0,a1,(0:Int),()))
def uS:List cZ:=[.val (.sl 74 xz) [], .val (.int .i64) []]
def Cy:List jy:=[.val (.int .i64) [] []]
def vk:Entry:=⟨72,uS,Cy,fun n (c:Cont (kin uS))=>iV n c.1 c.2.1⟩
def Dj:Hint:=⟨0,[],[(0,[0,1,5],[])],[],[(69,some 18,iJ),(105,some 37,xJ)],[],[],[],[]⟩
theorem Dn [Fr] (n:Nat):ak Tryz.prog n vk:=aj mixed aI Tryz.func72 (by kernel_rfl) (hi:=Dj) (aa (j5 n) (aa (E8 n) aA)) (by intro n c; kernel_rfl)
def lT (n:Nat) (a0:Bw) (a1:Int):Option (Int×Unit):=((lQ n a0.1 a1).bind fun r1=>(if decide (r1.1<(0:Int))=true then some ((-1:Int),()) else ((iV n a0.2.1 r1.1).bind fun r2=>(if decide (r2.1<(0:Int))=true then some ((-1:Int),()) else some (r2.1,())))))
def yf:List cZ:=[.val Jp [], .val (.int .i64) []]
def F9:List jy:=[.val (.int .i64) [] []]
def yX:Entry:=⟨34,yf,F9,fun n (c:Cont (kin yf))=>lT n c.1 c.2.1⟩
def GD:Hint:=⟨0,[],[],[],[(71,some 8,yV),(72,some 14,vk)],[],[],[],[]⟩
theorem GY [Fr] (n:Nat):ak Tryz.prog n yX:=aj mixed aI Tryz.func34 (by kernel_rfl) (hi:=GD) (aa (GX n) (aa (Dn n) aA)) (by intro n c; kernel_rfl)
def gB (n:Nat) (a0:O8) (a1:Int):Option (Int×Unit):=((jF n a0.2.1 a1).bind fun r1=>(if decide (r1.1<(0:Int))=true then some ((-1:Int),()) else ((lT n a0.2.2.1 r1.1).bind fun r2=>(if decide (r2.1<(0:Int))=true then some ((-1:Int),()) else some (r2.1,())))))
def qX:List cZ:=[.val O7 [], .val (.int .i64) []]
def zQ:List jy:=[.val (.int .i64) [] []]
def mY:Entry:=⟨13,qX,zQ,fun n (c:Cont (kin qX))=>gB n c.1 c.2.1⟩
def zY:Hint:=⟨0,[],[],[],[(33,some 8,wu),(34,some 14,yX)],[],[],[],[]⟩
theorem rX [Fr] (n:Nat):ak Tryz.prog n mY:=aj mixed aI Tryz.func13 (by kernel_rfl) (hi:=zY) (aa (DY n) (aa (GY n) aA)) (by intro n c; kernel_rfl)
def kJ (n:Nat) (a0:Bw) (a1:Int):Option (Bool×Unit):=((rH n a0 (1048576:Int)).bind fun r1=>(if decide (r1.1<(0:Int))=true then some (true,()) else ((jG n a0).bind fun r2=>((oD n r2.1 a1).bind fun r3=>((jG n a0).bind fun r4=>((ku n r4.1 a1).bind fun r5=>((fJ n r5.1 r3.1).bind fun r6=>(if (!r6.1)=true then some (false,()) else ((jG n a0).bind fun r7=>((lK n r4.1 r7.1).bind fun r8=>(if (!r8.1)=true then some (false,()) else ((lU n r4.1 (1:Int)).bind fun r9=>(if decide (r9.1<(0:Int))=true then some (false,()) else ((fJ n r5.1 r3.1).bind fun Qb=>(if (!Qb.1)=true then some (false,()) else ((iX n r5.1 (1:Int)).bind fun J4=>((gB n J4.2.1 (1:Int)).bind fun Ms=>(if decide (Ms.1<(0:Int))=true then some (false,()) else (if (!decide (Ms.1=J4.1))=true then some (false,()) else ((jG n a0).bind fun Qt=>((ku n Qt.1 a1).bind fun r14=>((fJ n r14.1 r3.1).bind fun VL=>(if (!VL.1)=true then some (false,()) else ((gB n J4.2.1 (1:Int)).bind fun r16=>(if decide (r16.1<(0:Int))=true then some (false,()) else (if (!decide (r16.1=J4.1))=true then some (false,()) else some (true,())))))))))))))))))))))))))))
def dO:List cZ:=[.val Tt [], .val (.int .i64) []]
def xE:List jy:=[.val .bool [] []]
def qy:Entry:=⟨4,dO,xE,fun n (c:Cont (kin dO))=>kJ n c.1 c.2.1⟩
def yE:Hint:=⟨0,[36,47],[],[],[(5,some 15,BJ),(7,some 19,oN),(14,some 21,afM),(7,some 23,oN),(15,some 26,X4),(9,some 29,ko),(7,some 33,oN),(10,some 34,wo),(11,some 38,sS),(9,some 44,ko),(12,some 49,rq),(13,some 52,mY),(7,some 59,oN),(15,some 61,X4),(9,some 64,ko),(13,some 68,mY)],[],[],[],[]⟩
theorem yF [Fr] (n:Nat):ak Tryz.prog n qy:=aj mixed aI Tryz.func4 (by kernel_rfl) (hi:=yE) (aa (Kv n) (aa (rY n) (aa (akL n) (aa (rY n) (aa (acA n) (aa (oW n) (aa (rY n) (aa (BO n) (aa (ze n) (aa (oW n) (aa (z8 n) (aa (rX n) (aa (rY n) (aa (acA n) (aa (oW n) (aa (rX n) aA)))))))))))))))) (by intro n c; kernel_rfl)
end Go.Proofs.YtdknpknohipffaaGreat.Qq

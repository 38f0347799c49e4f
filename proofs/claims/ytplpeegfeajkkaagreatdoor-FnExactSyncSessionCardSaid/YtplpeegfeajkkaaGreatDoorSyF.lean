/- What the functions of this law compute, as plain functions, and that the reading comes to them. No condition. -/
import Derived.Test.YtplpeegfeajkkaaGreatDoorPackLib
import Derived.Test.YtplpeegfeajkkaaGreatDoorProg
import Derived.KernelRfl
set_option linter.unusedVariables false
set_option linter.unusedSimpArgs false
namespace Go.Proofs.YtplpeegfeajkkaaGreatDoor.nE
open Go IntKind Go.Proofs.Tryz Go.Proofs.YtplpeegfeajkkaaGreatDoor Ow
abbrev w_:K:=(.st (.pair .str (.pair (.int .u64) .unit)))
abbrev Ed:Type:=(List Int)×Int×Unit
abbrev uf:K:=(.st (.pair (.sl 5 (.int .u8)) (.pair .bool .unit)))
abbrev BR:Type:=(List Int)×Bool×Unit
abbrev ug:K:=(.st (.pair (.sl 5 (.int .u8)) (.pair (.int .i64) (.pair .bool .unit))))
abbrev zK:Type:=(List Int)×Int×Bool×Unit
abbrev IE:K:=(.st (.pair .str (.pair (.int .i64) (.pair (.int .i64) (.pair (.id 113) .unit)))))
abbrev Y2:Type:=(List Int)×Int×Int×Nat×Unit
abbrev xe:K:=(.st (.pair (.int .i64) (.pair (.int .i64) (.pair .bool (.pair (.int .u8) .unit)))))
abbrev nH:K:=(.st (.pair (.int .i64) (.pair (.int .i64) (.pair (.int .i64) (.pair (.id 5) .unit)))))
abbrev oK:Type:=Int×Int×Int×Nat×Unit
abbrev gN:K:=(.st (.pair .str (.pair (.int .i64) (.pair (.sl 2 (.int .i64)) (.pair (.int .i64) .unit)))))
abbrev j5:Type:=(List Int)×Int×Ed
abbrev gW:K:=(.st (.pair (.int .i64) (.pair (.int .i64) (.pair (.int .i64) (.pair (.sl 5 (.int .u8)) .unit)))))
abbrev dK:Type:=Int×Int×Int×(List Int)×Unit
abbrev M_:K:=(.st (.pair (.int .i64) (.pair (.sl 81 IE) .unit)))
abbrev Zt8:Type:=Int×(List (Y2))×Unit
abbrev xg:K:=(.st (.pair .str (.pair (.int .i64) (.pair (.int .i64) (.pair (.sl 175 nH) .unit)))))
abbrev Ee:Type:=(List Int)×Int×Int×(List (oK))×Unit
abbrev uS:K:=(.st (.pair .str (.pair (.int .i64) (.pair (.int .i64) (.pair (.sl 113 nH) .unit)))))
abbrev gG:K:=(.st (.pair (.int .i64) (.pair .str (.pair .str (.pair (.sl 2 (.int .i64)) (.pair (.int .i64) (.pair (.int .i64) (.pair (.int .i64) (.pair (.sl 5 (.int .u8)) .unit)))))))))
abbrev fD:Type:=Int×(List Int)×(List Int)×(List Int)×dK
abbrev vQ:K:=(.st (.pair .str (.pair (.int .i64) (.pair (.int .i64) (.pair (.sl 175 gW) .unit)))))
abbrev cz:Type:=(List Int)×Int×Int×(List (dK))×Unit
abbrev gV:K:=(.st (.pair .str (.pair (.int .i64) (.pair (.int .i64) (.pair (.sl 113 gW) .unit)))))
abbrev Y0:K:=(.st (.pair (.int .i64) (.pair (.sl 2 (.int .i64)) (.pair M_ .unit))))
abbrev zJ:K:=(.st (.pair (.int .i64) (.pair (.sl 81 uS) .unit)))
abbrev Q9:K:=(.st (.pair .bool (.pair (.sl 5 (.int .u8)) (.pair (.sl 5 (.int .u8)) (.pair M_ .unit)))))
abbrev BK:K:=(.st (.pair (.int .i64) (.pair (.sl 130 xg) .unit)))
abbrev jv:K:=(.st (.pair (.int .i64) (.pair (.sl 81 gV) .unit)))
abbrev dU:Type:=Int×(List (cz))×Unit
abbrev BL:K:=(.st (.pair (.int .i64) (.pair (.sl 130 vQ) .unit)))
abbrev vR:K:=(.st (.pair (.int .i64) (.pair (.int .i64) (.pair gG .unit))))
abbrev akp:Type:=Int×Int×(fD)×Unit
abbrev Ea:K:=(.st (.pair (.int .i64) (.pair (.sl 2 (.int .i64)) (.pair zJ .unit))))
abbrev yl:K:=(.st (.pair (.int .i64) (.pair (.sl 2 (.int .i64)) (.pair jv .unit))))
abbrev uh:Type:=Int×(List Int)×(dU)×Unit
abbrev BM:K:=(.st (.pair .bool (.pair (.sl 5 (.int .u8)) (.pair (.sl 5 (.int .u8)) (.pair zJ .unit)))))
abbrev BN:K:=(.st (.pair .bool (.pair (.sl 5 (.int .u8)) (.pair (.sl 5 (.int .u8)) (.pair BK .unit)))))
abbrev qF:K:=(.st (.pair .bool (.pair (.sl 5 (.int .u8)) (.pair (.sl 5 (.int .u8)) (.pair jv .unit)))))
abbrev p_:Type:=Bool×(List Int)×(List Int)×(dU)×Unit
abbrev BO:K:=(.st (.pair .bool (.pair (.sl 5 (.int .u8)) (.pair (.sl 5 (.int .u8)) (.pair BL .unit)))))
abbrev Q_:K:=(.st (.pair Q9 (.pair (.sl 65 gN) .unit)))
abbrev Y1:K:=(.st (.pair (.int .i64) (.pair (.sl 9 .str) (.pair Q_ .unit))))
abbrev BP:K:=(.st (.pair BM (.pair (.sl 65 gN) .unit)))
abbrev Eb:K:=(.st (.pair BN (.pair (.sl 75 gN) .unit)))
abbrev mY:K:=(.st (.pair qF (.pair (.sl 65 gN) .unit)))
abbrev jd:Type:=(p_)×(List (j5))×Unit
abbrev BQ:K:=(.st (.pair BO (.pair (.sl 75 gN) .unit)))
abbrev Ec:K:=(.st (.pair (.int .i64) (.pair (.sl 9 .str) (.pair BP .unit))))
abbrev ym:K:=(.st (.pair (.int .i64) (.pair (.sl 9 .str) (.pair mY .unit))))
abbrev zL:Type:=Int×(List (List Int))×(jd)×Unit
abbrev sw:fD:=(0,([]:List Int),([]:List Int),([]:List Int),0,0,0,([]:List Int),())
abbrev Na:jd:=((false,([]:List Int),([]:List Int),(0,([]:List cz),()),()),([]:List j5),())
abbrev Ra:uh:=(0,([]:List Int),(0,([]:List cz),()),())
abbrev cB:j5:=(([]:List Int),0,([]:List Int),0,())
abbrev bS:cz:=(([]:List Int),0,0,([]:List dK),())
abbrev bT:dK:=(0,0,0,([]:List Int),())
abbrev oL:oK:=(0,0,0,(0:Nat),())
abbrev zM:dU:=(0,([]:List cz),())
def Vu:t_:={ ty:=[(2,(.int .i64)),(3,(.int .i64)),(4,.bool),(5,(.int .u8)),(6,(.int .u8)),(7,xe),(8,xe),(9,.str),(10,.str),(11,.str),(12,(.int .u64)),(13,w_),(14,w_),(21,(.int .i32)),(22,(.sl 5 (.int .u8))),(23,(.sl 130 vQ)),(24,BL),(25,BL),(26,BO),(27,BO),(28,(.sl 75 gN)),(29,BQ),(30,BQ),(32,(.sl 9 .str)),(33,(.sl 81 gV)),(34,jv),(35,jv),(36,qF),(37,qF),(38,(.sl 65 gN)),(39,mY),(40,mY),(41,ym),(42,ym),(63,(.sl 2 (.int .i64))),(64,gN),(65,gN),(75,gN),(79,(.sl 113 gW)),(80,gV),(81,gV),(112,gW),(113,gW),(128,(.sl 175 gW)),(129,vQ),(130,vQ),(132,(.sl 155 gG)),(135,yl),(136,yl),(154,gG),(155,gG),(168,(.int .u64)),(175,gW),(178,vR),(179,vR),(195,(.int .u32)),(198,(.int .u64)),(208,uf),(209,uf),(220,ug),(221,ug),(239,(.int .u8)),(240,(.int .u8)),(243,(.int .i32)),(244,(.int .i32))],bytes:=[(2,8),(3,8),(4,1),(5,1),(6,1),(7,24),(8,24),(9,16),(10,16),(11,16),(12,8),(13,24),(14,24),(21,4),(22,24),(23,24),(24,32),(25,32),(26,88),(27,88),(28,24),(29,112),(30,112),(32,24),(33,24),(34,32),(35,32),(36,88),(37,88),(38,24),(39,112),(40,112),(41,144),(42,144),(63,24),(64,56),(65,56),(75,56),(79,24),(80,56),(81,56),(112,48),(113,48),(128,24),(129,56),(130,56),(132,24),(135,64),(136,64),(154,112),(155,112),(168,8),(175,48),(178,128),(179,128),(195,4),(198,8),(208,32),(209,32),(220,40),(221,40),(239,1),(240,1),(243,4),(244,4)],ptr:=[15,16,17,53,62,85,107,111,177,182,207,223,242] }
def T:bL:=Vu.tab
theorem aH:y7 prog Vu=true:=by kernel_rfl
theorem mixed:prog.follows .mixedOrders=true:=by kernel_rfl
def DD(n:Nat)(a0:List Int)(a1:Int):Option (Int×Unit):=if decide ((i64.wrap (a1-(a0.length:Int)))<0)=true then some ((-1),())else some (i64.wrap (a1-(a0.length:Int)),())
def adr:List aD:=[.val (.sl 5 (.int .u8)) [],.val (.int .i64) []]
def ar9:List bN:=[.val (.int .i64) [] []]
def KU:Entry:=⟨32,adr,ar9,λn (c:Cont (kin adr))=>DD n c.1 c.2.1⟩
def ahF:Hint:=⟨0,[],[],[],[],[],[],[],[]⟩
theorem QF[Fr][aI.LaidTab prog](n:Nat):aA prog n KU:=aK mixed aH func32 (by kernel_rfl) (hi:=ahF) aJ (by intro n c;kernel_rfl)
def Ho(n:Nat)(a0:dK)(a1:Int):Option (Int×Unit):=(DD n a0.2.2.2.1 a1).bind λr1=>if decide (r1.1<0)=true then some ((-1),())else some (r1.1,())
def adt:List aD:=[.val gW [],.val (.int .i64) []]
def asa:List bN:=[.val (.int .i64) [] []]
def XX:Entry:=⟨138,adt,asa,λn (c:Cont (kin adt))=>Ho n c.1 c.2.1⟩
theorem ajO[Fr][aI.LaidTab prog](n:Nat):aA prog n XX:=aK mixed aH func138 (by kernel_rfl) (hi:=⟨0,[],[],[],[(32,some 8,KU)],[],[],[],[]⟩) (ak (QF n) aJ) (by intro n c;kernel_rfl)
def LB(n:Nat)(a0:List dK)(a1:Int):Option (Int×Unit):=if decide ((i64.wrap (a1-(a0.length:Int)))<0)=true then some ((-1),())else rounds (λL1 (v1:(List dK)×Int×Int×Unit)=>if decide (v1.2.2.1<(v1.1.length:Int))=true then if aF v1.2.2.1 v1.1.length then(Ho n (v1.1.getD v1.2.2.1.toNat bT) v1.2.1).bind λr2=>if decide (r2.1<0)=true then some ((-1),())else L1 (v1.1,r2.1,i64.wrap (v1.2.2.1+1),())else none else some (v1.2.1,())) n (a0,i64.wrap (a1-(a0.length:Int)),0,())
def adu:List aD:=[.val (.sl 175 gW) [],.val (.int .i64) []]
def asb:List bN:=[.val (.int .i64) [] []]
def XY:Entry:=⟨114,adu,asb,λn (c:Cont (kin adu))=>LB n c.1 c.2.1⟩
theorem ajP[Fr][aI.LaidTab prog](n:Nat):aA prog n XY:=aK mixed aH func114 (by kernel_rfl) (hi:=⟨0,[],[(0,[0,1,5],[])],[],[(138,some 23,XX)],[],[],[],[]⟩) (ak (ajO n) aJ) (by intro n c;kernel_rfl)
def Hg(n:Nat)(a0:cz)(a1:Int):Option (Int×Unit):=if decide ((i64.wrap (a1-(a0.1.length:Int)))<0)=true then some ((-1),())else(LB n a0.2.2.2.1 (i64.wrap (a1-(a0.1.length:Int)))).bind λr1=>if decide (r1.1<0)=true then some ((-1),())else some (r1.1,())
def adp:List aD:=[.val vQ [],.val (.int .i64) []]
def ar7:List bN:=[.val (.int .i64) [] []]
def XU:Entry:=⟨90,adp,ar7,λn (c:Cont (kin adp))=>Hg n c.1 c.2.1⟩
theorem ajL[Fr][aI.LaidTab prog](n:Nat):aA prog n XU:=aK mixed aH func90 (by kernel_rfl) (hi:=⟨0,[],[],[],[(114,some 15,XY)],[],[],[],[]⟩) (ak (ajP n) aJ) (by intro n c;kernel_rfl)
def LA(n:Nat)(a0:List cz)(a1:Int):Option (Int×Unit):=if decide ((i64.wrap (a1-(a0.length:Int)))<0)=true then some ((-1),())else rounds (λL1 (v1:(List cz)×Int×Int×Unit)=>if decide (v1.2.2.1<(v1.1.length:Int))=true then if aF v1.2.2.1 v1.1.length then(Hg n (v1.1.getD v1.2.2.1.toNat bS) v1.2.1).bind λr2=>if decide (r2.1<0)=true then some ((-1),())else L1 (v1.1,r2.1,i64.wrap (v1.2.2.1+1),())else none else some (v1.2.1,())) n (a0,i64.wrap (a1-(a0.length:Int)),0,())
def adq:List aD:=[.val (.sl 130 vQ) [],.val (.int .i64) []]
def ar8:List bN:=[.val (.int .i64) [] []]
def XV:Entry:=⟨65,adq,ar8,λn (c:Cont (kin adq))=>LA n c.1 c.2.1⟩
theorem ajM[Fr][aI.LaidTab prog](n:Nat):aA prog n XV:=aK mixed aH func65 (by kernel_rfl) (hi:=⟨0,[],[(0,[0,1,5],[])],[],[(90,some 23,XU)],[],[],[],[]⟩) (ak (ajL n) aJ) (by intro n c;kernel_rfl)
def P5(n:Nat)(a0:dU)(a1:Int):Option (Int×Unit):=(LA n a0.2.1 a1).bind λr1=>if decide (r1.1<0)=true then some ((-1),())else some (r1.1,())
def adx:List aD:=[.val BL [],.val (.int .i64) []]
def asf:List bN:=[.val (.int .i64) [] []]
def X3:Entry:=⟨33,adx,asf,λn (c:Cont (kin adx))=>P5 n c.1 c.2.1⟩
theorem ajS[Fr][aI.LaidTab prog](n:Nat):aA prog n X3:=aK mixed aH func33 (by kernel_rfl) (hi:=⟨0,[],[],[],[(65,some 8,XV)],[],[],[],[]⟩) (ak (ajM n) aJ) (by intro n c;kernel_rfl)
def LC(n:Nat)(a0:p_)(a1:Int):Option (Int×Unit):=(DD n a0.2.1 a1).bind λr1=>if decide (r1.1<0)=true then some ((-1),())else(DD n a0.2.2.1 r1.1).bind λr2=>if decide (r2.1<0)=true then some ((-1),())else(P5 n a0.2.2.2.1 r2.1).bind λr3=>if decide (r3.1<0)=true then some ((-1),())else some (r3.1,())
def ady:List aD:=[.val BO [],.val (.int .i64) []]
def asg:List bN:=[.val (.int .i64) [] []]
def X4:Entry:=⟨13,ady,asg,λn (c:Cont (kin ady))=>LC n c.1 c.2.1⟩
theorem ajT[Fr][aI.LaidTab prog](n:Nat):aA prog n X4:=aK mixed aH func13 (by kernel_rfl) (hi:=⟨0,[],[],[],[(32,some 8,KU),(32,some 14,KU),(33,some 20,X3)],[],[],[],[]⟩) (ak (QF n) (ak (QF n) (ak (ajS n) aJ))) (by intro n c;kernel_rfl)
def PY(n:Nat)(a0:List Int)(a1:Int):Option (Int×Unit):=if decide ((i64.wrap (a1-(a0.length:Int)))<0)=true then some ((-1),())else some (i64.wrap (a1-(a0.length:Int)),())
def ads:List aD:=[.val (.sl 2 (.int .i64)) [],.val (.int .i64) []]
def ar_:List bN:=[.val (.int .i64) [] []]
def XW:Entry:=⟨66,ads,ar_,λn (c:Cont (kin ads))=>PY n c.1 c.2.1⟩
theorem ajN[Fr][aI.LaidTab prog](n:Nat):aA prog n XW:=aK mixed aH func66 (by kernel_rfl) (hi:=ahF) aJ (by intro n c;kernel_rfl)
def Hq(n:Nat)(a0:j5)(a1:Int):Option (Int×Unit):=if decide ((i64.wrap (a1-(a0.1.length:Int)))<0)=true then some ((-1),())else(PY n a0.2.2.1 (i64.wrap (a1-(a0.1.length:Int)))).bind λr1=>if decide (r1.1<0)=true then some ((-1),())else some (r1.1,())
def adv:List aD:=[.val gN [],.val (.int .i64) []]
def asc:List bN:=[.val (.int .i64) [] []]
def XZ:Entry:=⟨34,adv,asc,λn (c:Cont (kin adv))=>Hq n c.1 c.2.1⟩
theorem ajQ[Fr][aI.LaidTab prog](n:Nat):aA prog n XZ:=aK mixed aH func34 (by kernel_rfl) (hi:=⟨0,[],[],[],[(66,some 15,XW)],[],[],[],[]⟩) (ak (ajN n) aJ) (by intro n c;kernel_rfl)
def PZ(n:Nat)(a0:List j5)(a1:Int):Option (Int×Unit):=if decide ((i64.wrap (a1-(a0.length:Int)))<0)=true then some ((-1),())else rounds (λL1 (v1:(List j5)×Int×Int×Unit)=>if decide (v1.2.2.1<(v1.1.length:Int))=true then if aF v1.2.2.1 v1.1.length then(Hq n (v1.1.getD v1.2.2.1.toNat cB) v1.2.1).bind λr2=>if decide (r2.1<0)=true then some ((-1),())else L1 (v1.1,r2.1,i64.wrap (v1.2.2.1+1),())else none else some (v1.2.1,())) n (a0,i64.wrap (a1-(a0.length:Int)),0,())
def adw:List aD:=[.val (.sl 75 gN) [],.val (.int .i64) []]
def ase:List bN:=[.val (.int .i64) [] []]
def X0:Entry:=⟨14,adw,ase,λn (c:Cont (kin adw))=>PZ n c.1 c.2.1⟩
theorem ajR[Fr][aI.LaidTab prog](n:Nat):aA prog n X0:=aK mixed aH func14 (by kernel_rfl) (hi:=⟨0,[],[(0,[0,1,5],[])],[],[(34,some 23,XZ)],[],[],[],[]⟩) (ak (ajQ n) aJ) (by intro n c;kernel_rfl)
def LD(n:Nat)(a0:jd)(a1:Int):Option (Int×Unit):=(LC n a0.1 a1).bind λr1=>if decide (r1.1<0)=true then some ((-1),())else(PZ n a0.2.1 r1.1).bind λr2=>if decide (r2.1<0)=true then some ((-1),())else some (r2.1,())
def adz:List aD:=[.val BQ [],.val (.int .i64) []]
def ash:List bN:=[.val (.int .i64) [] []]
def X5:Entry:=⟨4,adz,ash,λn (c:Cont (kin adz))=>LD n c.1 c.2.1⟩
theorem ajU[Fr][aI.LaidTab prog](n:Nat):aA prog n X5:=aK mixed aH func4 (by kernel_rfl) (hi:=⟨0,[],[],[],[(13,some 8,X4),(14,some 14,X0)],[],[],[],[]⟩) (ak (ajT n) (ak (ajR n) aJ)) (by intro n c;kernel_rfl)
def DF(n:Nat)(a0:List Int):Option ((List Int)×Unit):=if(a0.length:Int)=(a0.length:Int)/\0<=(a0.length:Int)/\(a0.length:Int)*1<=140737488355328 then rounds (λL1 (v1:(List Int)×Int×(List Int)×Unit)=>if decide (v1.2.1<(v1.1.length:Int))=true then if aF v1.2.1 v1.1.length then if aF v1.2.1 v1.2.2.1.length then L1 (v1.1,i64.wrap (v1.2.1+1),v1.2.2.1.set v1.2.1.toNat (v1.1.getD v1.2.1.toNat 0),())else none else none else some (v1.2.2.1,())) n (a0,0,List.replicate (a0.length:Int).toNat (0:Int),())else none
def adC:List aD:=[.val (.sl 5 (.int .u8)) []]
def asl:List bN:=[.own (.sl 5 (.int .u8)) [5] [] []]
def KV:Entry:=⟨42,adC,asl,λn (c:Cont (kin adC))=>DF n c.1⟩
def ahQ:Hint:=⟨0,[],[(0,[0,3,4],[226])],[],[],[],[],[],[]⟩
theorem QG[Fr][aI.LaidTab prog](n:Nat):aA prog n KV:=aK mixed aH func42 (by kernel_rfl) (hi:=ahQ) aJ (by intro n c;kernel_rfl)
def Ht(n:Nat)(a0:dK):Option (dK×Unit):=(DF n a0.2.2.2.1).bind λr1=>some ((a0.1,a0.2.1,a0.2.2.1,r1.1,()),())
def adE:List aD:=[.val gW []]
def aso:List bN:=[.own gW [5] [] []]
def X9:Entry:=⟨144,adE,aso,λn (c:Cont (kin adE))=>Ht n c.1⟩
theorem ajY[Fr][aI.LaidTab prog](n:Nat):aA prog n X9:=aK mixed aH func144 (by kernel_rfl) (hi:=⟨0,[17],[],[],[(42,some 15,KV)],[],[],[],[]⟩) (ak (QG n) aJ) (by intro n c;kernel_rfl)
def LH(n:Nat)(a0:List dK):Option ((List dK)×Unit):=if(a0.length:Int)=(a0.length:Int)/\0<=(a0.length:Int)/\(a0.length:Int)*48<=140737488355328 then rounds (λL1 (v1:(List dK)×Int×(List dK)×Unit)=>if decide (v1.2.1<(v1.1.length:Int))=true then if aF v1.2.1 v1.1.length then(Ht n (v1.1.getD v1.2.1.toNat bT)).bind λr2=>if aF v1.2.1 v1.2.2.1.length then L1 (v1.1,i64.wrap (v1.2.1+1),v1.2.2.1.set v1.2.1.toNat r2.1,())else none else none else some (v1.2.2.1,())) n (a0,0,List.replicate (a0.length:Int).toNat bT,())else none
def adF:List aD:=[.val (.sl 175 gW) []]
def asq:List bN:=[.own (.sl 113 gW) [5,113] [] []]
def X_:Entry:=⟨121,adF,asq,λn (c:Cont (kin adF))=>LH n c.1⟩
theorem ajZ[Fr][aI.LaidTab prog](n:Nat):aA prog n X_:=aK mixed aH func121 (by kernel_rfl) (hi:=⟨0,[],[(0,[0,3,4],[226])],[],[(144,some 20,X9)],[],[],[],[]⟩) (ak (ajY n) aJ) (by intro n c;kernel_rfl)
def Hr(n:Nat)(a0:cz):Option (cz×Unit):=(LH n a0.2.2.2.1).bind λr1=>some ((a0.1,a0.2.1,a0.2.2.1,r1.1,()),())
def adA:List aD:=[.val vQ []]
def asi:List bN:=[.own gV [5,113] [] []]
def X6:Entry:=⟨100,adA,asi,λn (c:Cont (kin adA))=>Hr n c.1⟩
theorem ajV[Fr][aI.LaidTab prog](n:Nat):aA prog n X6:=aK mixed aH func100 (by kernel_rfl) (hi:=⟨0,[17],[],[],[(121,some 15,X_)],[],[],[],[]⟩) (ak (ajZ n) aJ) (by intro n c;kernel_rfl)
def LF(n:Nat)(a0:List cz):Option ((List cz)×Unit):=if(a0.length:Int)=(a0.length:Int)/\0<=(a0.length:Int)/\(a0.length:Int)*56<=140737488355328 then rounds (λL1 (v1:(List cz)×dU)=>if decide (v1.2.1<(v1.1.length:Int))=true then if aF v1.2.1 v1.1.length then(Hr n (v1.1.getD v1.2.1.toNat bS)).bind λr2=>if aF v1.2.1 v1.2.2.1.length then L1 (v1.1,i64.wrap (v1.2.1+1),v1.2.2.1.set v1.2.1.toNat r2.1,())else none else none else some (v1.2.2.1,())) n (a0,0,List.replicate (a0.length:Int).toNat bS,())else none
def adB:List aD:=[.val (.sl 130 vQ) []]
def asj:List bN:=[.own (.sl 81 gV) [5,81,113] [] []]
def X7:Entry:=⟨72,adB,asj,λn (c:Cont (kin adB))=>LF n c.1⟩
theorem ajW[Fr][aI.LaidTab prog](n:Nat):aA prog n X7:=aK mixed aH func72 (by kernel_rfl) (hi:=⟨0,[],[(0,[0,3,4],[226])],[],[(100,some 20,X6)],[],[],[],[]⟩) (ak (ajV n) aJ) (by intro n c;kernel_rfl)
def LK(n:Nat)(a0:dU):Option (dU×Unit):=(LF n a0.2.1).bind λr1=>some ((a0.1,r1.1,()),())
def adI:List aD:=[.val BL []]
def asu:List bN:=[.own jv [5,81,113] [] []]
def Yc:Entry:=⟨43,adI,asu,λn (c:Cont (kin adI))=>LK n c.1⟩
theorem aj2[Fr][aI.LaidTab prog](n:Nat):aA prog n Yc:=aK mixed aH func43 (by kernel_rfl) (hi:=⟨0,[11],[],[],[(72,some 9,X7)],[],[],[],[]⟩) (ak (ajW n) aJ) (by intro n c;kernel_rfl)
def LM(n:Nat)(a0:p_):Option (p_×Unit):=(DF n a0.2.1).bind λr1=>(DF n a0.2.2.1).bind λr2=>(LK n a0.2.2.2.1).bind λr3=>some ((a0.1,r1.1,r2.1,r3.1,()),())
def adJ:List aD:=[.val BO []]
def asv:List bN:=[.own qF [5,81,113] [] []]
def Yd:Entry:=⟨19,adJ,asv,λn (c:Cont (kin adJ))=>LM n c.1⟩
theorem aj3[Fr][aI.LaidTab prog](n:Nat):aA prog n Yd:=aK mixed aH func19 (by kernel_rfl) (hi:=⟨0,[19],[],[],[(42,some 9,KV),(42,some 13,KV),(43,some 17,Yc)],[],[],[],[]⟩) (ak (QG n) (ak (QG n) (ak (aj2 n) aJ))) (by intro n c;kernel_rfl)
def LG(n:Nat)(a0:List Int):Option ((List Int)×Unit):=if(a0.length:Int)=(a0.length:Int)/\0<=(a0.length:Int)/\(a0.length:Int)*8<=140737488355328 then rounds (λL1 (v1:(List Int)×Int×(List Int)×Unit)=>if decide (v1.2.1<(v1.1.length:Int))=true then if aF v1.2.1 v1.1.length then if aF v1.2.1 v1.2.2.1.length then L1 (v1.1,i64.wrap (v1.2.1+1),v1.2.2.1.set v1.2.1.toNat (v1.1.getD v1.2.1.toNat 0),())else none else none else some (v1.2.2.1,())) n (a0,0,List.replicate (a0.length:Int).toNat (0:Int),())else none
def adD:List aD:=[.val (.sl 2 (.int .i64)) []]
def asn:List bN:=[.own (.sl 2 (.int .i64)) [2] [] []]
def X8:Entry:=⟨73,adD,asn,λn (c:Cont (kin adD))=>LG n c.1⟩
theorem ajX[Fr][aI.LaidTab prog](n:Nat):aA prog n X8:=aK mixed aH func73 (by kernel_rfl) (hi:=ahQ) aJ (by intro n c;kernel_rfl)
def LJ(n:Nat)(a0:j5):Option (j5×Unit):=(LG n a0.2.2.1).bind λr1=>some ((a0.1,a0.2.1,r1.1,a0.2.2.2.1,()),())
def adG:List aD:=[.val gN []]
def asr:List bN:=[.own gN [2] [] []]
def Ya:Entry:=⟨44,adG,asr,λn (c:Cont (kin adG))=>LJ n c.1⟩
theorem aj0[Fr][aI.LaidTab prog](n:Nat):aA prog n Ya:=aK mixed aH func44 (by kernel_rfl) (hi:=⟨0,[17],[],[],[(73,some 12,X8)],[],[],[],[]⟩) (ak (ajX n) aJ) (by intro n c;kernel_rfl)
def P6(n:Nat)(a0:List j5):Option ((List j5)×Unit):=if(a0.length:Int)=(a0.length:Int)/\0<=(a0.length:Int)/\(a0.length:Int)*56<=140737488355328 then rounds (λL1 (v1:(List j5)×Int×(List j5)×Unit)=>if decide (v1.2.1<(v1.1.length:Int))=true then if aF v1.2.1 v1.1.length then(LJ n (v1.1.getD v1.2.1.toNat cB)).bind λr2=>if aF v1.2.1 v1.2.2.1.length then L1 (v1.1,i64.wrap (v1.2.1+1),v1.2.2.1.set v1.2.1.toNat r2.1,())else none else none else some (v1.2.2.1,())) n (a0,0,List.replicate (a0.length:Int).toNat cB,())else none
def adH:List aD:=[.val (.sl 75 gN) []]
def ast:List bN:=[.own (.sl 65 gN) [2,65] [] []]
def Yb:Entry:=⟨20,adH,ast,λn (c:Cont (kin adH))=>P6 n c.1⟩
theorem aj1[Fr][aI.LaidTab prog](n:Nat):aA prog n Yb:=aK mixed aH func20 (by kernel_rfl) (hi:=⟨0,[],[(0,[0,3,4],[226])],[],[(44,some 20,Ya)],[],[],[],[]⟩) (ak (aj0 n) aJ) (by intro n c;kernel_rfl)
def Bg(n:Nat)(a0:jd):Option (jd×Unit):=(LM n a0.1).bind λr1=>(P6 n a0.2.1).bind λr2=>some ((r1.1,r2.1,()),())
def adK:List aD:=[.val BQ []]
def asw:List bN:=[.own mY [2,5,65,81,113] [] []]
def Gv:Entry:=⟨6,adK,asw,λn (c:Cont (kin adK))=>Bg n c.1⟩
theorem MK[Fr][aI.LaidTab prog](n:Nat):aA prog n Gv:=aK mixed aH func6 (by kernel_rfl) (hi:=⟨0,[12],[],[],[(19,some 6,Yd),(20,some 10,Yb)],[],[],[],[]⟩) (ak (aj3 n) (ak (aj1 n) aJ)) (by intro n c;kernel_rfl)
def kJ(n:Nat)(a0:Int)(a1:Int)(a2:Int):Option (Bool×Unit):=if decide (a0>=a1)=true then some (decide (a0<=a2),())else some (false,())
def qw:Entry:=⟨36,[.val (.int .i64) [],.val (.int .i64) [],.val (.int .i64) []],[.val .bool [] []],λn c=>kJ n c.1 c.2.1 c.2.2.1⟩
theorem qZ[Fr][aI.LaidTab prog](n:Nat):aA prog n qw:=aK mixed aH func36 (by kernel_rfl) (hi:=ahF) aJ (by intro n c;kernel_rfl)
def zo(n:Nat)(a0:List Int):Option (Bool×Unit):=rounds (λL1 (v1:Ed)=>if decide (v1.2.1<(v1.1.length:Int))=true then if aF v1.2.1 v1.1.length then if decide ((v1.1.getD v1.2.1.toNat 0)<97)=true then some (false,())else if aF v1.2.1 v1.1.length then if decide ((v1.1.getD v1.2.1.toNat 0)>122)=true then some (false,())else L1 (v1.1,i64.wrap (v1.2.1+1),())else none else none else(kJ n (v1.1.length:Int) 1 8).bind λr2=>some (r2.1,())) n (a0,0,())
def Gm:Entry:=⟨98,[.val .str []],[.val .bool [] []],λn c=>zo n c.1⟩
theorem Mx[Fr][aI.LaidTab prog](n:Nat):aA prog n Gm:=aK mixed aH func98 (by kernel_rfl) (hi:=⟨0,[],[(0,[0,3],[])],[],[(36,some 22,qw)],[],[],[],[]⟩) (ak (qZ n) aJ) (by intro n c;kernel_rfl)
def Br(n:Nat)(a0:dK):Option (Int×Unit):=(kJ n a0.1 1 999).bind λr1=>if(!r1.1)=true then some (3,())else(kJ n a0.2.1 0 15).bind λr2=>if(!r2.1)=true then some (3,())else(kJ n a0.2.2.1 0 9999).bind λr3=>if(!r3.1)=true then some (3,())else if decide ((a0.2.2.2.1.length:Int)>400)=true then some (2,())else some (0,())
def Ws:Entry:=⟨139,[.ro gW],[.val (.int .i64) [] []],λn c=>Br n c.1⟩
theorem K_2[Fr][aI.LaidTab prog](n:Nat):aA prog n Ws:=aK mixed aH func139 (by kernel_rfl) (hi:=⟨0,[],[],[],[(36,some 7,qw),(36,some 14,qw),(36,some 22,qw)],[],[],[],[]⟩) (ak (qZ n) (ak (qZ n) (ak (qZ n) aJ))) (by intro n c;kernel_rfl)
def Bo(n:Nat)(a0:cz):Option (Int×Unit):=(zo n a0.1).bind λr1=>if(!r1.1)=true then some (5,())else(kJ n a0.2.1 1 999).bind λr2=>if(!r2.1)=true then some (3,())else(kJ n a0.2.2.1 1 1000).bind λr3=>if(!r3.1)=true then some (3,())else if decide ((a0.2.2.2.1.length:Int)>6)=true then some (2,())else rounds (λL4 (v4:cz×Int×Unit)=>if decide (v4.2.1<(v4.1.2.2.2.1.length:Int))=true then if aF v4.2.1 v4.1.2.2.2.1.length then(Br n (v4.1.2.2.2.1.getD v4.2.1.toNat bT)).bind λr5=>if(!decide (r5.1=0))=true then some (r5.1,())else if decide (v4.2.1>0)=true then if aF v4.2.1 v4.1.2.2.2.1.length then if aF (i64.wrap (v4.2.1-1)) v4.1.2.2.2.1.length then if decide (((v4.1.2.2.2.1.getD v4.2.1.toNat bT).1)<=((v4.1.2.2.2.1.getD (i64.wrap (v4.2.1-1)).toNat bT).1))=true then some (1,())else if aF v4.2.1 v4.1.2.2.2.1.length then if decide (((v4.1.2.2.2.1.getD v4.2.1.toNat bT).1)>=v4.1.2.2.1)=true then some (1,())else L4 (v4.1,i64.wrap (v4.2.1+1),())else none else none else none else if aF v4.2.1 v4.1.2.2.2.1.length then if decide (((v4.1.2.2.2.1.getD v4.2.1.toNat bT).1)>=v4.1.2.2.1)=true then some (1,())else L4 (v4.1,i64.wrap (v4.2.1+1),())else none else none else some (0,())) n (a0,0,())
def Ww:Entry:=⟨115,[.ro gV],[.val (.int .i64) [] []],λn c=>Bo n c.1⟩
theorem K_3[Fr][aI.LaidTab prog](n:Nat):aA prog n Ww:=aK mixed aH func115 (by kernel_rfl) (hi:=⟨0,[],[(0,[0,3],[])],[],[(98,some 9,Gm),(36,some 15,qw),(36,some 22,qw),(139,some 46,Ws)],[],[],[],[]⟩) (ak (Mx n) (ak (qZ n) (ak (qZ n) (ak (K_2 n) aJ)))) (by intro n c;kernel_rfl)
def Bq(n:Nat)(a0:dU):Option (Int×Unit):=(kJ n a0.1 1 1000).bind λr1=>if(!r1.1)=true then some (3,())else if decide ((a0.2.1.length:Int)>3)=true then some (2,())else rounds (λL2 (v2:dU×Int×Unit)=>if decide (v2.2.1<(v2.1.2.1.length:Int))=true then if aF v2.2.1 v2.1.2.1.length then(Bo n (v2.1.2.1.getD v2.2.1.toNat bS)).bind λr3=>if(!decide (r3.1=0))=true then some (r3.1,())else if aF v2.2.1 v2.1.2.1.length then if decide ((((v2.1.2.1.getD v2.2.1.toNat bS).2).1)>=v2.1.1)=true then some (9,())else rounds (λL4 (v4:dU×Int×Int×Unit)=>if decide (v4.2.2.1<v4.2.1)=true then if aF v4.2.2.1 v4.1.2.1.length then if aF v4.2.1 v4.1.2.1.length then if decide (((v4.1.2.1.getD v4.2.2.1.toNat bS).1)=((v4.1.2.1.getD v4.2.1.toNat bS).1))=true then some (6,())else if aF v4.2.2.1 v4.1.2.1.length then if aF v4.2.1 v4.1.2.1.length then if decide ((((v4.1.2.1.getD v4.2.2.1.toNat bS).2).1)=(((v4.1.2.1.getD v4.2.1.toNat bS).2).1))=true then some (6,())else L4 (v4.1,v4.2.1,i64.wrap (v4.2.2.1+1),())else none else none else none else none else L2 (v4.1,i64.wrap (v4.2.1+1),())) n (v2.1,v2.2.1,0,())else none else none else some (0,())) n (a0,0,())
def KG:Entry:=⟨91,[.ro jv],[.val (.int .i64) [] []],λn c=>Bq n c.1⟩
theorem Qr[Fr][aI.LaidTab prog](n:Nat):aA prog n KG:=aK mixed aH func91 (by kernel_rfl) (hi:=⟨0,[],[(0,[0,3],[]),(2,[0,3,5],[])],[],[(36,some 10,qw),(115,some 33,Ww)],[],[],[],[]⟩) (ak (qZ n) (ak (K_3 n) aJ)) (by intro n c;kernel_rfl)
def qy(n:Nat)(a0:zK):Option (Int×zK×Unit):=if decide (a0.2.1>=(a0.1.length:Int))=true then some (0,(a0.1,a0.2.1,true,a0.2.2.2),())else if aF (i64.wrap ((i64.wrap (a0.2.1+1))-1)) a0.1.length then some (i64.wrap (a0.1.getD (i64.wrap ((i64.wrap (a0.2.1+1))-1)).toNat 0),(a0.1,i64.wrap (a0.2.1+1),a0.2.2),())else none
def wQ:Entry:=⟨182,[.rw ug [] [4294967295] []],[.val (.int .i64) [] []],λn c=>qy n c.1⟩
theorem xW[Fr][aI.LaidTab prog](n:Nat):aA prog n wQ:=aK mixed aH func182 (by kernel_rfl) (hi:=ahF) aJ (by intro n c;kernel_rfl)
def zq(n:Nat)(a0:zK)(a1:Int):Option ((List Int)×zK×Unit):=rounds (λL1 (v1:Int×zK×(List Int)×Unit)=>if decide (v1.1>0)=true then if(!v1.2.1.2.2.1)=true then(qy n v1.2.1).bind λr2=>if(v1.2.2.1.length+[u8.wrap r2.1].length)*1<=140737488355328 then L1 (i64.wrap (v1.1-1),r2.2.1,v1.2.2.1++[u8.wrap r2.1],())else none else some (v1.2.2.1,v1.2.1,())else some (v1.2.2.1,v1.2.1,())) n (a1,a0,([]:List Int),())
def KH:Entry:=⟨183,[.rw ug [] [4294967295] [],.val (.int .i64) []],[.own (.sl 5 (.int .u8)) [5] [] []],λn c=>zq n c.1 c.2.1⟩
theorem Qt[Fr][aI.LaidTab prog](n:Nat):aA prog n KH:=aK mixed aH func183 (by kernel_rfl) (hi:=⟨0,[],[(0,[0,1,5],[0,194])],[],[(182,some 20,wQ)],[],[],[],[]⟩) (ak (xW n) aJ) (by intro n c;kernel_rfl)
def wT(n:Nat)(a0:zK):Option (Int×zK×Unit):=(qy n a0).bind λr1=>(qy n r1.2.1).bind λr2=>some (i64.wrap ((i64.wrap (r1.1*256))+r2.1),r2.2.1,())
def KI:Entry:=⟨184,[.rw ug [] [4294967295] []],[.val (.int .i64) [] []],λn c=>wT n c.1⟩
theorem Qu[Fr][aI.LaidTab prog](n:Nat):aA prog n KI:=aK mixed aH func184 (by kernel_rfl) (hi:=⟨0,[],[],[],[(182,some 5,wQ),(182,some 9,wQ)],[],[],[],[]⟩) (ak (xW n) (ak (xW n) aJ)) (by intro n c;kernel_rfl)
def Ms(n:Nat)(a0:List Int):Option (fD×Unit):=(qy n (a0,2,false,())).bind λr1=>(qy n r1.2.1).bind λr2=>(zq n r2.2.1 r2.1).bind λr3=>(qy n r3.2.1).bind λr4=>(zq n r4.2.1 r4.1).bind λr5=>(qy n r5.2.1).bind λr6=>rounds (λL7 (v7:Int×fD×zK×fD×Unit)=>if decide (v7.1>0)=true then if(!v7.2.2.1.2.2.1)=true then(wT n v7.2.2.1).bind λr8=>if(v7.2.2.2.1.2.2.2.1.length+[r8.1].length)*8<=140737488355328 then L7 (i64.wrap (v7.1-1),v7.2.1,r8.2.1,(v7.2.2.2.1.1,v7.2.2.2.1.2.1,v7.2.2.2.1.2.2.1,v7.2.2.2.1.2.2.2.1++[r8.1],v7.2.2.2.1.2.2.2.2),())else none else(qy n v7.2.2.1).bind λr9=>(qy n r9.2.1).bind λo7=>(wT n o7.2.1).bind λlY=>(wT n lY.2.1).bind λmK=>(zq n mK.2.1 mK.1).bind λpQ=>some ((v7.2.2.2.1.1,v7.2.2.2.1.2.1,v7.2.2.2.1.2.2.1,v7.2.2.2.1.2.2.2.1,r9.1,o7.1,lY.1,pQ.1,v7.2.2.2.1.2.2.2.2.2.2.2.2),())else(qy n v7.2.2.1).bind λwI=>(qy n wI.2.1).bind λtq=>(wT n tq.2.1).bind λr16=>(wT n r16.2.1).bind λFR=>(zq n FR.2.1 FR.1).bind λUH=>some ((v7.2.2.2.1.1,v7.2.2.2.1.2.1,v7.2.2.2.1.2.2.1,v7.2.2.2.1.2.2.2.1,wI.1,tq.1,r16.1,UH.1,v7.2.2.2.1.2.2.2.2.2.2.2.2),())) n (r6.1,sw,r6.2.1,(r1.1,r3.1,r5.1,([]:List Int),0,0,0,([]:List Int),()),())
def Xg:Entry:=⟨156,[.val (.sl 5 (.int .u8)) []],[.own gG [2,5] [] []],λn c=>Ms n c.1⟩
theorem K_8[Fr][aI.LaidTab prog](n:Nat):aA prog n Xg:=aK mixed aH func156 (by kernel_rfl) (hi:=⟨0,[30,45],[(0,[2,3,4,5],[66,98,130])],[],[(182,some 9,wQ),(182,some 11,wQ),(183,some 12,KH),(182,some 15,wQ),(183,some 16,KH),(182,some 19,wQ),(184,some 31,KI),(182,some 35,wQ),(182,some 37,wQ),(184,some 39,KI),(184,some 41,KI),(183,some 43,KH)],[],[],[],[]⟩) (ak (xW n) (ak (xW n) (ak (Qt n) (ak (xW n) (ak (Qt n) (ak (xW n) (ak (Qu n) (ak (xW n) (ak (xW n) (ak (Qu n) (ak (Qu n) (ak (Qt n) aJ)))))))))))) (by intro n c;kernel_rfl)
def Bt(n:Nat)(a0:Int):Option (Bool×Unit):=if decide (a0=5)=true then some (true,())else some (decide (a0=6),())
def KN:Entry:=⟨159,[.val (.int .i64) []],[.val .bool [] []],λn c=>Bt n c.1⟩
theorem Qy[Fr][aI.LaidTab prog](n:Nat):aA prog n KN:=aK mixed aH func159 (by kernel_rfl) (hi:=ahF) aJ (by intro n c;kernel_rfl)
def Mo(n:Nat)(a0:fD):Option (Bool×Unit):=(kJ n a0.1 1 7).bind λr1=>if(!r1.1)=true then some (false,())else(Bt n a0.1).bind λr2=>if(!r2.1)=true then if(!decide (a0.2.2.1=([]:List Int)))=true then some (false,())else(Bt n a0.1).bind λr3=>if(!r3.1)=true then if(!decide (a0.1=4))=true then if decide ((a0.2.2.2.1.length:Int)>0)=true then some (false,())else if(!decide (a0.1=4))=true then if(!decide (a0.2.2.2.2.1=0))=true then some (false,())else if(!decide (a0.1=3))=true then if(!decide (a0.2.2.2.2.2.2.1=0))=true then some (false,())else if decide ((a0.2.2.2.2.2.2.2.1.length:Int)>0)=true then some (false,())else if decide (a0.1=3)=true then some (true,())else if decide (a0.1=4)=true then some (true,())else some (decide (a0.2.2.2.2.2.1=0),())else if decide (a0.1=3)=true then some (true,())else if decide (a0.1=4)=true then some (true,())else some (decide (a0.2.2.2.2.2.1=0),())else if(!decide (a0.1=3))=true then if(!decide (a0.2.2.2.2.2.2.1=0))=true then some (false,())else if decide ((a0.2.2.2.2.2.2.2.1.length:Int)>0)=true then some (false,())else if decide (a0.1=3)=true then some (true,())else if decide (a0.1=4)=true then some (true,())else some (decide (a0.2.2.2.2.2.1=0),())else if decide (a0.1=3)=true then some (true,())else if decide (a0.1=4)=true then some (true,())else some (decide (a0.2.2.2.2.2.1=0),())else if(!decide (a0.1=4))=true then if(!decide (a0.2.2.2.2.1=0))=true then some (false,())else if(!decide (a0.1=3))=true then if(!decide (a0.2.2.2.2.2.2.1=0))=true then some (false,())else if decide ((a0.2.2.2.2.2.2.2.1.length:Int)>0)=true then some (false,())else if decide (a0.1=3)=true then some (true,())else if decide (a0.1=4)=true then some (true,())else some (decide (a0.2.2.2.2.2.1=0),())else if decide (a0.1=3)=true then some (true,())else if decide (a0.1=4)=true then some (true,())else some (decide (a0.2.2.2.2.2.1=0),())else if(!decide (a0.1=3))=true then if(!decide (a0.2.2.2.2.2.2.1=0))=true then some (false,())else if decide ((a0.2.2.2.2.2.2.2.1.length:Int)>0)=true then some (false,())else if decide (a0.1=3)=true then some (true,())else if decide (a0.1=4)=true then some (true,())else some (decide (a0.2.2.2.2.2.1=0),())else if decide (a0.1=3)=true then some (true,())else if decide (a0.1=4)=true then some (true,())else some (decide (a0.2.2.2.2.2.1=0),())else if(!decide (a0.1=4))=true then if(!decide (a0.2.2.2.2.1=0))=true then some (false,())else if(!decide (a0.1=3))=true then if(!decide (a0.2.2.2.2.2.2.1=0))=true then some (false,())else if decide ((a0.2.2.2.2.2.2.2.1.length:Int)>0)=true then some (false,())else if decide (a0.1=3)=true then some (true,())else if decide (a0.1=4)=true then some (true,())else some (decide (a0.2.2.2.2.2.1=0),())else if decide (a0.1=3)=true then some (true,())else if decide (a0.1=4)=true then some (true,())else some (decide (a0.2.2.2.2.2.1=0),())else if(!decide (a0.1=3))=true then if(!decide (a0.2.2.2.2.2.2.1=0))=true then some (false,())else if decide ((a0.2.2.2.2.2.2.2.1.length:Int)>0)=true then some (false,())else if decide (a0.1=3)=true then some (true,())else if decide (a0.1=4)=true then some (true,())else some (decide (a0.2.2.2.2.2.1=0),())else if decide (a0.1=3)=true then some (true,())else if decide (a0.1=4)=true then some (true,())else some (decide (a0.2.2.2.2.2.1=0),())else(Bt n a0.1).bind λr4=>if(!r4.1)=true then if(!decide (a0.1=4))=true then if decide ((a0.2.2.2.1.length:Int)>0)=true then some (false,())else if(!decide (a0.1=4))=true then if(!decide (a0.2.2.2.2.1=0))=true then some (false,())else if(!decide (a0.1=3))=true then if(!decide (a0.2.2.2.2.2.2.1=0))=true then some (false,())else if decide ((a0.2.2.2.2.2.2.2.1.length:Int)>0)=true then some (false,())else if decide (a0.1=3)=true then some (true,())else if decide (a0.1=4)=true then some (true,())else some (decide (a0.2.2.2.2.2.1=0),())else if decide (a0.1=3)=true then some (true,())else if decide (a0.1=4)=true then some (true,())else some (decide (a0.2.2.2.2.2.1=0),())else if(!decide (a0.1=3))=true then if(!decide (a0.2.2.2.2.2.2.1=0))=true then some (false,())else if decide ((a0.2.2.2.2.2.2.2.1.length:Int)>0)=true then some (false,())else if decide (a0.1=3)=true then some (true,())else if decide (a0.1=4)=true then some (true,())else some (decide (a0.2.2.2.2.2.1=0),())else if decide (a0.1=3)=true then some (true,())else if decide (a0.1=4)=true then some (true,())else some (decide (a0.2.2.2.2.2.1=0),())else if(!decide (a0.1=4))=true then if(!decide (a0.2.2.2.2.1=0))=true then some (false,())else if(!decide (a0.1=3))=true then if(!decide (a0.2.2.2.2.2.2.1=0))=true then some (false,())else if decide ((a0.2.2.2.2.2.2.2.1.length:Int)>0)=true then some (false,())else if decide (a0.1=3)=true then some (true,())else if decide (a0.1=4)=true then some (true,())else some (decide (a0.2.2.2.2.2.1=0),())else if decide (a0.1=3)=true then some (true,())else if decide (a0.1=4)=true then some (true,())else some (decide (a0.2.2.2.2.2.1=0),())else if(!decide (a0.1=3))=true then if(!decide (a0.2.2.2.2.2.2.1=0))=true then some (false,())else if decide ((a0.2.2.2.2.2.2.2.1.length:Int)>0)=true then some (false,())else if decide (a0.1=3)=true then some (true,())else if decide (a0.1=4)=true then some (true,())else some (decide (a0.2.2.2.2.2.1=0),())else if decide (a0.1=3)=true then some (true,())else if decide (a0.1=4)=true then some (true,())else some (decide (a0.2.2.2.2.2.1=0),())else if(!decide (a0.1=4))=true then if(!decide (a0.2.2.2.2.1=0))=true then some (false,())else if(!decide (a0.1=3))=true then if(!decide (a0.2.2.2.2.2.2.1=0))=true then some (false,())else if decide ((a0.2.2.2.2.2.2.2.1.length:Int)>0)=true then some (false,())else if decide (a0.1=3)=true then some (true,())else if decide (a0.1=4)=true then some (true,())else some (decide (a0.2.2.2.2.2.1=0),())else if decide (a0.1=3)=true then some (true,())else if decide (a0.1=4)=true then some (true,())else some (decide (a0.2.2.2.2.2.1=0),())else if(!decide (a0.1=3))=true then if(!decide (a0.2.2.2.2.2.2.1=0))=true then some (false,())else if decide ((a0.2.2.2.2.2.2.2.1.length:Int)>0)=true then some (false,())else if decide (a0.1=3)=true then some (true,())else if decide (a0.1=4)=true then some (true,())else some (decide (a0.2.2.2.2.2.1=0),())else if decide (a0.1=3)=true then some (true,())else if decide (a0.1=4)=true then some (true,())else some (decide (a0.2.2.2.2.2.1=0),())
def VN:Entry:=⟨158,[.ro gG],[.val .bool [] []],λn c=>Mo n c.1⟩
theorem ah3[Fr][aI.LaidTab prog](n:Nat):aA prog n VN:=aK mixed aH func158 (by kernel_rfl) (hi:=⟨0,[],[],[],[(36,some 7,qw),(159,some 14,KN),(159,some 28,KN)],[],[],[],[]⟩) (ak (qZ n) (ak (Qy n) (ak (Qy n) aJ))) (by intro n c;kernel_rfl)
def DL(n:Nat)(a0:List Int):Option (Bool×Unit):=rounds (λL1 (v1:Ed)=>if decide (v1.2.1<(v1.1.length:Int))=true then if aF v1.2.1 v1.1.length then(kJ n (v1.1.getD v1.2.1.toNat 0) 1 999).bind λr2=>if(!r2.1)=true then some (false,())else if decide (v1.2.1>0)=true then if aF v1.2.1 v1.1.length then if aF (i64.wrap (v1.2.1-1)) v1.1.length then if decide ((v1.1.getD v1.2.1.toNat 0)<=(v1.1.getD (i64.wrap (v1.2.1-1)).toNat 0))=true then some (false,())else L1 (v1.1,i64.wrap (v1.2.1+1),())else none else none else L1 (v1.1,i64.wrap (v1.2.1+1),())else none else some (true,())) n (a0,0,())
def Pm:Entry:=⟨97,[.val (.sl 2 (.int .i64)) []],[.val .bool [] []],λn c=>DL n c.1⟩
theorem Yj[Fr][aI.LaidTab prog](n:Nat):aA prog n Pm:=aK mixed aH func97 (by kernel_rfl) (hi:=⟨0,[],[(0,[0,3],[])],[],[(36,some 14,qw)],[],[],[],[]⟩) (ak (qZ n) aJ) (by intro n c;kernel_rfl)
def HZ(n:Nat)(a0:fD):Option (Int×Unit):=(Mo n a0).bind λr1=>if(!r1.1)=true then some (1,())else(zo n a0.2.1).bind λr2=>if(!r2.1)=true then some (5,())else(Bt n a0.1).bind λr3=>if r3.1=true then(zo n a0.2.2.1).bind λr4=>if(!r4.1)=true then some (5,())else if decide ((a0.2.2.2.1.length:Int)>6)=true then some (2,())else(DL n a0.2.2.2.1).bind λr5=>if(!r5.1)=true then some (3,())else if decide (a0.1=4)=true then(kJ n a0.2.2.2.2.1 1 3).bind λr6=>if(!r6.1)=true then some (3,())else(kJ n a0.2.2.2.2.2.1 0 15).bind λr7=>if(!r7.1)=true then some (3,())else(kJ n a0.2.2.2.2.2.2.1 0 9999).bind λr8=>if(!r8.1)=true then some (3,())else if decide ((a0.2.2.2.2.2.2.2.1.length:Int)>400)=true then some (2,())else some (0,())else(kJ n a0.2.2.2.2.2.1 0 15).bind λr9=>if(!r9.1)=true then some (3,())else(kJ n a0.2.2.2.2.2.2.1 0 9999).bind λo7=>if(!o7.1)=true then some (3,())else if decide ((a0.2.2.2.2.2.2.2.1.length:Int)>400)=true then some (2,())else some (0,())else if decide ((a0.2.2.2.1.length:Int)>6)=true then some (2,())else(DL n a0.2.2.2.1).bind λlY=>if(!lY.1)=true then some (3,())else if decide (a0.1=4)=true then(kJ n a0.2.2.2.2.1 1 3).bind λmK=>if(!mK.1)=true then some (3,())else(kJ n a0.2.2.2.2.2.1 0 15).bind λpQ=>if(!pQ.1)=true then some (3,())else(kJ n a0.2.2.2.2.2.2.1 0 9999).bind λwI=>if(!wI.1)=true then some (3,())else if decide ((a0.2.2.2.2.2.2.2.1.length:Int)>400)=true then some (2,())else some (0,())else(kJ n a0.2.2.2.2.2.1 0 15).bind λtq=>if(!tq.1)=true then some (3,())else(kJ n a0.2.2.2.2.2.2.1 0 9999).bind λr16=>if(!r16.1)=true then some (3,())else if decide ((a0.2.2.2.2.2.2.2.1.length:Int)>400)=true then some (2,())else some (0,())
def Po:Entry:=⟨141,[.ro gG],[.val (.int .i64) [] []],λn c=>HZ n c.1⟩
theorem Yl[Fr][aI.LaidTab prog](n:Nat):aA prog n Po:=aK mixed aH func141 (by kernel_rfl) (hi:=⟨0,[],[],[],[(158,some 4,VN),(98,some 10,Gm),(159,some 17,KN),(98,some 23,Gm),(97,some 37,Pm),(36,some 50,qw),(36,some 59,qw),(36,some 67,qw)],[],[],[],[]⟩) (ak (ah3 n) (ak (Mx n) (ak (Qy n) (ak (Mx n) (ak (Yj n) (ak (qZ n) (ak (qZ n) (ak (qZ n) aJ)))))))) (by intro n c;kernel_rfl)
def Bw(n:Nat)(a0:Int):Option ((List Int)×Unit):=if(256:Int)≠0 then if(256:Int)≠0 then some ([u8.wrap (i64.wrap (a0.tdiv 256)),u8.wrap (a0.tmod 256)],())else none else none
def Dh:Entry:=⟨185,[.val (.int .i64) []],[.own (.sl 5 (.int .u8)) [5] [] []],λn c=>Bw n c.1⟩
theorem Ig[Fr][aI.LaidTab prog](n:Nat):aA prog n Dh:=aK mixed aH func185 (by kernel_rfl) (hi:=ahF) aJ (by intro n c;kernel_rfl)
def Mt(n:Nat)(a0:List Int):Option (Int×Unit):=rounds (λL1 (v1:(List Int)×Int×Int×Unit)=>if decide (v1.2.2.1<(v1.1.length:Int))=true then if aF v1.2.2.1 v1.1.length then if(65521:Int)≠0 then L1 (v1.1,(i64.wrap ((i64.wrap (v1.2.1*31))+(i64.wrap (v1.1.getD v1.2.2.1.toNat 0)))).tmod (65521:Int),i64.wrap (v1.2.2.1+1),())else none else none else some (v1.2.1,())) n (a0,1,0,())
def Wm:Entry:=⟨186,[.val (.sl 5 (.int .u8)) []],[.val (.int .i64) [] []],λn c=>Mt n c.1⟩
theorem ait[Fr][aI.LaidTab prog](n:Nat):aA prog n Wm:=aK mixed aH func186 (by kernel_rfl) (hi:=⟨0,[],[(0,[0,3,4],[])],[],[],[],[],[],[]⟩) aJ (by intro n c;kernel_rfl)
def Mr(n:Nat)(a0:fD):Option ((List Int)×Unit):=if([(0:Int),0,u8.wrap a0.1,u8.wrap (a0.2.1.length:Int)].length+a0.2.1.length)*1<=140737488355328 then if(([(0:Int),0,u8.wrap a0.1,u8.wrap (a0.2.1.length:Int)]++a0.2.1).length+[u8.wrap (a0.2.2.1.length:Int)].length)*1<=140737488355328 then if((([(0:Int),0,u8.wrap a0.1,u8.wrap (a0.2.1.length:Int)]++a0.2.1)++[u8.wrap (a0.2.2.1.length:Int)]).length+a0.2.2.1.length)*1<=140737488355328 then if(((([(0:Int),0,u8.wrap a0.1,u8.wrap (a0.2.1.length:Int)]++a0.2.1)++[u8.wrap (a0.2.2.1.length:Int)])++a0.2.2.1).length+[u8.wrap (a0.2.2.2.1.length:Int)].length)*1<=140737488355328 then rounds (λL1 (v1:fD×Int×(List Int)×Unit)=>if decide (v1.2.1<(v1.1.2.2.2.1.length:Int))=true then if aF v1.2.1 v1.1.2.2.2.1.length then(Bw n (v1.1.2.2.2.1.getD v1.2.1.toNat 0)).bind λr2=>if(v1.2.2.1.length+r2.1.length)*1<=140737488355328 then L1 (v1.1,i64.wrap (v1.2.1+1),v1.2.2.1++r2.1,())else none else none else if(v1.2.2.1.length+[u8.wrap v1.1.2.2.2.2.1,u8.wrap v1.1.2.2.2.2.2.1].length)*1<=140737488355328 then(Bw n v1.1.2.2.2.2.2.2.1).bind λr3=>if((v1.2.2.1++[u8.wrap v1.1.2.2.2.2.1,u8.wrap v1.1.2.2.2.2.2.1]).length+r3.1.length)*1<=140737488355328 then(Bw n (v1.1.2.2.2.2.2.2.2.1.length:Int)).bind λr4=>if(((v1.2.2.1++[u8.wrap v1.1.2.2.2.2.1,u8.wrap v1.1.2.2.2.2.2.1])++r3.1).length+r4.1.length)*1<=140737488355328 then if((((v1.2.2.1++[u8.wrap v1.1.2.2.2.2.1,u8.wrap v1.1.2.2.2.2.2.1])++r3.1)++r4.1).length+v1.1.2.2.2.2.2.2.2.1.length)*1<=140737488355328 then(Bw n (i64.wrap ((((((v1.2.2.1++[u8.wrap v1.1.2.2.2.2.1,u8.wrap v1.1.2.2.2.2.2.1])++r3.1)++r4.1)++v1.1.2.2.2.2.2.2.2.1).length:Int)+2))).bind λr5=>if r5.1.length<=((((v1.2.2.1++[u8.wrap v1.1.2.2.2.2.1,u8.wrap v1.1.2.2.2.2.2.1])++r3.1)++r4.1)++v1.1.2.2.2.2.2.2.2.1).length then(Mt n (r5.1++((((v1.2.2.1++[u8.wrap v1.1.2.2.2.2.1,u8.wrap v1.1.2.2.2.2.2.1])++r3.1)++r4.1)++v1.1.2.2.2.2.2.2.2.1).drop r5.1.length)).bind λr6=>(Bw n r6.1).bind λr7=>if((r5.1++((((v1.2.2.1++[u8.wrap v1.1.2.2.2.2.1,u8.wrap v1.1.2.2.2.2.2.1])++r3.1)++r4.1)++v1.1.2.2.2.2.2.2.2.1).drop r5.1.length).length+r7.1.length)*1<=140737488355328 then some ((r5.1++((((v1.2.2.1++[u8.wrap v1.1.2.2.2.2.1,u8.wrap v1.1.2.2.2.2.2.1])++r3.1)++r4.1)++v1.1.2.2.2.2.2.2.2.1).drop r5.1.length)++r7.1,())else none else none else none else none else none else none) n (a0,0,((([(0:Int),0,u8.wrap a0.1,u8.wrap (a0.2.1.length:Int)]++a0.2.1)++[u8.wrap (a0.2.2.1.length:Int)])++a0.2.2.1)++[u8.wrap (a0.2.2.2.1.length:Int)],())else none else none else none else none
def Wn:Entry:=⟨157,[.ro gG],[.own (.sl 5 (.int .u8)) [5] [] []],λn c=>Mr n c.1⟩
theorem aiu[Fr][aI.LaidTab prog](n:Nat):aA prog n Wn:=aK mixed aH func157 (by kernel_rfl) (hi:=⟨0,[],[(0,[0,3,4],[514])],[],[(185,some 64,Dh),(185,some 83,Dh),(185,some 91,Dh),(185,some 102,Dh),(186,some 106,Wm),(185,some 107,Dh)],[],[],[103],[]⟩) (ak (Ig n) (ak (Ig n) (ak (Ig n) (ak (Ig n) (ak (ait n) (ak (Ig n) aJ)))))) (by intro n c;kernel_rfl)
def L6(n:Nat)(a0:List Int):Option (akp×Unit):=if decide ((a0.length:Int)<2)=true then some ((5,0,sw,()),())else if aF 0 a0.length then if aF 1 a0.length then if decide ((i64.wrap ((i64.wrap ((i64.wrap (a0.getD (0:Int).toNat 0))*256))+(i64.wrap (a0.getD (1:Int).toNat 0))))<2)=true then some ((5,0,sw,()),())else if decide ((i64.wrap ((i64.wrap ((i64.wrap (a0.getD (0:Int).toNat 0))*256))+(i64.wrap (a0.getD (1:Int).toNat 0))))>(a0.length:Int))=true then some ((5,0,sw,()),())else if 0<=(i64.wrap ((i64.wrap ((i64.wrap (a0.getD (0:Int).toNat 0))*256))+(i64.wrap (a0.getD (1:Int).toNat 0))))/\(i64.wrap ((i64.wrap ((i64.wrap (a0.getD (0:Int).toNat 0))*256))+(i64.wrap (a0.getD (1:Int).toNat 0))))<=(a0.length:Int)then(Ms n (a0.take (i64.wrap ((i64.wrap ((i64.wrap (a0.getD (0:Int).toNat 0))*256))+(i64.wrap (a0.getD (1:Int).toNat 0)))).toNat)).bind λr1=>(HZ n r1.1).bind λr2=>if(!decide (r2.1=0))=true then some ((5,0,sw,()),())else(Mr n r1.1).bind λr3=>if 0<=(i64.wrap ((i64.wrap ((i64.wrap (a0.getD (0:Int).toNat 0))*256))+(i64.wrap (a0.getD (1:Int).toNat 0))))/\(i64.wrap ((i64.wrap ((i64.wrap (a0.getD (0:Int).toNat 0))*256))+(i64.wrap (a0.getD (1:Int).toNat 0))))<=(a0.length:Int)then if(!decide (r3.1=(a0.take (i64.wrap ((i64.wrap ((i64.wrap (a0.getD (0:Int).toNat 0))*256))+(i64.wrap (a0.getD (1:Int).toNat 0)))).toNat)))=true then some ((5,0,sw,()),())else some ((0,i64.wrap ((i64.wrap ((i64.wrap (a0.getD (0:Int).toNat 0))*256))+(i64.wrap (a0.getD (1:Int).toNat 0))),r1.1,()),())else none else none else none else none
def Wo:Entry:=⟨140,[.val (.sl 5 (.int .u8)) []],[.own vR [2,5] [] []],λn c=>L6 n c.1⟩
theorem aiv[Fr][aI.LaidTab prog](n:Nat):aA prog n Wo:=aK mixed aH func140 (by kernel_rfl) (hi:=⟨0,[45],[],[],[(156,some 31,Xg),(141,some 32,Po),(157,some 35,Wn)],[],[],[],[]⟩) (ak (K_8 n) (ak (Yl n) (ak (aiu n) aJ))) (by intro n c;kernel_rfl)
def H6(n:Nat)(a0:List Int):Option ((List fD)×Int×Unit):=rounds (λL1 (v1:(List Int)×Int×(List fD)×Unit)=>if decide (v1.2.1<(v1.1.length:Int))=true then if 0<=v1.2.1/\v1.2.1<=(v1.1.length:Int)then(L6 n (v1.1.drop v1.2.1.toNat)).bind λr2=>if(!decide (r2.1.1=0))=true then some (v1.2.2.1,v1.2.1,())else if(v1.2.2.1.length+[r2.1.2.2.1].length)*112<=140737488355328 then L1 (v1.1,i64.wrap (v1.2.1+r2.1.2.1),v1.2.2.1++[r2.1.2.2.1],())else none else none else some (v1.2.2.1,v1.2.1,())) n (a0,0,([]:List fD),())
def Pt:Entry:=⟨116,[.val (.sl 5 (.int .u8)) []],[.own (.sl 155 gG) [2,5,155] [] [],.val (.int .i64) [] []],λn c=>H6 n c.1⟩
theorem Yo[Fr][aI.LaidTab prog](n:Nat):aA prog n Pt:=aK mixed aH func116 (by kernel_rfl) (hi:=⟨0,[21],[(0,[0,4,5],[226])],[],[(140,some 15,Wo)],[],[],[],[]⟩) (ak (aiv n) aJ) (by intro n c;kernel_rfl)
def Ma(n:Nat)(a0:p_):Option ((List fD)×Bool×Unit):=(H6 n a0.2.1).bind λr1=>(H6 n a0.2.2.1).bind λr2=>if(r1.1.length+r2.1.length)*112<=140737488355328 then if decide (r1.2.1=(a0.2.1.length:Int))=true then some (r1.1++r2.1,decide (r2.2.1=(a0.2.2.1.length:Int)),())else some (r1.1++r2.1,false,())else none
def Wp:Entry:=⟨92,[.ro qF],[.own (.sl 155 gG) [2,5,155] [] [],.val .bool [] []],λn c=>Ma n c.1⟩
theorem aiw[Fr][aI.LaidTab prog](n:Nat):aA prog n Wp:=aK mixed aH func92 (by kernel_rfl) (hi:=⟨0,[],[],[],[(116,some 13,Pt),(116,some 21,Pt)],[],[],[],[]⟩) (ak (Yo n) (ak (Yo n) aJ)) (by intro n c;kernel_rfl)
def Qa(n:Nat)  : Option (dU×Unit):=some ((1,([]:List cz),()),())
def Wq:Entry:=⟨94,[],[.own jv [5,81,113] [] []],λn c=>Qa n⟩
theorem aix[Fr][aI.LaidTab prog](n:Nat):aA prog n Wq:=aK mixed aH func94 (by kernel_rfl) (hi:=ahF) aJ (by intro n c;kernel_rfl)
def rX(n:Nat)(a0:Int):Option (uh×Unit):=some ((a0,([]:List Int),zM,()),())
def vF:Entry:=⟨117,[.val (.int .i64) []],[.own yl [2,5,81,113] [] []],λn c=>rX n c.1⟩
theorem wV[Fr][aI.LaidTab prog](n:Nat):aA prog n vF:=aK mixed aH func117 (by kernel_rfl) (hi:=ahF) aJ (by intro n c;kernel_rfl)
def Bl(n:Nat)(a0:List Int):Option ((List Int)×Unit):=if(([]:List Int).length+a0.length)*1<=140737488355328 then some (([]:List Int)++a0,())else none
def Gn:Entry:=⟨69,[.val (.sl 5 (.int .u8)) []],[.own (.sl 5 (.int .u8)) [5] [] []],λn c=>Bl n c.1⟩
theorem MB[Fr][aI.LaidTab prog](n:Nat):aA prog n Gn:=aK mixed aH func69 (by kernel_rfl) (hi:=ahF) aJ (by intro n c;kernel_rfl)
def Mf(n:Nat)(a0:List dK):Option ((List dK)×Unit):=rounds (λL1 (v1:(List dK)×Int×(List dK)×Unit)=>if decide (v1.2.1<(v1.1.length:Int))=true then if aF v1.2.1 v1.1.length then(Bl n (((((v1.1.getD v1.2.1.toNat bT).2).2).2).1)).bind λr2=>if(v1.2.2.1.length+[((v1.1.getD v1.2.1.toNat bT).1,((v1.1.getD v1.2.1.toNat bT).2).1,(((v1.1.getD v1.2.1.toNat bT).2).2).1,r2.1,((((v1.1.getD v1.2.1.toNat bT).2).2).2).2)].length)*48<=140737488355328 then L1 (v1.1,i64.wrap (v1.2.1+1),v1.2.2.1++[((v1.1.getD v1.2.1.toNat bT).1,((v1.1.getD v1.2.1.toNat bT).2).1,(((v1.1.getD v1.2.1.toNat bT).2).2).1,r2.1,((((v1.1.getD v1.2.1.toNat bT).2).2).2).2)],())else none else none else some (v1.2.2.1,())) n (a0,0,([]:List dK),())
def Wt:Entry:=⟨120,[.val (.sl 113 gW) []],[.own (.sl 113 gW) [5,113] [] []],λn c=>Mf n c.1⟩
theorem aiz[Fr][aI.LaidTab prog](n:Nat):aA prog n Wt:=aK mixed aH func120 (by kernel_rfl) (hi:=⟨0,[22],[(0,[0,3,4],[194])],[],[(69,some 19,Gn)],[],[],[],[]⟩) (ak (MB n) aJ) (by intro n c;kernel_rfl)
def DK(n:Nat)(a0:cz):Option (cz×Unit):=(Mf n a0.2.2.2.1).bind λr1=>some ((a0.1,a0.2.1,a0.2.2.1,r1.1,a0.2.2.2.2),())
def Pv:Entry:=⟨99,[.val gV []],[.own gV [5,113] [] []],λn c=>DK n c.1⟩
theorem Yp[Fr][aI.LaidTab prog](n:Nat):aA prog n Pv:=aK mixed aH func99 (by kernel_rfl) (hi:=⟨0,[7],[],[],[(120,some 5,Wt)],[],[],[],[]⟩) (ak (aiz n) aJ) (by intro n c;kernel_rfl)
def Bp(n:Nat)(a0:dU):Option (dU×Unit):=rounds (λL1 (v1:Int×dU×dU×dU×Unit)=>if decide (v1.1<(v1.2.1.2.1.length:Int))=true then if aF v1.1 v1.2.1.2.1.length then(DK n (v1.2.1.2.1.getD v1.1.toNat bS)).bind λr2=>if(v1.2.2.2.1.2.1.length+[r2.1].length)*56<=140737488355328 then L1 (i64.wrap (v1.1+1),v1.2.1,v1.2.2.1,(v1.2.2.2.1.1,v1.2.2.2.1.2.1++[r2.1],v1.2.2.2.1.2.2),())else none else none else some (v1.2.2.2.1,())) n (0,a0,zM,(a0.1,([]:List cz),()),())
def Gp:Entry:=⟨70,[.val jv []],[.own jv [5,81,113] [] []],λn c=>Bp n c.1⟩
theorem MC[Fr][aI.LaidTab prog](n:Nat):aA prog n Gp:=aK mixed aH func70 (by kernel_rfl) (hi:=⟨0,[16,26],[(0,[1,2,3,4],[34,66,98])],[],[(99,some 22,Pv)],[],[],[],[]⟩) (ak (Yp n) aJ) (by intro n c;kernel_rfl)
def Bn(n:Nat)(a0:dU)(a1:List Int):Option (Int×Unit):=rounds (λL1 (v1:dU×Ed)=>if decide (v1.2.2.1<(v1.1.2.1.length:Int))=true then if aF v1.2.2.1 v1.1.2.1.length then if decide (((v1.1.2.1.getD v1.2.2.1.toNat bS).1)=v1.2.1)=true then some (v1.2.2.1,())else L1 (v1.1,v1.2.1,i64.wrap (v1.2.2.1+1),())else none else some ((-1),())) n (a0,a1,0,())
def Gq:Entry:=⟨71,[.ro jv,.val .str []],[.val (.int .i64) [] []],λn c=>Bn n c.1 c.2.1⟩
def afP:Hint:=⟨0,[],[(0,[0,1,5],[])],[],[],[],[],[],[]⟩
theorem ME[Fr][aI.LaidTab prog](n:Nat):aA prog n Gq:=aK mixed aH func71 (by kernel_rfl) (hi:=afP) aJ (by intro n c;kernel_rfl)
def Mq(n:Nat)(a0:dU)(a1:fD):Option (uh×Unit):=(Bn n a0 a1.2.1).bind λr1=>if decide (r1.1>=0)=true then(rX n 6).bind λr2=>some (r2.1,())else if decide ((a0.2.1.length:Int)>=3)=true then(rX n 10).bind λr3=>some (r3.1,())else if decide (a0.1>=1000)=true then(rX n 10).bind λr4=>some (r4.1,())else(Bp n a0).bind λr5=>if(r5.1.2.1.length+[(a1.2.1,a0.1,1,([]:List dK),())].length)*56<=140737488355328 then some ((0,([]:List Int),(i64.wrap (a0.1+1),r5.1.2.1++[(a1.2.1,a0.1,1,([]:List dK),())],r5.1.2.2),()),())else none
def Wu:Entry:=⟨160,[.val jv [],.ro gG],[.own yl [2,5,81,113] [] []],λn c=>Mq n c.1 c.2.1⟩
theorem aiA[Fr][aI.LaidTab prog](n:Nat):aA prog n Wu:=aK mixed aH func160 (by kernel_rfl) (hi:=⟨0,[26,41],[],[],[(71,some 10,Gq),(117,some 12,vF),(117,some 22,vF),(70,some 24,Gp)],[],[],[],[]⟩) (ak (ME n) (ak (wV n) (ak (wV n) (ak (MC n) aJ)))) (by intro n c;kernel_rfl)
def Bv(n:Nat)(a0:cz)(a1:dK):Option (Int×cz×Unit):=(Bl n a1.2.2.2.1).bind λr1=>if(a0.2.2.2.1.length+[(a0.2.2.1,a1.2.1,a1.2.2.1,r1.1,a1.2.2.2.2)].length)*48<=140737488355328 then some (a0.2.2.1,(a0.1,a0.2.1,i64.wrap (a0.2.2.1+1),a0.2.2.2.1++[(a0.2.2.1,a1.2.1,a1.2.2.1,r1.1,a1.2.2.2.2)],a0.2.2.2.2),())else none
def Pw:Entry:=⟨161,[.rw gV [5,113] [5,113,4294967295] [5,113],.val gW []],[.val (.int .i64) [] []],λn c=>Bv n c.1 c.2.1⟩
theorem Yq[Fr][aI.LaidTab prog](n:Nat):aA prog n Pw:=aK mixed aH func161 (by kernel_rfl) (hi:=⟨0,[18,19],[],[],[(69,some 12,Gn)],[],[],[],[]⟩) (ak (MB n) aJ) (by intro n c;kernel_rfl)
def Bu(n:Nat)(a0:List Int)(a1:Int):Option (Bool×Unit):=rounds (λL1 (v1:(List Int)×Int×Int×Unit)=>if decide (v1.2.2.1<(v1.1.length:Int))=true then if aF v1.2.2.1 v1.1.length then if decide ((v1.1.getD v1.2.2.1.toNat 0)=v1.2.1)=true then some (true,())else L1 (v1.1,v1.2.1,i64.wrap (v1.2.2.1+1),())else none else some (false,())) n (a0,a1,0,())
def AZ:Entry:=⟨187,[.val (.sl 2 (.int .i64)) [],.val (.int .i64) []],[.val .bool [] []],λn c=>Bu n c.1 c.2.1⟩
def H9:Hint:=⟨0,[],[(0,[0,1,5],[])],[],[],[],[],[],[]⟩
theorem Pg:Df T H9 Tryz.f187 AZ:=by intro n c;kernel_rfl
theorem Qq[Fr][aI.LaidTab prog](n:Nat):aA prog n AZ:=aK mixed aH func187 (by kernel_rfl) (hi:=H9) aJ Pg
def Mm(n:Nat)(a0:Int)(a1:Int)(a2:Int):Option (Int×Unit):=if decide (a1=2)=true then some (i64.wrap ((BitVec.ofInt (IntKind.bits .i64) a0 ||| BitVec.ofInt (IntKind.bits .i64) a2).toNat),())else if decide (a1=3)=true then some (i64.wrap ((BitVec.ofInt (IntKind.bits .i64) a0 &&& ~~~ BitVec.ofInt (IntKind.bits .i64) a2).toNat),())else some (a2,())
def Wv:Entry:=⟨188,[.val (.int .i64) [],.val (.int .i64) [],.val (.int .i64) []],[.val (.int .i64) [] []],λn c=>Mm n c.1 c.2.1 c.2.2.1⟩
theorem aiB[Fr][aI.LaidTab prog](n:Nat):aA prog n Wv:=aK mixed aH func188 (by kernel_rfl) (hi:=ahF) aJ (by intro n c;kernel_rfl)
def Ml(n:Nat)(a0:cz)(a1:fD):Option ((List Int)×cz×Unit):=rounds (λL1 (v1:fD×Int×cz×(List Int)×Unit)=>if decide (v1.2.1<(v1.2.2.1.2.2.2.1.length:Int))=true then if aF v1.2.1 v1.2.2.1.2.2.2.1.length then(Bu n v1.1.2.2.2.1 ((v1.2.2.1.2.2.2.1.getD v1.2.1.toNat bT).1)).bind λr2=>if r2.1=true then(Mm n (((v1.2.2.1.2.2.2.1.getD v1.2.1.toNat bT).2).1) v1.1.2.2.2.2.1 v1.1.2.2.2.2.2.1).bind λr3=>if(v1.2.2.2.1.length+[((bY v1.2.2.1.2.2.2.1 v1.2.1.toNat bT λz1=>(z1.1,r3.1,z1.2.2)).getD v1.2.1.toNat bT).1].length)*8<=140737488355328 then L1 (v1.1,i64.wrap (v1.2.1+1),(v1.2.2.1.1,v1.2.2.1.2.1,v1.2.2.1.2.2.1,(bY v1.2.2.1.2.2.2.1 v1.2.1.toNat bT λz1=>(z1.1,r3.1,z1.2.2)),v1.2.2.1.2.2.2.2),v1.2.2.2.1++[((bY v1.2.2.1.2.2.2.1 v1.2.1.toNat bT λz1=>(z1.1,r3.1,z1.2.2)).getD v1.2.1.toNat bT).1],())else none else L1 (v1.1,i64.wrap (v1.2.1+1),v1.2.2.1,v1.2.2.2.1,())else none else some (v1.2.2.2.1,v1.2.2.1,())) n (a1,0,a0,([]:List Int),())
def Wx:Entry:=⟨162,[.rw gV [5,113] [113] [],.ro gG],[.own (.sl 2 (.int .i64)) [2] [] []],λn c=>Ml n c.1 c.2.1⟩
theorem aiD[Fr][aI.LaidTab prog](n:Nat):aA prog n Wx:=aK mixed aH func162 (by kernel_rfl) (hi:=⟨0,[21],[(0,[0,1,5,6],[0,258])],[],[(187,some 32,AZ),(188,some 46,Wv)],[],[],[],[]⟩) (ak (Qq n) (ak (aiB n) aJ)) (by intro n c;kernel_rfl)
namespace Ib
def wK:t_:={ ty:=[(2,(.int .i64)),(3,(.int .i64)),(4,.bool),(5,(.int .u8)),(6,(.int .u8)),(7,xe),(8,xe),(9,.str),(10,.str),(11,.str),(12,(.int .u64)),(13,w_),(14,w_),(21,(.int .i32)),(22,(.sl 5 (.int .u8))),(23,(.sl 130 xg)),(24,BK),(25,BK),(26,BN),(27,BN),(28,(.sl 75 gN)),(29,Eb),(30,Eb),(32,(.sl 9 .str)),(33,(.sl 81 uS)),(34,zJ),(35,zJ),(36,BM),(37,BM),(38,(.sl 65 gN)),(39,BP),(40,BP),(41,Ec),(42,Ec),(63,(.sl 2 (.int .i64))),(64,gN),(65,gN),(75,gN),(79,(.sl 113 nH)),(80,uS),(81,uS),(112,nH),(113,nH),(128,(.sl 175 nH)),(129,xg),(130,xg),(132,(.sl 155 gG)),(135,Ea),(136,Ea),(154,gG),(155,gG),(168,(.int .u64)),(175,nH),(178,vR),(179,vR),(195,(.int .u32)),(198,(.int .u64)),(208,uf),(209,uf),(220,ug),(221,ug),(239,(.int .u8)),(240,(.int .u8)),(243,(.int .i32)),(244,(.int .i32))],bytes:=[(2,8),(3,8),(4,1),(5,1),(6,1),(7,24),(8,24),(9,16),(10,16),(11,16),(12,8),(13,24),(14,24),(21,4),(22,24),(23,24),(24,32),(25,32),(26,88),(27,88),(28,24),(29,112),(30,112),(32,24),(33,24),(34,32),(35,32),(36,88),(37,88),(38,24),(39,112),(40,112),(41,144),(42,144),(63,24),(64,56),(65,56),(75,56),(79,24),(80,56),(81,56),(112,48),(113,48),(128,24),(129,56),(130,56),(132,24),(135,64),(136,64),(154,112),(155,112),(168,8),(175,48),(178,128),(179,128),(195,4),(198,8),(208,32),(209,32),(220,40),(221,40),(239,1),(240,1),(243,4),(244,4)],ptr:=[15,16,17,53,62,85,107,111,177,182,207,223,242],ids:=true }
def T:bL:=wK.tab
theorem aH:y7 prog wK=true:=by kernel_rfl
theorem mixed:prog.follows .mixedOrders=true:=by kernel_rfl
def Bu(n:Nat)(a0:List Int)(a1:Int):Option (Bool×Unit):=rounds (λL1 (v1:(List Int)×Int×Int×Unit)=>if decide (v1.2.2.1<(v1.1.length:Int))=true then if aF v1.2.2.1 v1.1.length then if decide ((v1.1.getD v1.2.2.1.toNat 0)=v1.2.1)=true then some (true,())else L1 (v1.1,v1.2.1,i64.wrap (v1.2.2.1+1),())else none else some (false,())) n (a0,a1,0,())
def AZ:Entry:=⟨187,[.val (.sl 2 (.int .i64)) [],.val (.int .i64) []],[.val .bool [] []],λn c=>Bu n c.1 c.2.1⟩
def H9:Hint:=⟨0,[],[(0,[0,1,5],[])],[],[],[],[],[],[]⟩
theorem Pg:Df T H9 Tryz.f187 AZ:=by intro n c;kernel_rfl
theorem Qq[Fr](n:Nat):aA prog n AZ:=aK mixed aH func187 (by kernel_rfl) (hi:=H9) aJ Pg
def wS(n:Nat)(a0:Ee)(a1:List Int)(a2:Int):Option ((List oK)×Ee×Unit):=rounds (λL1 (v1:(List Int)×Int×Int×Ee×(List oK)×(List oK)×Unit)=>if decide (v1.2.2.1<(v1.2.2.2.1.2.2.2.1.length:Int))=true then if aF v1.2.2.1 v1.2.2.2.1.2.2.2.1.length then(Bu n v1.1 ((v1.2.2.2.1.2.2.2.1.getD v1.2.2.1.toNat oL).1)).bind λr2=>if r2.1=true then if(v1.2.2.2.2.1.length+[v1.2.2.2.1.2.2.2.1.getD v1.2.2.1.toNat oL].length)*48<=140737488355328 then L1 (v1.1,v1.2.1,i64.wrap (v1.2.2.1+1),v1.2.2.2.1,v1.2.2.2.2.1++[v1.2.2.2.1.2.2.2.1.getD v1.2.2.1.toNat oL],v1.2.2.2.2.2.1,())else none else if(!decide ((i64.wrap ((BitVec.ofInt (IntKind.bits .i64) (((v1.2.2.2.1.2.2.2.1.getD v1.2.2.1.toNat oL).2).1) &&& BitVec.ofInt (IntKind.bits .i64) v1.2.1).toNat))=0))=true then if(v1.2.2.2.2.1.length+[v1.2.2.2.1.2.2.2.1.getD v1.2.2.1.toNat oL].length)*48<=140737488355328 then L1 (v1.1,v1.2.1,i64.wrap (v1.2.2.1+1),v1.2.2.2.1,v1.2.2.2.2.1++[v1.2.2.2.1.2.2.2.1.getD v1.2.2.1.toNat oL],v1.2.2.2.2.2.1,())else none else if(v1.2.2.2.2.2.1.length+[v1.2.2.2.1.2.2.2.1.getD v1.2.2.1.toNat oL].length)*48<=140737488355328 then L1 (v1.1,v1.2.1,i64.wrap (v1.2.2.1+1),v1.2.2.2.1,v1.2.2.2.2.1,v1.2.2.2.2.2.1++[v1.2.2.2.1.2.2.2.1.getD v1.2.2.1.toNat oL],())else none else none else some (v1.2.2.2.2.1,(v1.2.2.2.1.1,v1.2.2.2.1.2.1,v1.2.2.2.1.2.2.1,v1.2.2.2.2.2.1,v1.2.2.2.1.2.2.2.2),())) n (a1,a2,0,a0,([]:List oK),([]:List oK),())
def Gr:Entry:=⟨163,[.rw uS [5,113] [4294967295] [113],.val (.sl 2 (.int .i64)) [],.val (.int .i64) []],[.own (.sl 113 nH) [113] [] []],λn c=>wS n c.1 c.2.1 c.2.2.1⟩
theorem MF[Fr](n:Nat):aA prog n Gr:=aK mixed aH func163 (by kernel_rfl) (hi:=⟨0,[],[(0,[0,1,2,7,8,9],[0,354,386])],[],[(187,some 32,AZ)],[],[],[],[]⟩) (ak (Qq n) aJ) (by intro n c;kernel_rfl)
end Ib
def wS(n:Nat)(a0:List Int×Int×Int×List r_.oH×Unit)(a1:List Int)(a2:Int):Option (List r_.oH×(List Int×Int×Int×List r_.oH×Unit)×Unit):=pq.zu pq.pick n a0 a1 a2
def acN:List aD:=[.rw gV [5,113] [4294967295,5] [113,4294967294],.val (.sl 2 (.int .i64)) [],.val (.int .i64) []]
def arv:List bN:=[.own (.sl 113 gW) [5,113] [] []]
def Gr:Entry:=⟨163,acN,arv,λn (c:Cont (kin acN))=>wS n c.1 c.2.1 c.2.2.1⟩
theorem ah0{n:Nat}{nm:List Int}{w h:Int}{xs:List oK}{us:List Int}{fl:Int}(hc:xs.length*48<=140737488355328)(hn:xs.length<n)(hb:us.length<=1048576)(hu:us.length<n) :
  Ib.wS n (nm,w,h,xs,()) us fl=some (xs.filter (λx=>pq.pick us fl x.1 x.2.1),(nm,w,h,xs.filter (λx=>!pq.pick us fl x.1 x.2.1),()),()):=
 pq.atc (has:=Ib.Bu n) (λ_ _=>rfl) (λx=>pq.aaD (λ_ _=>rfl) hb hu) hc hn
theorem MF[Fr][aI.LaidTab prog](n:Nat):aA prog n Gr:=pq.as_ (p:=pq.pick) (e:=5) (m:=113) (i:=2) (ow:=[113]) (FI:=λn c=>Ib.wS n c.1 c.2.1 c.2.2.1) rfl (λfr=>Ib.MF n) (λ_ _ _ _ _ _ hc hn hb hu=>ah0 hc hn hb hu)
def Mk(n:Nat)(a0:dU)(a1:Int)(a2:fD):Option ((List Int)×Int×dU×Unit):=(Bn n a0 a2.2.2.1).bind λr1=>if decide (r1.1<0)=true then some (([]:List Int),4,a0,())else if decide (a2.1=6)=true then if decide (r1.1=a1)=true then some (([]:List Int),9,a0,())else if aF a1 a0.2.1.length then(DK n (a0.2.1.getD a1.toNat bS)).bind λr2=>(wS n r2.1 a2.2.2.2.1 0).bind λr3=>if aF r1.1 a0.2.1.length then if decide ((i64.wrap (((((((a0.2.1.getD r1.1.toNat bS).2).2).2).1).length:Int)+(r3.1.length:Int)))>6)=true then some (([]:List Int),10,a0,())else if decide ((i64.wrap (((((a0.2.1.getD r1.1.toNat bS).2).2).1)+(r3.1.length:Int)))>1000)=true then some (([]:List Int),10,a0,())else rounds (λL4 (v4:Int×fD×Int×Int×dU×cz×(List dK)×(List Int)×Unit)=>if decide (v4.2.2.2.1<(v4.2.2.2.2.2.2.1.length:Int))=true then if aF v4.2.2.2.1 v4.2.2.2.2.2.2.1.length then(Bv n (v4.2.2.2.2.1.2.1.getD v4.2.2.1.toNat bS) (v4.2.2.2.2.2.2.1.getD v4.2.2.2.1.toNat bT)).bind λr5=>if(v4.2.2.2.2.2.2.2.1.length+[r5.1].length)*8<=140737488355328 then L4 (v4.1,v4.2.1,v4.2.2.1,i64.wrap (v4.2.2.2.1+1),(v4.2.2.2.2.1.1,v4.2.2.2.2.1.2.1.set v4.2.2.1.toNat r5.2.1,v4.2.2.2.2.1.2.2),v4.2.2.2.2.2.1,v4.2.2.2.2.2.2.1,v4.2.2.2.2.2.2.2.1++[r5.1],())else none else none else if decide (v4.2.1.1=6)=true then if aF v4.1 v4.2.2.2.2.1.2.1.length then some (v4.2.2.2.2.2.2.2.1,0,(v4.2.2.2.2.1.1,v4.2.2.2.2.1.2.1.set v4.1.toNat v4.2.2.2.2.2.1,v4.2.2.2.2.1.2.2),())else none else some (v4.2.2.2.2.2.2.2.1,0,v4.2.2.2.2.1,())) n (a1,a2,r1.1,0,a0,r3.2.1,r3.1,([]:List Int),())else none else none else if aF a1 a0.2.1.length then(DK n (a0.2.1.getD a1.toNat bS)).bind λr6=>(wS n r6.1 a2.2.2.2.1 0).bind λr7=>if aF r1.1 a0.2.1.length then if decide ((i64.wrap (((((((a0.2.1.getD r1.1.toNat bS).2).2).2).1).length:Int)+(r7.1.length:Int)))>6)=true then some (([]:List Int),10,a0,())else if decide ((i64.wrap (((((a0.2.1.getD r1.1.toNat bS).2).2).1)+(r7.1.length:Int)))>1000)=true then some (([]:List Int),10,a0,())else rounds (λL8 (v8:Int×fD×Int×Int×dU×cz×(List dK)×(List Int)×Unit)=>if decide (v8.2.2.2.1<(v8.2.2.2.2.2.2.1.length:Int))=true then if aF v8.2.2.2.1 v8.2.2.2.2.2.2.1.length then(Bv n (v8.2.2.2.2.1.2.1.getD v8.2.2.1.toNat bS) (v8.2.2.2.2.2.2.1.getD v8.2.2.2.1.toNat bT)).bind λr9=>if(v8.2.2.2.2.2.2.2.1.length+[r9.1].length)*8<=140737488355328 then L8 (v8.1,v8.2.1,v8.2.2.1,i64.wrap (v8.2.2.2.1+1),(v8.2.2.2.2.1.1,v8.2.2.2.2.1.2.1.set v8.2.2.1.toNat r9.2.1,v8.2.2.2.2.1.2.2),v8.2.2.2.2.2.1,v8.2.2.2.2.2.2.1,v8.2.2.2.2.2.2.2.1++[r9.1],())else none else none else if decide (v8.2.1.1=6)=true then if aF v8.1 v8.2.2.2.2.1.2.1.length then some (v8.2.2.2.2.2.2.2.1,0,(v8.2.2.2.2.1.1,v8.2.2.2.2.1.2.1.set v8.1.toNat v8.2.2.2.2.2.1,v8.2.2.2.2.1.2.2),())else none else some (v8.2.2.2.2.2.2.2.1,0,v8.2.2.2.2.1,())) n (a1,a2,r1.1,0,a0,r7.2.1,r7.1,([]:List Int),())else none else none
def Wy:Entry:=⟨164,[.rw jv [5,81,113] [5,81,113,4294967295] [5,113],.val (.int .i64) [],.ro gG],[.own (.sl 2 (.int .i64)) [2] [] [],.val (.int .i64) [] []],λn c=>Mk n c.1 c.2.1 c.2.2.1⟩
theorem aiE[Fr][aI.LaidTab prog](n:Nat):aA prog n Wy:=aK mixed aH func164 (by kernel_rfl) (hi:=⟨0,[48,94,96],[(0,[0,1,2,9,10,11,12,13],[0,290,1410,2242])],[],[(71,some 19,Gq),(99,some 39,Pv),(163,some 44,Gr),(161,some 83,Pw)],[],[],[],[]⟩) (ak (ME n) (ak (Yp n) (ak (MF n) (ak (Yq n) aJ)))) (by intro n c;kernel_rfl)
def Mj(n:Nat)(a0:dU)(a1:fD):Option (uh×Unit):=if decide (a1.1=1)=true then(Mq n a0 a1).bind λr1=>some (r1.1,())else(Bn n a0 a1.2.1).bind λr2=>if decide (r2.1<0)=true then(rX n 4).bind λr3=>some (r3.1,())else(Bp n a0).bind λr4=>if aF r2.1 r4.1.2.1.length then if decide (a1.1=2)=true then if 0<=(0:Int)/\(0:Int)<=r2.1/\r2.1<=(r4.1.2.1.length:Int)then if([]:List cz).length=0/\0=0/\r2.1.toNat*56<=140737488355328 then if 0<=(i64.wrap (r2.1+1))/\(i64.wrap (r2.1+1))<=(r4.1.2.1.length:Int)/\(r4.1.2.1.length:Int)<=(r4.1.2.1.length:Int)then if r2.1.toNat<=((i64.wrap (r2.1+1)).toNat)/\((i64.wrap (r2.1+1)).toNat)<=r4.1.2.1.length/\r4.1.2.1.length=r4.1.2.1.length/\r4.1.2.1.length=r4.1.2.1.length/\(r2.1.toNat+(r4.1.2.1.length-((i64.wrap (r2.1+1)).toNat)))*56<=140737488355328 then some ((0,([]:List Int),(r4.1.1,r4.1.2.1.take r2.1.toNat++r4.1.2.1.drop ((i64.wrap (r2.1+1)).toNat),r4.1.2.2),()),())else none else none else none else none else if decide (a1.1=3)=true then if decide (((((((r4.1.2.1.getD r2.1.toNat bS).2).2).2).1).length:Int)>=6)=true then(rX n 10).bind λr5=>some (r5.1,())else if decide (((((r4.1.2.1.getD r2.1.toNat bS).2).2).1)>=1000)=true then(rX n 10).bind λr6=>some (r6.1,())else(Bv n (r4.1.2.1.getD r2.1.toNat bS) (0,a1.2.2.2.2.2.1,a1.2.2.2.2.2.2.1,a1.2.2.2.2.2.2.2.1,())).bind λr7=>some ((0,[r7.1],(r4.1.1,r4.1.2.1.set r2.1.toNat r7.2.1,r4.1.2.2),()),())else if decide (a1.1=4)=true then(Ml n (r4.1.2.1.getD r2.1.toNat bS) a1).bind λr8=>some ((0,r8.1,(r4.1.1,r4.1.2.1.set r2.1.toNat r8.2.1,r4.1.2.2),()),())else if decide (a1.1=7)=true then(wS n (r4.1.2.1.getD r2.1.toNat bS) ([]:List Int) 8).bind λr9=>rounds (λL10 (v10:Int×uh×uh×(List dK)×Unit)=>if decide (v10.1<(v10.2.2.2.1.length:Int))=true then if aF v10.1 v10.2.2.2.1.length then if(v10.2.2.1.2.1.length+[(v10.2.2.2.1.getD v10.1.toNat bT).1].length)*8<=140737488355328 then L10 (i64.wrap (v10.1+1),v10.2.1,(v10.2.2.1.1,v10.2.2.1.2.1++[(v10.2.2.2.1.getD v10.1.toNat bT).1],v10.2.2.1.2.2),v10.2.2.2.1,())else none else none else some (v10.2.2.1,())) n (0,Ra,(0,([]:List Int),(r4.1.1,r4.1.2.1.set r2.1.toNat r9.2.1,r4.1.2.2),()),r9.1,())else(Mk n r4.1 r2.1 a1).bind λlY=>if(!decide (lY.2.1=0))=true then(rX n lY.2.1).bind λmK=>some (mK.1,())else some ((0,lY.1,lY.2.2.1,()),())else none
def Wz:Entry:=⟨142,[.val jv [],.ro gG],[.own yl [2,5,81,113] [] []],λn c=>Mj n c.1 c.2.1⟩
theorem aiF[Fr][aI.LaidTab prog](n:Nat):aA prog n Wz:=aK mixed aH func142 (by kernel_rfl) (hi:=⟨0,[34,59,66,123,132],[(1,[4,6,9,10],[130,194,3682])],[],[(160,some 20,Wu),(71,some 25,Gq),(117,some 28,vF),(70,some 30,Gp),(117,some 88,vF),(161,some 103,Pw),(162,some 110,Wx),(163,some 115,Gr),(164,some 45,Wy),(117,some 51,vF)],[],[],[61,69],[62,70]⟩) (ak (aiA n) (ak (ME n) (ak (wV n) (ak (MC n) (ak (wV n) (ak (Yq n) (ak (aiD n) (ak (MF n) (ak (aiE n) (ak (wV n) aJ)))))))))) (by intro n c;kernel_rfl)
def LZ(n:Nat)(a0:dU)(a1:fD):Option (uh×Unit):=(Bq n a0).bind λr1=>if(!decide (r1.1=0))=true then(rX n r1.1).bind λr2=>some (r2.1,())else(HZ n a1).bind λr3=>if(!decide (r3.1=0))=true then(rX n r3.1).bind λr4=>some (r4.1,())else(Mj n a0 a1).bind λr5=>some (r5.1,())
def WA:Entry:=⟨118,[.val jv [],.val gG []],[.own yl [2,5,81,113] [] []],λn c=>LZ n c.1 c.2.1⟩
theorem aiG[Fr][aI.LaidTab prog](n:Nat):aA prog n WA:=aK mixed aH func118 (by kernel_rfl) (hi:=⟨0,[],[],[],[(91,some 7,KG),(117,some 11,vF),(141,some 12,Po),(117,some 16,vF),(142,some 18,Wz)],[],[],[],[]⟩) (ak (Qr n) (ak (wV n) (ak (Yl n) (ak (wV n) (ak (aiF n) aJ))))) (by intro n c;kernel_rfl)
def Hz(n:Nat)(a0:dU)(a1:List fD):Option (uh×Unit):=if decide ((a1.length:Int)>60)=true then(rX n 2).bind λr1=>some (r1.1,())else(Bq n a0).bind λr2=>if(!decide (r2.1=0))=true then(rX n r2.1).bind λr3=>some (r3.1,())else(Bp n a0).bind λr4=>rounds (λL5 (v5:(List fD)×Int×uh×uh×Unit)=>if decide (v5.2.1<(v5.1.length:Int))=true then if aF v5.2.1 v5.1.length then(LZ n v5.2.2.2.1.2.2.1 (v5.1.getD v5.2.1.toNat sw)).bind λr6=>if(!decide (r6.1.1=0))=true then(rX n r6.1.1).bind λr7=>some (r7.1,())else L5 (v5.1,i64.wrap (v5.2.1+1),v5.2.2.1,(v5.2.2.2.1.1,v5.2.2.2.1.2.1,r6.1.2.2.1,v5.2.2.2.1.2.2.2),())else none else some (v5.2.2.2.1,())) n (a1,0,Ra,(0,([]:List Int),r4.1,()),())
def WB:Entry:=⟨93,[.val jv [],.val (.sl 155 gG) []],[.own yl [2,5,81,113] [] []],λn c=>Hz n c.1 c.2.1⟩
theorem aiH[Fr][aI.LaidTab prog](n:Nat):aA prog n WB:=aK mixed aH func93 (by kernel_rfl) (hi:=⟨0,[41,43],[(0,[1,4,6,7],[130,194])],[],[(117,some 12,vF),(91,some 13,KG),(117,some 17,vF),(70,some 19,Gp),(118,some 33,WA),(117,some 39,vF)],[],[],[],[]⟩) (ak (wV n) (ak (Qr n) (ak (wV n) (ak (MC n) (ak (aiG n) (ak (wV n) aJ)))))) (by intro n c;kernel_rfl)
def Mi(n:Nat)(a0:dK)(a1:dK):Option (Bool×Unit):=if decide (a0.1=a1.1)=true then if decide (a0.2.1=a1.2.1)=true then if decide (a0.2.2.1=a1.2.2.1)=true then some (decide (a0.2.2.2.1=a1.2.2.2.1),())else some (false,())else some (false,())else some (false,())
def WC:Entry:=⟨143,[.ro gW,.ro gW],[.val .bool [] []],λn c=>Mi n c.1 c.2.1⟩
theorem aiI[Fr][aI.LaidTab prog](n:Nat):aA prog n WC:=aK mixed aH func143 (by kernel_rfl) (hi:=ahF) aJ (by intro n c;kernel_rfl)
def Mh(n:Nat)(a0:cz)(a1:cz):Option (Bool×Unit):=if(!decide (a0.1=a1.1))=true then some (false,())else if(!decide (a0.2.1=a1.2.1))=true then some (false,())else if(!decide (a0.2.2.1=a1.2.2.1))=true then some (false,())else if(!decide ((a0.2.2.2.1.length:Int)=(a1.2.2.2.1.length:Int)))=true then some (false,())else rounds (λL1 (v1:cz×cz×Int×Unit)=>if decide (v1.2.2.1<(v1.1.2.2.2.1.length:Int))=true then if aF v1.2.2.1 v1.1.2.2.2.1.length then if aF v1.2.2.1 v1.2.1.2.2.2.1.length then(Mi n (v1.1.2.2.2.1.getD v1.2.2.1.toNat bT) (v1.2.1.2.2.2.1.getD v1.2.2.1.toNat bT)).bind λr2=>if(!r2.1)=true then some (false,())else L1 (v1.1,v1.2.1,i64.wrap (v1.2.2.1+1),())else none else none else some (true,())) n (a0,a1,0,())
def WE:Entry:=⟨119,[.ro gV,.ro gV],[.val .bool [] []],λn c=>Mh n c.1 c.2.1⟩
theorem aiJ[Fr][aI.LaidTab prog](n:Nat):aA prog n WE:=aK mixed aH func119 (by kernel_rfl) (hi:=⟨0,[],[(0,[0,1,5],[])],[],[(143,some 71,WC)],[],[],[],[]⟩) (ak (aiI n) aJ) (by intro n c;kernel_rfl)
def Mg(n:Nat)(a0:dU)(a1:dU):Option (Bool×Unit):=if(!decide (a0.1=a1.1))=true then some (false,())else if(!decide ((a0.2.1.length:Int)=(a1.2.1.length:Int)))=true then some (false,())else rounds (λL1 (v1:dU×dU×Int×Unit)=>if decide (v1.2.2.1<(v1.1.2.1.length:Int))=true then if aF v1.2.2.1 v1.1.2.1.length then if aF v1.2.2.1 v1.2.1.2.1.length then(Mh n (v1.1.2.1.getD v1.2.2.1.toNat bS) (v1.2.1.2.1.getD v1.2.2.1.toNat bS)).bind λr2=>if(!r2.1)=true then some (false,())else L1 (v1.1,v1.2.1,i64.wrap (v1.2.2.1+1),())else none else none else some (true,())) n (a0,a1,0,())
def WG:Entry:=⟨95,[.ro jv,.ro jv],[.val .bool [] []],λn c=>Mg n c.1 c.2.1⟩
theorem aiK[Fr][aI.LaidTab prog](n:Nat):aA prog n WG:=aK mixed aH func95 (by kernel_rfl) (hi:=⟨0,[],[(0,[0,1,5],[])],[],[(119,some 49,WE)],[],[],[],[]⟩) (ak (aiJ n) aJ) (by intro n c;kernel_rfl)
def HV(n:Nat)(a0:p_):Option (Int×Unit):=if decide ((i64.wrap ((a0.2.1.length:Int)+(a0.2.2.1.length:Int)))>8000)=true then some (2,())else if(!a0.1)=true then if decide ((a0.2.2.1.length:Int)>0)=true then some (1,())else if(!decide (a0.2.2.2.1.1=0))=true then some (1,())else if decide ((a0.2.2.2.1.2.1.length:Int)>0)=true then some (1,())else some (0,())else(Bq n a0.2.2.2.1).bind λr1=>if(!decide (r1.1=0))=true then some (r1.1,())else(Ma n a0).bind λr2=>if(!r2.2.1)=true then some (5,())else(Qa n).bind λr3=>(Hz n r3.1 r2.1).bind λr4=>if(!decide (r4.1.1=0))=true then some (9,())else(Mg n r4.1.2.2.1 a0.2.2.2.1).bind λr5=>if(!r5.1)=true then some (9,())else some (0,())
def WH:Entry:=⟨67,[.ro qF],[.val (.int .i64) [] []],λn c=>HV n c.1⟩
theorem aiL[Fr][aI.LaidTab prog](n:Nat):aA prog n WH:=aK mixed aH func67 (by kernel_rfl) (hi:=⟨0,[],[],[],[(91,some 50,KG),(92,some 56,Wp),(94,some 61,Wq),(93,some 63,WB),(95,some 72,WG)],[],[],[],[]⟩) (ak (Qr n) (ak (aiw n) (ak (aix n) (ak (aiH n) (ak (aiK n) aJ))))) (by intro n c;kernel_rfl)
def Qe(n:Nat)(a0:Int):Option (Bool×Unit):=(kJ n a0 1 3).bind λr1=>some (r1.1,())
def WI:Entry:=⟨96,[.val (.int .i64) []],[.val .bool [] []],λn c=>Qe n c.1⟩
theorem aiM[Fr][aI.LaidTab prog](n:Nat):aA prog n WI:=aK mixed aH func96 (by kernel_rfl) (hi:=⟨0,[],[],[],[(36,some 4,qw)],[],[],[],[]⟩) (ak (qZ n) aJ) (by intro n c;kernel_rfl)
def Md(n:Nat)(a0:j5):Option (Int×Unit):=(Qe n a0.2.2.2.1).bind λr1=>if(!r1.1)=true then some (3,())else(kJ n a0.2.1 0 999).bind λr2=>if(!r2.1)=true then some (3,())else if decide ((a0.2.2.1.length:Int)>6)=true then some (3,())else(DL n a0.2.2.1).bind λr3=>if(!r3.1)=true then some (3,())else if decide (a0.1=([]:List Int))=true then if(!decide (a0.2.1=0))=true then some (1,())else if decide ((a0.2.2.1.length:Int)>0)=true then some (1,())else some (0,())else(zo n a0.1).bind λr4=>if(!r4.1)=true then some (1,())else if decide (a0.2.1=0)=true then some (1,())else some (0,())
def WJ:Entry:=⟨68,[.ro gN],[.val (.int .i64) [] []],λn c=>Md n c.1⟩
theorem aiN[Fr][aI.LaidTab prog](n:Nat):aA prog n WJ:=aK mixed aH func68 (by kernel_rfl) (hi:=⟨0,[],[],[],[(96,some 7,WI),(36,some 14,qw),(97,some 30,Pm),(98,some 55,Gm)],[],[],[],[]⟩) (ak (aiM n) (ak (qZ n) (ak (Yj n) (ak (Mx n) aJ)))) (by intro n c;kernel_rfl)
def wR(n:Nat)(a0:jd):Option (Int×Unit):=(HV n a0.1).bind λr1=>if(!decide (r1.1=0))=true then some (r1.1,())else if decide ((a0.2.1.length:Int)<1)=true then some (2,())else if decide ((a0.2.1.length:Int)>3)=true then some (2,())else rounds (λL2 (v2:jd×Int×Unit)=>if decide (v2.2.1<(v2.1.2.1.length:Int))=true then if aF v2.2.1 v2.1.2.1.length then(Md n (v2.1.2.1.getD v2.2.1.toNat cB)).bind λr3=>if(!decide (r3.1=0))=true then some (r3.1,())else L2 (v2.1,i64.wrap (v2.2.1+1),())else none else some (0,())) n (a0,0,())
def WK:Entry:=⟨35,[.ro mY],[.val (.int .i64) [] []],λn c=>wR n c.1⟩
theorem aiO[Fr][aI.LaidTab prog](n:Nat):aA prog n WK:=aK mixed aH func35 (by kernel_rfl) (hi:=⟨0,[],[(0,[0,4],[])],[],[(67,some 9,WH),(68,some 42,WJ)],[],[],[],[]⟩) (ak (aiL n) (ak (aiN n) aJ)) (by intro n c;kernel_rfl)
def Qb(n:Nat)(a0:jd)(a1:Int):Option (Int×Unit):=(wR n a0).bind λr1=>if(!decide (r1.1=0))=true then some (r1.1,())else if(!a0.1.1)=true then some (9,())else(kJ n a1 0 (i64.wrap ((a0.2.1.length:Int)-1))).bind λr2=>if(!r2.1)=true then some (3,())else some (0,())
def WL:Entry:=⟨15,[.ro mY,.val (.int .i64) []],[.val (.int .i64) [] []],λn c=>Qb n c.1 c.2.1⟩
theorem aiP[Fr][aI.LaidTab prog](n:Nat):aA prog n WL:=aK mixed aH func15 (by kernel_rfl) (hi:=⟨0,[],[],[],[(35,some 7,WK),(36,some 24,qw)],[],[],[],[]⟩) (ak (aiO n) (ak (qZ n) aJ)) (by intro n c;kernel_rfl)
def Qc(n:Nat)(a0:Int):Option (zL×Unit):=some ((a0,([]:List (List Int)),Na,()),())
def WM:Entry:=⟨16,[.val (.int .i64) []],[.own ym [2,5,9,65,81,113] [] []],λn c=>Qc n c.1⟩
theorem aiQ[Fr][aI.LaidTab prog](n:Nat):aA prog n WM:=aK mixed aH func16 (by kernel_rfl) (hi:=ahF) aJ (by intro n c;kernel_rfl)
def P_(n:Nat)(a0:p_):Option (p_×Unit):=(Bl n a0.2.1).bind λr1=>(Bl n a0.2.2.1).bind λr2=>(Bp n a0.2.2.2.1).bind λr3=>some ((a0.1,r1.1,r2.1,r3.1,()),())
def WN:Entry:=⟨37,[.val qF []],[.own qF [5,81,113] [] []],λn c=>P_ n c.1⟩
theorem aiR[Fr][aI.LaidTab prog](n:Nat):aA prog n WN:=aK mixed aH func37 (by kernel_rfl) (hi:=⟨0,[],[],[],[(69,some 7,Gn),(69,some 10,Gn),(70,some 13,Gp)],[],[],[],[]⟩) (ak (MB n) (ak (MB n) (ak (MC n) aJ))) (by intro n c;kernel_rfl)
def Mc(n:Nat)(a0:jd):Option (jd×Unit):=(P_ n a0.1).bind λr1=>rounds (λL2 (v2:Int×jd×jd×jd×Unit)=>if decide (v2.1<(v2.2.1.2.1.length:Int))=true then if aF v2.1 v2.2.1.2.1.length then if(([]:List Int).length+((((v2.2.1.2.1.getD v2.1.toNat cB).2).2).1).length)*8<=140737488355328 then if(v2.2.2.2.1.2.1.length+[((v2.2.1.2.1.getD v2.1.toNat cB).1,((v2.2.1.2.1.getD v2.1.toNat cB).2).1,([]:List Int)++((((v2.2.1.2.1.getD v2.1.toNat cB).2).2).1),(((v2.2.1.2.1.getD v2.1.toNat cB).2).2).2)].length)*56<=140737488355328 then L2 (i64.wrap (v2.1+1),v2.2.1,v2.2.2.1,(v2.2.2.2.1.1,v2.2.2.2.1.2.1++[((v2.2.1.2.1.getD v2.1.toNat cB).1,((v2.2.1.2.1.getD v2.1.toNat cB).2).1,([]:List Int)++((((v2.2.1.2.1.getD v2.1.toNat cB).2).2).1),(((v2.2.1.2.1.getD v2.1.toNat cB).2).2).2)],v2.2.2.2.1.2.2),())else none else none else none else some (v2.2.2.2.1,())) n (0,a0,Na,(r1.1,([]:List j5),()),())
def WO:Entry:=⟨17,[.val mY []],[.own mY [2,5,65,81,113] [] []],λn c=>Mc n c.1⟩
theorem aiS[Fr][aI.LaidTab prog](n:Nat):aA prog n WO:=aK mixed aH func17 (by kernel_rfl) (hi:=⟨0,[28,29,33],[(0,[1,2,3,4],[34,66,98])],[],[(37,some 8,WN)],[],[],[],[]⟩) (ak (aiR n) aJ) (by intro n c;kernel_rfl)
def Qd(n:Nat)(a0:jd)(a1:Int):Option (cz×Bool×Unit):=if aF a1 a0.2.1.length then(Bn n a0.1.2.2.2.1 ((a0.2.1.getD a1.toNat cB).1)).bind λr1=>if decide (r1.1<0)=true then some (bS,false,())else if aF r1.1 a0.1.2.2.2.1.2.1.length then if(!decide ((((a0.1.2.2.2.1.2.1.getD r1.1.toNat bS).2).1)=(((a0.2.1.getD a1.toNat cB).2).1)))=true then some (bS,false,())else if aF r1.1 a0.1.2.2.2.1.2.1.length then some (a0.1.2.2.2.1.2.1.getD r1.1.toNat bS,true,())else none else none else none
def WQ:Entry:=⟨38,[.ro mY,.val (.int .i64) []],[.val gV [0] [],.val .bool [] []],λn c=>Qd n c.1 c.2.1⟩
theorem aiT[Fr][aI.LaidTab prog](n:Nat):aA prog n WQ:=aK mixed aH func38 (by kernel_rfl) (hi:=⟨0,[],[],[],[(71,some 22,Gq)],[],[],[],[]⟩) (ak (ME n) aJ) (by intro n c;kernel_rfl)
def HY(n:Nat)(a0:cz)(a1:Int):Option (Int×Unit):=rounds (λL1 (v1:cz×Int×Int×Unit)=>if decide (v1.2.2.1<(v1.1.2.2.2.1.length:Int))=true then if aF v1.2.2.1 v1.1.2.2.2.1.length then if decide (((v1.1.2.2.2.1.getD v1.2.2.1.toNat bT).1)=v1.2.1)=true then some (v1.2.2.1,())else L1 (v1.1,v1.2.1,i64.wrap (v1.2.2.1+1),())else none else some ((-1),())) n (a0,a1,0,())
def WS:Entry:=⟨39,[.ro gV,.val (.int .i64) []],[.val (.int .i64) [] []],λn c=>HY n c.1 c.2.1⟩
theorem aiU[Fr][aI.LaidTab prog](n:Nat):aA prog n WS:=aK mixed aH func39 (by kernel_rfl) (hi:=afP) aJ (by intro n c;kernel_rfl)
def vI:Nat->Int->Option ((List Int)×Unit)
 |0,_=>none
 |n+1,a0=>(if decide (a0<10)=true then some ([u8.wrap (i64.wrap ((48:Int)+a0))],())else(if(10:Int)≠0 then((vI n (i64.wrap (a0.tdiv 10))).bind λr1=>(if(10:Int)≠0 then(if r1.1.length+[u8.wrap (i64.wrap ((48:Int)+(a0.tmod 10)))].length<=9223372036854775807 then some (r1.1++[u8.wrap (i64.wrap ((48:Int)+(a0.tmod 10)))],())else none)else none))else none))
def OG:List aD:=[.val (.int .i64) []]
def ad4:List bN:=[.val .str [] []]
def Di:Entry:=⟨40,OG,ad4,λn (c:Cont (kin OG))=>vI n c.1⟩
def Yh:Hint:=⟨0,[],[],[],[(40,some 12,Di)],[],[],[],[]⟩
theorem ae0:∀n (c:Cont (kin OG)),Ey T Yh Tryz.f40 OG ad4 n c=Di.F (n+1) c:=by intro n c;kernel_rfl
theorem Qs[Fr][aI.LaidTab prog]:∀(n:Nat),aA prog n Di
 |0=>atD λc=>rfl
 |n+1=>arf mixed aH (E:=Di) func40 (by kernel_rfl) (hi:=Yh) (ak (Qs n) aJ) (ae0 n)
def Bj(n:Nat)(a0:cz):Option ((List Int)×Unit):=rounds (λL1 (v1:cz×Int×(List Int)×Unit)=>if decide (v1.2.1<(v1.1.2.2.2.1.length:Int))=true then if aF v1.2.1 v1.1.2.2.2.1.length then if(v1.2.2.1.length+[(v1.1.2.2.2.1.getD v1.2.1.toNat bT).1].length)*8<=140737488355328 then L1 (v1.1,i64.wrap (v1.2.1+1),v1.2.2.1++[(v1.1.2.2.2.1.getD v1.2.1.toNat bT).1],())else none else none else some (v1.2.2.1,())) n (a0,0,([]:List Int),())
def WT:Entry:=⟨41,[.ro gV],[.own (.sl 2 (.int .i64)) [2] [] []],λn c=>Bj n c.1⟩
theorem aiV[Fr][aI.LaidTab prog](n:Nat):aA prog n WT:=aK mixed aH func41 (by kernel_rfl) (hi:=⟨0,[],[(0,[0,3,4],[162])],[],[],[],[],[],[]⟩) aJ (by intro n c;kernel_rfl)
def Me(n:Nat)(a0:jd)(a1:Int):Option ((List (List Int))×jd×Unit):=if aF a1 a0.2.1.length then if decide (((a0.2.1.getD a1.toNat cB).1)=([]:List Int))=true then some (([]:List (List Int)),a0,())else(Qd n a0 a1).bind λr1=>if(!r1.2.1)=true then some ([[42,32,99,108,111,115,101,100]],(a0.1,(bY (bY (bY a0.2.1 a1.toNat cB λz1=>(([]:List Int),z1.2)) a1.toNat cB λz1=>(z1.1,0,z1.2.2)) a1.toNat cB λz1=>(z1.1,z1.2.1,([]:List Int),z1.2.2.2)),a0.2.2),())else rounds (λL2 (v2:Int×Int×jd×cz×(List (List Int))×(List Int)×Unit)=>if decide (v2.2.1>=0)=true then if aF v2.2.1 ((((v2.2.2.1.2.1.getD v2.1.toNat cB).2).2).1).length then(HY n v2.2.2.2.1 (((((v2.2.2.1.2.1.getD v2.1.toNat cB).2).2).1).getD v2.2.1.toNat 0)).bind λr3=>if decide (r3.1<0)=true then(vI n (i64.wrap (v2.2.1+1))).bind λr4=>if [42,32,103,111,110,101,32].length+r4.1.length<=9223372036854775807 then if(v2.2.2.2.2.1.length+[[42,32,103,111,110,101,32]++r4.1].length)*16<=140737488355328 then L2 (v2.1,i64.wrap (v2.2.1-1),v2.2.2.1,v2.2.2.2.1,v2.2.2.2.2.1++[[42,32,103,111,110,101,32]++r4.1],v2.2.2.2.2.2.1,())else none else none else if aF v2.2.1 ((((v2.2.2.1.2.1.getD v2.1.toNat cB).2).2).1).length then if(v2.2.2.2.2.2.1.length+[((((v2.2.2.1.2.1.getD v2.1.toNat cB).2).2).1).getD v2.2.1.toNat (0:Int)].length)*8<=140737488355328 then L2 (v2.1,i64.wrap (v2.2.1-1),v2.2.2.1,v2.2.2.2.1,v2.2.2.2.2.1,v2.2.2.2.2.2.1++[((((v2.2.2.1.2.1.getD v2.1.toNat cB).2).2).1).getD v2.2.1.toNat (0:Int)],())else none else none else none else if decide ((v2.2.2.2.1.2.2.2.1.length:Int)>(v2.2.2.2.2.2.1.length:Int))=true then(vI n (v2.2.2.2.1.2.2.2.1.length:Int)).bind λr5=>if [42,32,101,120,105,115,116,115,32].length+r5.1.length<=9223372036854775807 then if(v2.2.2.2.2.1.length+[[42,32,101,120,105,115,116,115,32]++r5.1].length)*16<=140737488355328 then(Bj n v2.2.2.2.1).bind λr6=>some (v2.2.2.2.2.1++[[42,32,101,120,105,115,116,115,32]++r5.1],(v2.2.2.1.1,(bY v2.2.2.1.2.1 v2.1.toNat cB λz1=>(z1.1,z1.2.1,r6.1,z1.2.2.2)),v2.2.2.1.2.2),())else none else none else(Bj n v2.2.2.2.1).bind λr7=>some (v2.2.2.2.2.1,(v2.2.2.1.1,(bY v2.2.2.1.2.1 v2.1.toNat cB λz1=>(z1.1,z1.2.1,r7.1,z1.2.2.2)),v2.2.2.1.2.2),())) n (a1,i64.wrap ((((((a0.2.1.getD a1.toNat cB).2).2).1).length:Int)-1),a0,r1.1,([]:List (List Int)),([]:List Int),())else none
def WU:Entry:=⟨18,[.rw mY [2,5,65,81,113] [65] [2],.val (.int .i64) []],[.own (.sl 9 .str) [9] [] []],λn c=>Me n c.1 c.2.1⟩
theorem aiW[Fr][aI.LaidTab prog](n:Nat):aA prog n WU:=aK mixed aH func18 (by kernel_rfl) (hi:=⟨0,[14],[(0,[5,6,8,9,10],[0,194,1314,1346])],[],[(38,some 26,WQ),(39,some 60,WS),(40,some 65,Di),(40,some 89,Di),(41,some 94,WT)],[],[],[],[]⟩) (ak (aiT n) (ak (aiU n) (ak (Qs n) (ak (Qs n) (ak (aiV n) aJ))))) (by intro n c;kernel_rfl)
def L_(n:Nat)(a0:jd)(a1:Int):Option (zL×Unit):=(Qb n a0 a1).bind λr1=>if(!decide (r1.1=0))=true then(Qc n r1.1).bind λr2=>some (r2.1,())else(Mc n a0).bind λr3=>(Me n r3.1 a1).bind λr4=>some ((0,r4.1,r4.2.1,()),())
def WV:Entry:=⟨5,[.val mY [],.val (.int .i64) []],[.own ym [2,5,9,65,81,113] [] []],λn c=>L_ n c.1 c.2.1⟩
theorem aiX[Fr][aI.LaidTab prog](n:Nat):aA prog n WV:=aK mixed aH func5 (by kernel_rfl) (hi:=⟨0,[20],[],[],[(15,some 8,WL),(16,some 12,WM),(17,some 14,WO),(18,some 18,WU)],[],[],[],[]⟩) (ak (aiP n) (ak (aiQ n) (ak (aiS n) (ak (aiW n) aJ)))) (by intro n c;kernel_rfl)
def qY(n:Nat)(a0:Int)(a1:Int)(a2:Int):Option (Bool×Unit):=if decide (a0>=a1)=true then some (decide (a0<=a2),())else some (false,())
def tL:Entry:=⟨46,[.val (.int .i64) [],.val (.int .i64) [],.val (.int .i64) []],[.val .bool [] []],λn c=>qY n c.1 c.2.1 c.2.2.1⟩
theorem uN[Fr][aI.LaidTab prog](n:Nat):aA prog n tL:=aK mixed aH func46 (by kernel_rfl) (hi:=ahF) aJ (by intro n c;kernel_rfl)
def La(n:Nat)(a0:List Int)(a1:Int):Option (Bool×Unit):=rounds (λL1 (v1:(List Int)×Int×Int×Int×Unit)=>if decide (v1.2.2.2.1<v1.2.2.1)=true then if aF v1.2.2.2.1 v1.1.length then if decide ((v1.1.getD v1.2.2.2.1.toNat 0)<97)=true then some (false,())else if aF v1.2.2.2.1 v1.1.length then if decide ((v1.1.getD v1.2.2.2.1.toNat 0)>122)=true then some (false,())else L1 (v1.1,v1.2.1,v1.2.2.1,i64.wrap (v1.2.2.2.1+1),())else none else none else if decide ((v1.1.length:Int)>=1)=true then some (decide ((v1.1.length:Int)<=v1.2.1),())else some (false,())) n (a0,a1,(a0.length:Int),0,())
def WW:Entry:=⟨107,[.val .str [],.val (.int .i64) []],[.val .bool [] []],λn c=>La n c.1 c.2.1⟩
theorem aiY[Fr][aI.LaidTab prog](n:Nat):aA prog n WW:=aK mixed aH func107 (by kernel_rfl) (hi:=⟨0,[],[(0,[0,1,7,8],[])],[],[],[],[],[],[]⟩) aJ (by intro n c;kernel_rfl)
def zf(n:Nat)(a0:List Int):Option (Bool×Unit):=(La n a0 8).bind λr1=>some (r1.1,())
def Gs:Entry:=⟨77,[.val .str []],[.val .bool [] []],λn c=>zf n c.1⟩
theorem MG[Fr][aI.LaidTab prog](n:Nat):aA prog n Gs:=aK mixed aH func77 (by kernel_rfl) (hi:=⟨0,[],[],[],[(107,some 4,WW)],[],[],[],[]⟩) (ak (aiY n) aJ) (by intro n c;kernel_rfl)
def Dt(n:Nat)(a0:Int):Option (Bool×Unit):=(qY n a0 1 999).bind λr1=>some (r1.1,())
def Px:Entry:=⟨106,[.val (.int .i64) []],[.val .bool [] []],λn c=>Dt n c.1⟩
def agl:Hint:=⟨0,[],[],[],[(46,some 4,tL)],[],[],[],[]⟩
theorem Yr[Fr][aI.LaidTab prog](n:Nat):aA prog n Px:=aK mixed aH func106 (by kernel_rfl) (hi:=agl) (ak (uN n) aJ) (by intro n c;kernel_rfl)
def xR(n:Nat)(a0:Int):Option (Bool×Unit):=(qY n a0 0 15).bind λr1=>some (r1.1,())
def Py:Entry:=⟨165,[.val (.int .i64) []],[.val .bool [] []],λn c=>xR n c.1⟩
theorem Yt[Fr][aI.LaidTab prog](n:Nat):aA prog n Py:=aK mixed aH func165 (by kernel_rfl) (hi:=agl) (ak (uN n) aJ) (by intro n c;kernel_rfl)
def xS(n:Nat)(a0:Int):Option (Bool×Unit):=(qY n a0 0 9999).bind λr1=>some (r1.1,())
def Pz:Entry:=⟨166,[.val (.int .i64) []],[.val .bool [] []],λn c=>xS n c.1⟩
theorem Yu[Fr][aI.LaidTab prog](n:Nat):aA prog n Pz:=aK mixed aH func166 (by kernel_rfl) (hi:=agl) (ak (uN n) aJ) (by intro n c;kernel_rfl)
def GD(n:Nat)(a0:dK):Option (Int×Unit):=(Dt n a0.1).bind λr1=>if(!r1.1)=true then some (3,())else(xR n a0.2.1).bind λr2=>if(!r2.1)=true then some (3,())else(xS n a0.2.2.1).bind λr3=>if(!r3.1)=true then some (3,())else if decide ((a0.2.2.2.1.length:Int)>400)=true then some (2,())else some (0,())
def WX:Entry:=⟨145,[.val gW []],[.val (.int .i64) [] []],λn c=>GD n c.1⟩
theorem aiZ[Fr][aI.LaidTab prog](n:Nat):aA prog n WX:=aK mixed aH func145 (by kernel_rfl) (hi:=⟨0,[],[],[],[(106,some 6,Px),(165,some 11,Py),(166,some 17,Pz)],[],[],[],[]⟩) (ak (Yr n) (ak (Yt n) (ak (Yu n) aJ))) (by intro n c;kernel_rfl)
def Gx(n:Nat)(a0:cz):Option (Int×Unit):=(zf n a0.1).bind λr1=>if(!r1.1)=true then some (5,())else(qY n a0.2.1 1 999).bind λr2=>if(!r2.1)=true then some (3,())else(qY n a0.2.2.1 1 1000).bind λr3=>if(!r3.1)=true then some (3,())else if decide ((a0.2.2.2.1.length:Int)>6)=true then some (2,())else rounds (λL4 (v4:Int×(List dK)×Int×Int×cz×Unit)=>if decide (v4.2.2.2.1<v4.2.2.1)=true then if aF v4.2.2.2.1 v4.2.1.length then(GD n (v4.2.1.getD v4.2.2.2.1.toNat bT)).bind λr5=>if(!decide (r5.1=0))=true then some (r5.1,())else if decide (((v4.2.1.getD v4.2.2.2.1.toNat bT).1)<=v4.1)=true then some (1,())else if decide (((v4.2.1.getD v4.2.2.2.1.toNat bT).1)>=v4.2.2.2.2.1.2.2.1)=true then some (1,())else L4 ((v4.2.1.getD v4.2.2.2.1.toNat bT).1,v4.2.1,v4.2.2.1,i64.wrap (v4.2.2.2.1+1),v4.2.2.2.2.1,())else none else some (0,())) n (0,a0.2.2.2.1,(a0.2.2.2.1.length:Int),0,a0,())
def WY:Entry:=⟨122,[.val gV []],[.val (.int .i64) [] []],λn c=>Gx n c.1⟩
theorem ai0[Fr][aI.LaidTab prog](n:Nat):aA prog n WY:=aK mixed aH func122 (by kernel_rfl) (hi:=⟨0,[],[(1,[1,3,29,30,31],[34])],[],[(77,some 10,Gs),(46,some 15,tL),(46,some 20,tL),(145,some 36,WX)],[],[],[],[]⟩) (ak (MG n) (ak (uN n) (ak (uN n) (ak (aiZ n) aJ)))) (by intro n c;kernel_rfl)
def K3(n:Nat)(a0:cz)(a1:cz):Option (Bool×Unit):=if decide (a0.1=a1.1)=true then some (true,())else some (decide (a0.2.1=a1.2.1),())
def WZ:Entry:=⟨124,[.val gV [],.ro gV],[.val .bool [] []],λn c=>K3 n c.1 c.2.1⟩
theorem ai1[Fr][aI.LaidTab prog](n:Nat):aA prog n WZ:=aK mixed aH func124 (by kernel_rfl) (hi:=ahF) aJ (by intro n c;kernel_rfl)
def Hw(n:Nat)(a0:List cz)(lK:cz):Option (Int×Unit):=rounds (λL1 (v1:(List cz)×cz×Int×Int×Unit)=>if decide (v1.2.2.2.1<v1.2.2.1)=true then if aF v1.2.2.2.1 v1.1.length then(K3 n (v1.1.getD v1.2.2.2.1.toNat bS) v1.2.1).bind λr2=>if r2.1=true then some (v1.2.2.2.1,())else L1 (v1.1,v1.2.1,v1.2.2.1,i64.wrap (v1.2.2.2.1+1),())else none else some ((-1),())) n (a0,lK,(a0.length:Int),0,())
def W9:Entry:=⟨108,[.val (.sl 81 gV) [],.fn 124 [gV]],[.val (.int .i64) [] []],λn c=>Hw n c.1 c.2.1⟩
theorem ai2[Fr][aI.LaidTab prog](n:Nat):aA prog n W9:=aK mixed aH func108 (by kernel_rfl) (hi:=⟨0,[],[(0,[0,1,7,8],[])],[],[(124,some 16,WZ)],[],[],[],[]⟩) (ak (ai1 n) aJ) (by intro n c;kernel_rfl)
def LQ(n:Nat)(a0:List cz)(lK:cz):Option (Bool×Unit):=(Hw n a0 lK).bind λr1=>some (decide (r1.1>=0),())
def W_:Entry:=⟨123,[.val (.sl 81 gV) [],.fn 124 [gV]],[.val .bool [] []],λn c=>LQ n c.1 c.2.1⟩
theorem ai3[Fr][aI.LaidTab prog](n:Nat):aA prog n W_:=aK mixed aH func123 (by kernel_rfl) (hi:=⟨0,[],[],[],[(108,some 7,W9)],[],[],[],[]⟩) (ak (ai2 n) aJ) (by intro n c;kernel_rfl)
def Dn(n:Nat)(a0:dU):Option (Int×Unit):=(qY n a0.1 1 1000).bind λr1=>if(!r1.1)=true then some (3,())else if decide ((a0.2.1.length:Int)>3)=true then some (2,())else rounds (λL2 (v2:(List cz)×Int×Int×dU×Unit)=>if decide (v2.2.2.1<v2.2.1)=true then if aF v2.2.2.1 v2.1.length then(Gx n (v2.1.getD v2.2.2.1.toNat bS)).bind λr3=>if(!decide (r3.1=0))=true then some (r3.1,())else if decide ((((v2.1.getD v2.2.2.1.toNat bS).2).1)>=v2.2.2.2.1.1)=true then some (9,())else if 0<=v2.2.2.1/\v2.2.2.1<=(v2.2.2.2.1.2.1.length:Int)then(LQ n (v2.2.2.2.1.2.1.take v2.2.2.1.toNat) (v2.1.getD v2.2.2.1.toNat bS)).bind λr4=>if r4.1=true then some (6,())else L2 (v2.1,v2.2.1,i64.wrap (v2.2.2.1+1),v2.2.2.2.1,())else none else none else some (0,())) n (a0.2.1,(a0.2.1.length:Int),0,a0,())
def PD:Entry:=⟨101,[.val jv []],[.val (.int .i64) [] []],λn c=>Dn n c.1⟩
theorem Yv[Fr][aI.LaidTab prog](n:Nat):aA prog n PD:=aK mixed aH func101 (by kernel_rfl) (hi:=⟨0,[],[(1,[1,17,18,19],[34])],[],[(46,some 9,tL),(122,some 25,WY),(123,some 41,W_)],[],[],[],[]⟩) (ak (uN n) (ak (ai0 n) (ak (ai3 n) aJ))) (by intro n c;kernel_rfl)
def vG(n:Nat)(a0:List Int):Option (Int×Unit):=some ((a0.length:Int),())
def A7:Entry:=⟨126,[.val (.sl 5 (.int .u8)) []],[.val (.int .i64) [] []],λn c=>vG n c.1⟩
theorem DN[Fr][aI.LaidTab prog](n:Nat):aA prog n A7:=aK mixed aH func126 (by kernel_rfl) (hi:=ahF) aJ (by intro n c;kernel_rfl)
def zh(n:Nat)(a0:BR)(a1:Int):Option ((List Int)×BR×Unit):=if a0.2.1=true then if a1=a1/\0<=a1/\a1*1<=140737488355328 then some (List.replicate a1.toNat (0:Int),(a0.1,true,a0.2.2),())else none else(vG n a0.1).bind λr1=>if decide (a1>r1.1)=true then if a1=a1/\0<=a1/\a1*1<=140737488355328 then some (List.replicate a1.toNat (0:Int),(a0.1,true,a0.2.2),())else none else if 0<=a1/\a1<=(a0.1.length:Int)then if 0<=a1/\a1<=(a0.1.length:Int)then some (a0.1.take a1.toNat,(a0.1.drop a1.toNat,a0.2),())else none else none
def Dj:Entry:=⟨169,[.rw uf [] [4294967295] [5],.val (.int .i64) []],[.val (.sl 5 (.int .u8)) [0] []],λn c=>zh n c.1 c.2.1⟩
theorem Ih[Fr][aI.LaidTab prog](n:Nat):aA prog n Dj:=aK mixed aH func169 (by kernel_rfl) (hi:=⟨0,[],[],[],[(126,some 16,A7)],[],[],[],[]⟩) (ak (DN n) aJ) (by intro n c;kernel_rfl)
def Be(n:Nat)(a0:BR):Option (Int×BR×Unit):=(zh n a0 2).bind λr1=>if aF 0 r1.1.length then if aF 1 r1.1.length then some (i64.wrap ((i64.wrap ((i64.wrap (r1.1.getD (0:Int).toNat 0))*256))+(i64.wrap (r1.1.getD (1:Int).toNat 0))),r1.2.1,())else none else none
def Gt:Entry:=⟨167,[.rw uf [] [4294967295] [5]],[.val (.int .i64) [] []],λn c=>Be n c.1⟩
theorem MH[Fr][aI.LaidTab prog](n:Nat):aA prog n Gt:=aK mixed aH func167 (by kernel_rfl) (hi:=⟨0,[],[],[],[(169,some 5,Dj)],[],[],[],[]⟩) (ak (Ih n) aJ) (by intro n c;kernel_rfl)
def xU(n:Nat)(a0:BR):Option (Int×BR×Unit):=(zh n a0 1).bind λr1=>if aF 0 r1.1.length then some (i64.wrap (r1.1.getD (0:Int).toNat 0),r1.2.1,())else none
def A8:Entry:=⟨168,[.rw uf [] [4294967295] [5]],[.val (.int .i64) [] []],λn c=>xU n c.1⟩
theorem DR[Fr][aI.LaidTab prog](n:Nat):aA prog n A8:=aK mixed aH func168 (by kernel_rfl) (hi:=⟨0,[],[],[],[(169,some 4,Dj)],[],[],[],[]⟩) (ak (Ih n) aJ) (by intro n c;kernel_rfl)
def GH(n:Nat)(a0:fD):Option (Bool×Unit):=if decide (a0.1=5)=true then some (true,())else some (decide (a0.1=6),())
def KJ:Entry:=⟨173,[.val gG []],[.val .bool [] []],λn c=>GH n c.1⟩
theorem Qv[Fr][aI.LaidTab prog](n:Nat):aA prog n KJ:=aK mixed aH func173 (by kernel_rfl) (hi:=ahF) aJ (by intro n c;kernel_rfl)
def GI(n:Nat)(a0:fD):Option (Bool×Unit):=(GH n a0).bind λr1=>if r1.1=true then some (true,())else some (decide (a0.1=4),())
def Xa:Entry:=⟨191,[.val gG []],[.val .bool [] []],λn c=>GI n c.1⟩
theorem ai4[Fr][aI.LaidTab prog](n:Nat):aA prog n Xa:=aK mixed aH func191 (by kernel_rfl) (hi:=⟨0,[],[],[],[(173,some 4,KJ)],[],[],[],[]⟩) (ak (Qv n) aJ) (by intro n c;kernel_rfl)
def KY(n:Nat)(a0:fD):Option (Bool×Unit):=(GH n a0).bind λr1=>if r1.1=true then(GI n a0).bind λr2=>if r2.1=true then if decide (a0.1=4)=true then if decide (a0.1=4)=true then if decide (a0.1=3)=true then some (true,())else if decide (a0.2.2.2.2.2.2.1=0)=true then some (decide ((a0.2.2.2.2.2.2.2.1.length:Int)=0),())else some (false,())else if decide (a0.1=3)=true then if decide (a0.1=3)=true then some (true,())else if decide (a0.2.2.2.2.2.2.1=0)=true then some (decide ((a0.2.2.2.2.2.2.2.1.length:Int)=0),())else some (false,())else if decide (a0.2.2.2.2.2.1=0)=true then if decide (a0.1=3)=true then some (true,())else if decide (a0.2.2.2.2.2.2.1=0)=true then some (decide ((a0.2.2.2.2.2.2.2.1.length:Int)=0),())else some (false,())else some (false,())else if decide (a0.2.2.2.2.1=0)=true then if decide (a0.1=4)=true then if decide (a0.1=3)=true then some (true,())else if decide (a0.2.2.2.2.2.2.1=0)=true then some (decide ((a0.2.2.2.2.2.2.2.1.length:Int)=0),())else some (false,())else if decide (a0.1=3)=true then if decide (a0.1=3)=true then some (true,())else if decide (a0.2.2.2.2.2.2.1=0)=true then some (decide ((a0.2.2.2.2.2.2.2.1.length:Int)=0),())else some (false,())else if decide (a0.2.2.2.2.2.1=0)=true then if decide (a0.1=3)=true then some (true,())else if decide (a0.2.2.2.2.2.2.1=0)=true then some (decide ((a0.2.2.2.2.2.2.2.1.length:Int)=0),())else some (false,())else some (false,())else some (false,())else if decide ((a0.2.2.2.1.length:Int)=0)=true then if decide (a0.1=4)=true then if decide (a0.1=4)=true then if decide (a0.1=3)=true then some (true,())else if decide (a0.2.2.2.2.2.2.1=0)=true then some (decide ((a0.2.2.2.2.2.2.2.1.length:Int)=0),())else some (false,())else if decide (a0.1=3)=true then if decide (a0.1=3)=true then some (true,())else if decide (a0.2.2.2.2.2.2.1=0)=true then some (decide ((a0.2.2.2.2.2.2.2.1.length:Int)=0),())else some (false,())else if decide (a0.2.2.2.2.2.1=0)=true then if decide (a0.1=3)=true then some (true,())else if decide (a0.2.2.2.2.2.2.1=0)=true then some (decide ((a0.2.2.2.2.2.2.2.1.length:Int)=0),())else some (false,())else some (false,())else if decide (a0.2.2.2.2.1=0)=true then if decide (a0.1=4)=true then if decide (a0.1=3)=true then some (true,())else if decide (a0.2.2.2.2.2.2.1=0)=true then some (decide ((a0.2.2.2.2.2.2.2.1.length:Int)=0),())else some (false,())else if decide (a0.1=3)=true then if decide (a0.1=3)=true then some (true,())else if decide (a0.2.2.2.2.2.2.1=0)=true then some (decide ((a0.2.2.2.2.2.2.2.1.length:Int)=0),())else some (false,())else if decide (a0.2.2.2.2.2.1=0)=true then if decide (a0.1=3)=true then some (true,())else if decide (a0.2.2.2.2.2.2.1=0)=true then some (decide ((a0.2.2.2.2.2.2.2.1.length:Int)=0),())else some (false,())else some (false,())else some (false,())else some (false,())else if decide (a0.2.2.1=([]:List Int))=true then(GI n a0).bind λr3=>if r3.1=true then if decide (a0.1=4)=true then if decide (a0.1=4)=true then if decide (a0.1=3)=true then some (true,())else if decide (a0.2.2.2.2.2.2.1=0)=true then some (decide ((a0.2.2.2.2.2.2.2.1.length:Int)=0),())else some (false,())else if decide (a0.1=3)=true then if decide (a0.1=3)=true then some (true,())else if decide (a0.2.2.2.2.2.2.1=0)=true then some (decide ((a0.2.2.2.2.2.2.2.1.length:Int)=0),())else some (false,())else if decide (a0.2.2.2.2.2.1=0)=true then if decide (a0.1=3)=true then some (true,())else if decide (a0.2.2.2.2.2.2.1=0)=true then some (decide ((a0.2.2.2.2.2.2.2.1.length:Int)=0),())else some (false,())else some (false,())else if decide (a0.2.2.2.2.1=0)=true then if decide (a0.1=4)=true then if decide (a0.1=3)=true then some (true,())else if decide (a0.2.2.2.2.2.2.1=0)=true then some (decide ((a0.2.2.2.2.2.2.2.1.length:Int)=0),())else some (false,())else if decide (a0.1=3)=true then if decide (a0.1=3)=true then some (true,())else if decide (a0.2.2.2.2.2.2.1=0)=true then some (decide ((a0.2.2.2.2.2.2.2.1.length:Int)=0),())else some (false,())else if decide (a0.2.2.2.2.2.1=0)=true then if decide (a0.1=3)=true then some (true,())else if decide (a0.2.2.2.2.2.2.1=0)=true then some (decide ((a0.2.2.2.2.2.2.2.1.length:Int)=0),())else some (false,())else some (false,())else some (false,())else if decide ((a0.2.2.2.1.length:Int)=0)=true then if decide (a0.1=4)=true then if decide (a0.1=4)=true then if decide (a0.1=3)=true then some (true,())else if decide (a0.2.2.2.2.2.2.1=0)=true then some (decide ((a0.2.2.2.2.2.2.2.1.length:Int)=0),())else some (false,())else if decide (a0.1=3)=true then if decide (a0.1=3)=true then some (true,())else if decide (a0.2.2.2.2.2.2.1=0)=true then some (decide ((a0.2.2.2.2.2.2.2.1.length:Int)=0),())else some (false,())else if decide (a0.2.2.2.2.2.1=0)=true then if decide (a0.1=3)=true then some (true,())else if decide (a0.2.2.2.2.2.2.1=0)=true then some (decide ((a0.2.2.2.2.2.2.2.1.length:Int)=0),())else some (false,())else some (false,())else if decide (a0.2.2.2.2.1=0)=true then if decide (a0.1=4)=true then if decide (a0.1=3)=true then some (true,())else if decide (a0.2.2.2.2.2.2.1=0)=true then some (decide ((a0.2.2.2.2.2.2.2.1.length:Int)=0),())else some (false,())else if decide (a0.1=3)=true then if decide (a0.1=3)=true then some (true,())else if decide (a0.2.2.2.2.2.2.1=0)=true then some (decide ((a0.2.2.2.2.2.2.2.1.length:Int)=0),())else some (false,())else if decide (a0.2.2.2.2.2.1=0)=true then if decide (a0.1=3)=true then some (true,())else if decide (a0.2.2.2.2.2.2.1=0)=true then some (decide ((a0.2.2.2.2.2.2.2.1.length:Int)=0),())else some (false,())else some (false,())else some (false,())else some (false,())else some (false,())
def Xb:Entry:=⟨172,[.val gG []],[.val .bool [] []],λn c=>KY n c.1⟩
theorem ai5[Fr][aI.LaidTab prog](n:Nat):aA prog n Xb:=aK mixed aH func172 (by kernel_rfl) (hi:=⟨0,[],[],[],[(173,some 12,KJ),(191,some 20,Xa)],[],[],[],[]⟩) (ak (Qv n) (ak (ai4 n) aJ)) (by intro n c;kernel_rfl)
def Dr(n:Nat)(a0:List Int):Option (Bool×Unit):=rounds (λL1 (v1:(List Int)×(List Int)×Int×Int×Unit)=>if decide (v1.2.2.2.1<v1.2.2.1)=true then if aF v1.2.2.2.1 v1.2.1.length then(Dt n (v1.2.1.getD v1.2.2.2.1.toNat 0)).bind λr2=>if(!r2.1)=true then some (false,())else if decide (v1.2.2.2.1>0)=true then if aF (i64.wrap (v1.2.2.2.1-1)) v1.1.length then if decide ((v1.1.getD (i64.wrap (v1.2.2.2.1-1)).toNat 0)>=(v1.2.1.getD v1.2.2.2.1.toNat 0))=true then some (false,())else L1 (v1.1,v1.2.1,v1.2.2.1,i64.wrap (v1.2.2.2.1+1),())else none else L1 (v1.1,v1.2.1,v1.2.2.1,i64.wrap (v1.2.2.2.1+1),())else none else some (true,())) n (a0,a0,(a0.length:Int),0,())
def PE:Entry:=⟨76,[.val (.sl 2 (.int .i64)) []],[.val .bool [] []],λn c=>Dr n c.1⟩
theorem Yw[Fr][aI.LaidTab prog](n:Nat):aA prog n PE:=aK mixed aH func76 (by kernel_rfl) (hi:=⟨0,[],[(0,[0,5,6,7],[])],[],[(106,some 13,Px)],[],[],[],[]⟩) (ak (Yr n) aJ) (by intro n c;kernel_rfl)
def GG(n:Nat)(a0:fD):Option (Int×Unit):=(qY n a0.1 1 7).bind λr1=>if(!r1.1)=true then some (1,())else(KY n a0).bind λr2=>if(!r2.1)=true then some (1,())else(zf n a0.2.1).bind λr3=>if(!r3.1)=true then some (5,())else(GH n a0).bind λr4=>if r4.1=true then(zf n a0.2.2.1).bind λr5=>if(!r5.1)=true then some (5,())else if decide ((a0.2.2.2.1.length:Int)>6)=true then some (2,())else(Dr n a0.2.2.2.1).bind λr6=>if(!r6.1)=true then some (3,())else if decide (a0.1=4)=true then(qY n a0.2.2.2.2.1 1 3).bind λr7=>if(!r7.1)=true then some (3,())else(xR n a0.2.2.2.2.2.1).bind λr8=>if(!r8.1)=true then some (3,())else(xS n a0.2.2.2.2.2.2.1).bind λr9=>if(!r9.1)=true then some (3,())else if decide ((a0.2.2.2.2.2.2.2.1.length:Int)>400)=true then some (2,())else some (0,())else(xR n a0.2.2.2.2.2.1).bind λo7=>if(!o7.1)=true then some (3,())else(xS n a0.2.2.2.2.2.2.1).bind λlY=>if(!lY.1)=true then some (3,())else if decide ((a0.2.2.2.2.2.2.2.1.length:Int)>400)=true then some (2,())else some (0,())else if decide ((a0.2.2.2.1.length:Int)>6)=true then some (2,())else(Dr n a0.2.2.2.1).bind λmK=>if(!mK.1)=true then some (3,())else if decide (a0.1=4)=true then(qY n a0.2.2.2.2.1 1 3).bind λpQ=>if(!pQ.1)=true then some (3,())else(xR n a0.2.2.2.2.2.1).bind λwI=>if(!wI.1)=true then some (3,())else(xS n a0.2.2.2.2.2.2.1).bind λtq=>if(!tq.1)=true then some (3,())else if decide ((a0.2.2.2.2.2.2.2.1.length:Int)>400)=true then some (2,())else some (0,())else(xR n a0.2.2.2.2.2.1).bind λr16=>if(!r16.1)=true then some (3,())else(xS n a0.2.2.2.2.2.2.1).bind λFR=>if(!FR.1)=true then some (3,())else if decide ((a0.2.2.2.2.2.2.2.1.length:Int)>400)=true then some (2,())else some (0,())
def PG:Entry:=⟨147,[.val gG []],[.val (.int .i64) [] []],λn c=>GG n c.1⟩
theorem Yx[Fr][aI.LaidTab prog](n:Nat):aA prog n PG:=aK mixed aH func147 (by kernel_rfl) (hi:=⟨0,[],[],[],[(46,some 6,tL),(172,some 10,Xb),(77,some 16,Gs),(173,some 20,KJ),(77,some 24,Gs),(76,some 36,PE),(46,some 45,tL),(165,some 52,Py),(166,some 58,Pz)],[],[],[],[]⟩) (ak (uN n) (ak (ai5 n) (ak (MG n) (ak (Qv n) (ak (MG n) (ak (Yw n) (ak (uN n) (ak (Yt n) (ak (Yu n) aJ))))))))) (by intro n c;kernel_rfl)
def zi(n:Nat)(a0:Int):Option ((List Int)×Unit):=if(256:Int)≠0 then if(256:Int)≠0 then some ([u8.wrap (i64.wrap (a0.tdiv 256)),u8.wrap (a0.tmod 256)],())else none else none
def Dk:Entry:=⟨189,[.val (.int .i64) []],[.own (.sl 5 (.int .u8)) [5] [] []],λn c=>zi n c.1⟩
theorem Ii[Fr][aI.LaidTab prog](n:Nat):aA prog n Dk:=aK mixed aH func189 (by kernel_rfl) (hi:=ahF) aJ (by intro n c;kernel_rfl)
def Le(n:Nat)(a0:List Int):Option (Int×Unit):=rounds (λL1 (v1:Int×(List Int)×Int×Int×Unit)=>if decide (v1.2.2.2.1<v1.2.2.1)=true then if aF v1.2.2.2.1 v1.2.1.length then if(65521:Int)≠0 then L1 ((i64.wrap ((i64.wrap (v1.1*31))+(i64.wrap (v1.2.1.getD v1.2.2.2.1.toNat 0)))).tmod (65521:Int),v1.2.1,v1.2.2.1,i64.wrap (v1.2.2.2.1+1),())else none else none else some (v1.1,())) n (1,a0,(a0.length:Int),0,())
def Xc:Entry:=⟨190,[.val (.sl 5 (.int .u8)) []],[.val (.int .i64) [] []],λn c=>Le n c.1⟩
theorem ai6[Fr][aI.LaidTab prog](n:Nat):aA prog n Xc:=aK mixed aH func190 (by kernel_rfl) (hi:=⟨0,[],[(0,[3,6,7,8],[])],[],[],[],[],[],[]⟩) aJ (by intro n c;kernel_rfl)
def Lc(n:Nat)(a0:fD):Option ((List Int)×Unit):=if([u8.wrap a0.1,u8.wrap (a0.2.1.length:Int)].length+a0.2.1.length)*1<=140737488355328 then if(([u8.wrap a0.1,u8.wrap (a0.2.1.length:Int)]++a0.2.1).length+[u8.wrap (a0.2.2.1.length:Int)].length)*1<=140737488355328 then if((([u8.wrap a0.1,u8.wrap (a0.2.1.length:Int)]++a0.2.1)++[u8.wrap (a0.2.2.1.length:Int)]).length+a0.2.2.1.length)*1<=140737488355328 then if(((([u8.wrap a0.1,u8.wrap (a0.2.1.length:Int)]++a0.2.1)++[u8.wrap (a0.2.2.1.length:Int)])++a0.2.2.1).length+[u8.wrap (a0.2.2.2.1.length:Int)].length)*1<=140737488355328 then rounds (λL1 (v1:(List Int)×Int×Int×fD×(List Int)×Unit)=>if decide (v1.2.2.1<v1.2.1)=true then if aF v1.2.2.1 v1.1.length then(zi n (v1.1.getD v1.2.2.1.toNat 0)).bind λr2=>if(v1.2.2.2.2.1.length+r2.1.length)*1<=140737488355328 then L1 (v1.1,v1.2.1,i64.wrap (v1.2.2.1+1),v1.2.2.2.1,v1.2.2.2.2.1++r2.1,())else none else none else if(v1.2.2.2.2.1.length+[u8.wrap v1.2.2.2.1.2.2.2.2.1,u8.wrap v1.2.2.2.1.2.2.2.2.2.1].length)*1<=140737488355328 then(zi n v1.2.2.2.1.2.2.2.2.2.2.1).bind λr3=>if((v1.2.2.2.2.1++[u8.wrap v1.2.2.2.1.2.2.2.2.1,u8.wrap v1.2.2.2.1.2.2.2.2.2.1]).length+r3.1.length)*1<=140737488355328 then(vG n v1.2.2.2.1.2.2.2.2.2.2.2.1).bind λr4=>(zi n r4.1).bind λr5=>if(((v1.2.2.2.2.1++[u8.wrap v1.2.2.2.1.2.2.2.2.1,u8.wrap v1.2.2.2.1.2.2.2.2.2.1])++r3.1).length+r5.1.length)*1<=140737488355328 then if((((v1.2.2.2.2.1++[u8.wrap v1.2.2.2.1.2.2.2.2.1,u8.wrap v1.2.2.2.1.2.2.2.2.2.1])++r3.1)++r5.1).length+v1.2.2.2.1.2.2.2.2.2.2.2.1.length)*1<=140737488355328 then(vG n ((((v1.2.2.2.2.1++[u8.wrap v1.2.2.2.1.2.2.2.2.1,u8.wrap v1.2.2.2.1.2.2.2.2.2.1])++r3.1)++r5.1)++v1.2.2.2.1.2.2.2.2.2.2.2.1)).bind λr6=>(zi n (i64.wrap (r6.1+4))).bind λr7=>if(r7.1.length+((((v1.2.2.2.2.1++[u8.wrap v1.2.2.2.1.2.2.2.2.1,u8.wrap v1.2.2.2.1.2.2.2.2.2.1])++r3.1)++r5.1)++v1.2.2.2.1.2.2.2.2.2.2.2.1).length)*1<=140737488355328 then(Le n (r7.1++((((v1.2.2.2.2.1++[u8.wrap v1.2.2.2.1.2.2.2.2.1,u8.wrap v1.2.2.2.1.2.2.2.2.2.1])++r3.1)++r5.1)++v1.2.2.2.1.2.2.2.2.2.2.2.1))).bind λr8=>(zi n r8.1).bind λr9=>if((r7.1++((((v1.2.2.2.2.1++[u8.wrap v1.2.2.2.1.2.2.2.2.1,u8.wrap v1.2.2.2.1.2.2.2.2.2.1])++r3.1)++r5.1)++v1.2.2.2.1.2.2.2.2.2.2.2.1)).length+r9.1.length)*1<=140737488355328 then some ((r7.1++((((v1.2.2.2.2.1++[u8.wrap v1.2.2.2.1.2.2.2.2.1,u8.wrap v1.2.2.2.1.2.2.2.2.2.1])++r3.1)++r5.1)++v1.2.2.2.1.2.2.2.2.2.2.2.1))++r9.1,())else none else none else none else none else none else none) n (a0.2.2.2.1,(a0.2.2.2.1.length:Int),0,a0,((([u8.wrap a0.1,u8.wrap (a0.2.1.length:Int)]++a0.2.1)++[u8.wrap (a0.2.2.1.length:Int)])++a0.2.2.1)++[u8.wrap (a0.2.2.2.1.length:Int)],())else none else none else none else none
def Xd:Entry:=⟨171,[.val gG []],[.own (.sl 5 (.int .u8)) [5] [] []],λn c=>Lc n c.1⟩
theorem ai7[Fr][aI.LaidTab prog](n:Nat):aA prog n Xd:=aK mixed aH func171 (by kernel_rfl) (hi:=⟨0,[],[(0,[1,3,37,38,39],[34,450])],[],[(189,some 45,Dk),(189,some 60,Dk),(126,some 64,A7),(189,some 65,Dk),(126,some 72,A7),(189,some 74,Dk),(190,some 79,Xc),(189,some 80,Dk)],[],[],[],[]⟩) (ak (Ii n) (ak (Ii n) (ak (DN n) (ak (Ii n) (ak (DN n) (ak (Ii n) (ak (ai6 n) (ak (Ii n) aJ)))))))) (by intro n c;kernel_rfl)
def PO(n:Nat)(a0:List Int)(a1:List Int):Option (Bool×Unit):=some (decide (a0=a1),())
def Xe:Entry:=⟨170,[.val (.sl 5 (.int .u8)) [],.val (.sl 5 (.int .u8)) []],[.val .bool [] []],λn c=>PO n c.1 c.2.1⟩
theorem ai8[Fr][aI.LaidTab prog](n:Nat):aA prog n Xe:=aK mixed aH func170 (by kernel_rfl) (hi:=ahF) aJ (by intro n c;kernel_rfl)
def GQ(n:Nat)(a0:List Int):Option (fD×Int×Unit):=(Be n (a0,false,())).bind λr1=>if r1.2.1.2.1=true then some (sw,0,())else(vG n a0).bind λr2=>if decide (r1.1>r2.1)=true then some (sw,0,())else if 0<=(2:Int)/\(2:Int)<=(if r1.1>2 then r1.1 else(2:Int))/\(if r1.1>2 then r1.1 else(2:Int))<=(a0.length:Int)then(xU n ((a0.take (if r1.1>2 then r1.1 else(2:Int)).toNat).drop (2:Int).toNat,r1.2.1.2)).bind λr3=>(xU n r3.2.1).bind λr4=>(zh n r4.2.1 r4.1).bind λr5=>(xU n r5.2.1).bind λr6=>(zh n r6.2.1 r6.1).bind λr7=>(xU n r7.2.1).bind λr8=>rounds (λL9 (v9:(List Int)×Int×Int×Int×fD×fD×BR×Unit)=>if decide (v9.2.2.2.1<v9.2.2.1)=true then(Be n v9.2.2.2.2.2.2.1).bind λo7=>if(v9.2.2.2.2.2.1.2.2.2.1.length+[o7.1].length)*8<=140737488355328 then L9 (v9.1,v9.2.1,v9.2.2.1,i64.wrap (v9.2.2.2.1+1),v9.2.2.2.2.1,(v9.2.2.2.2.2.1.1,v9.2.2.2.2.2.1.2.1,v9.2.2.2.2.2.1.2.2.1,v9.2.2.2.2.2.1.2.2.2.1++[o7.1],v9.2.2.2.2.2.1.2.2.2.2),o7.2.1,())else none else(xU n v9.2.2.2.2.2.2.1).bind λlY=>(xU n lY.2.1).bind λmK=>(Be n mK.2.1).bind λpQ=>(Be n pQ.2.1).bind λwI=>(zh n wI.2.1 wI.1).bind λtq=>if(([]:List Int).length+tq.1.length)*1<=140737488355328 then if tq.2.1.2.1=true then some (sw,0,())else(GG n (v9.2.2.2.2.2.1.1,v9.2.2.2.2.2.1.2.1,v9.2.2.2.2.2.1.2.2.1,v9.2.2.2.2.2.1.2.2.2.1,lY.1,mK.1,pQ.1,([]:List Int)++tq.1,v9.2.2.2.2.2.1.2.2.2.2.2.2.2.2)).bind λr16=>if(!decide (r16.1=0))=true then some (sw,0,())else(Lc n (v9.2.2.2.2.2.1.1,v9.2.2.2.2.2.1.2.1,v9.2.2.2.2.2.1.2.2.1,v9.2.2.2.2.2.1.2.2.2.1,lY.1,mK.1,pQ.1,([]:List Int)++tq.1,v9.2.2.2.2.2.1.2.2.2.2.2.2.2.2)).bind λFR=>if 0<=v9.2.1/\v9.2.1<=(v9.1.length:Int)then(PO n FR.1 (v9.1.take v9.2.1.toNat)).bind λUH=>if(!UH.1)=true then some (sw,0,())else some ((v9.2.2.2.2.2.1.1,v9.2.2.2.2.2.1.2.1,v9.2.2.2.2.2.1.2.2.1,v9.2.2.2.2.2.1.2.2.2.1,lY.1,mK.1,pQ.1,([]:List Int)++tq.1,v9.2.2.2.2.2.1.2.2.2.2.2.2.2.2),v9.2.1,())else none else none) n (a0,r1.1,r8.1,0,sw,(r3.1,r5.1,r7.1,([]:List Int),0,0,0,([]:List Int),()),r8.2.1,())else none
def Xf:Entry:=⟨146,[.val (.sl 5 (.int .u8)) []],[.own gG [2,5] [] [],.val (.int .i64) [] []],λn c=>GQ n c.1⟩
theorem ai9[Fr][aI.LaidTab prog](n:Nat):aA prog n Xf:=aK mixed aH func146 (by kernel_rfl) (hi:=⟨0,[50,92],[(0,[0,2,4,5,6,46,47],[66,194,290])],[],[(167,some 11,Gt),(126,some 19,A7),(168,some 31,A8),(168,some 35,A8),(169,some 36,Dj),(168,some 41,A8),(169,some 42,Dj),(168,some 46,A8),(167,some 52,Gt),(168,some 58,A8),(168,some 61,A8),(167,some 64,Gt),(167,some 69,Gt),(169,some 70,Dj),(147,some 79,PG),(171,some 84,Xd),(170,some 88,Xe)],[],[],[],[]⟩) (ak (MH n) (ak (DN n) (ak (DR n) (ak (DR n) (ak (Ih n) (ak (DR n) (ak (Ih n) (ak (DR n) (ak (MH n) (ak (DR n) (ak (DR n) (ak (MH n) (ak (MH n) (ak (Ih n) (ak (Yx n) (ak (ai7 n) (ak (ai8 n) aJ))))))))))))))))) (by intro n c;kernel_rfl)
def GR(n:Nat)(a0:List Int):Option ((List fD)×Int×Unit):=rounds (λL1 (v1:(List Int)×Int×(List fD)×Unit)=>if 0<=v1.2.1/\v1.2.1<=(v1.1.length:Int)then(GQ n (v1.1.drop v1.2.1.toNat)).bind λr2=>if decide (r2.2.1=0)=true then some (v1.2.2.1,v1.2.1,())else if(v1.2.2.1.length+[r2.1].length)*112<=140737488355328 then L1 (v1.1,i64.wrap (v1.2.1+r2.2.1),v1.2.2.1++[r2.1],())else none else none) n (a0,0,([]:List fD),())
def PI:Entry:=⟨125,[.val (.sl 5 (.int .u8)) []],[.own (.sl 155 gG) [2,5,155] [] [],.val (.int .i64) [] []],λn c=>GR n c.1⟩
theorem Yy[Fr][aI.LaidTab prog](n:Nat):aA prog n PI:=aK mixed aH func125 (by kernel_rfl) (hi:=⟨0,[21],[(0,[0,4,5],[258])],[],[(146,some 13,Xf)],[],[],[],[]⟩) (ak (ai9 n) aJ) (by intro n c;kernel_rfl)
def GM(n:Nat)(a0:p_):Option ((List fD)×Bool×Unit):=(GR n a0.2.1).bind λr1=>(GR n a0.2.2.1).bind λr2=>if(r1.1.length+r2.1.length)*112<=140737488355328 then(vG n a0.2.1).bind λr3=>if decide (r1.2.1=r3.1)=true then(vG n a0.2.2.1).bind λr4=>some (r1.1++r2.1,decide (r2.2.1=r4.1),())else some (r1.1++r2.1,false,())else none
def Xh:Entry:=⟨102,[.val qF []],[.own (.sl 155 gG) [2,5,155] [] [],.val .bool [] []],λn c=>GM n c.1⟩
theorem aja[Fr][aI.LaidTab prog](n:Nat):aA prog n Xh:=aK mixed aH func102 (by kernel_rfl) (hi:=⟨0,[],[],[],[(125,some 11,PI),(125,some 17,PI),(126,some 26,A7),(126,some 32,A7)],[],[],[],[]⟩) (ak (Yy n) (ak (Yy n) (ak (DN n) (ak (DN n) aJ)))) (by intro n c;kernel_rfl)
def K_(n:Nat)  : Option (dU×Unit):=some ((1,([]:List cz),()),())
def Xi:Entry:=⟨104,[],[.own jv [5,81,113] [] []],λn c=>K_ n⟩
theorem ajb[Fr][aI.LaidTab prog](n:Nat):aA prog n Xi:=aK mixed aH func104 (by kernel_rfl) (hi:=ahF) aJ (by intro n c;kernel_rfl)
def zm(n:Nat)(a0:List Int):Option ((List Int)×Unit):=if a0.isEmpty=true then yt [(.sl 5 (.int .u8))] (some (([]:List Int),())) (if(([]:List Int).length+a0.length)*1<=140737488355328 then some (([]:List Int)++a0,())else none)else if(([]:List Int).length+a0.length)*1<=140737488355328 then some (([]:List Int)++a0,())else none
def Dl:Entry:=⟨78,[.val (.sl 5 (.int .u8)) []],[.own (.sl 5 (.int .u8)) [5] [] []],λn c=>zm n c.1⟩
theorem Ij[Fr][aI.LaidTab prog](n:Nat):aA prog n Dl:=aK mixed aH func78 (by kernel_rfl) (hi:=ahF) aJ (by intro n c;kernel_rfl)
def Dq(n:Nat)(a0:dU):Option (dU×Unit):=rounds (λL1 (v1:(List cz)×Int×Int×dU×dU×Unit)=>if decide (v1.2.2.1<v1.2.1)=true then if aF v1.2.2.1 v1.1.length then rounds (λL2 (v2:(List cz)×Int×Int×(List dK)×Int×Int×dU×dU×cz×Unit)=>if decide (v2.2.2.2.2.2.1<v2.2.2.2.2.1)=true then if aF v2.2.2.2.2.2.1 v2.2.2.2.1.length then(zm n (((((v2.2.2.2.1.getD v2.2.2.2.2.2.1.toNat bT).2).2).2).1)).bind λr3=>if(v2.2.2.2.2.2.2.2.2.1.2.2.2.1.length+[((v2.2.2.2.1.getD v2.2.2.2.2.2.1.toNat bT).1,((v2.2.2.2.1.getD v2.2.2.2.2.2.1.toNat bT).2).1,(((v2.2.2.2.1.getD v2.2.2.2.2.2.1.toNat bT).2).2).1,r3.1,((((v2.2.2.2.1.getD v2.2.2.2.2.2.1.toNat bT).2).2).2).2)].length)*48<=140737488355328 then L2 (v2.1,v2.2.1,v2.2.2.1,v2.2.2.2.1,v2.2.2.2.2.1,i64.wrap (v2.2.2.2.2.2.1+1),v2.2.2.2.2.2.2.1,v2.2.2.2.2.2.2.2.1,(v2.2.2.2.2.2.2.2.2.1.1,v2.2.2.2.2.2.2.2.2.1.2.1,v2.2.2.2.2.2.2.2.2.1.2.2.1,v2.2.2.2.2.2.2.2.2.1.2.2.2.1++[((v2.2.2.2.1.getD v2.2.2.2.2.2.1.toNat bT).1,((v2.2.2.2.1.getD v2.2.2.2.2.2.1.toNat bT).2).1,(((v2.2.2.2.1.getD v2.2.2.2.2.2.1.toNat bT).2).2).1,r3.1,((((v2.2.2.2.1.getD v2.2.2.2.2.2.1.toNat bT).2).2).2).2)],v2.2.2.2.2.2.2.2.2.1.2.2.2.2),())else none else none else if(v2.2.2.2.2.2.2.2.1.2.1.length+[v2.2.2.2.2.2.2.2.2.1].length)*56<=140737488355328 then L1 (v2.1,v2.2.1,i64.wrap (v2.2.2.1+1),v2.2.2.2.2.2.2.1,(v2.2.2.2.2.2.2.2.1.1,v2.2.2.2.2.2.2.2.1.2.1++[v2.2.2.2.2.2.2.2.2.1],v2.2.2.2.2.2.2.2.1.2.2),())else none) n (v1.1,v1.2.1,v1.2.2.1,((((v1.1.getD v1.2.2.1.toNat bS).2).2).2).1,((((((v1.1.getD v1.2.2.1.toNat bS).2).2).2).1).length:Int),0,v1.2.2.2.1,v1.2.2.2.2.1,((v1.1.getD v1.2.2.1.toNat bS).1,((v1.1.getD v1.2.2.1.toNat bS).2).1,(((v1.1.getD v1.2.2.1.toNat bS).2).2).1,([]:List dK),()),())else none else some (v1.2.2.2.2.1,())) n (a0.2.1,(a0.2.1.length:Int),0,zM,(a0.1,([]:List cz),()),())
def KL:Entry:=⟨79,[.val jv []],[.own jv [5,81,113] [] []],λn c=>Dq n c.1⟩
theorem Qw[Fr][aI.LaidTab prog](n:Nat):aA prog n KL:=aK mixed aH func79 (by kernel_rfl) (hi:=⟨0,[38,39,45,46,51],[(0,[2,3,13,14,15],[66,98]),(2,[2,3,6,13,14,15,27,28,29],[66,98,194])],[],[(78,some 35,Dl)],[],[],[],[]⟩) (ak (Ij n) aJ) (by intro n c;kernel_rfl)
def PS(n:Nat)(a0:cz)(a1:List Int):Option (Bool×Unit):=some (decide (a0.1=a1),())
def Xj:Entry:=⟨109,[.val gV [],.ro .str],[.val .bool [] []],λn c=>PS n c.1 c.2.1⟩
theorem ajc[Fr][aI.LaidTab prog](n:Nat):aA prog n Xj:=aK mixed aH func109 (by kernel_rfl) (hi:=ahF) aJ (by intro n c;kernel_rfl)
def P8(n:Nat)(a0:List cz)(lK:List Int):Option (Int×Unit):=rounds (λL1 (v1:(List cz)×(List Int)×Int×Int×Unit)=>if decide (v1.2.2.2.1<v1.2.2.1)=true then if aF v1.2.2.2.1 v1.1.length then(PS n (v1.1.getD v1.2.2.2.1.toNat bS) v1.2.1).bind λr2=>if r2.1=true then some (v1.2.2.2.1,())else L1 (v1.1,v1.2.1,v1.2.2.1,i64.wrap (v1.2.2.2.1+1),())else none else some ((-1),())) n (a0,lK,(a0.length:Int),0,())
def Xk:Entry:=⟨108,[.val (.sl 81 gV) [],.fn 109 [.str]],[.val (.int .i64) [] []],λn c=>P8 n c.1 c.2.1⟩
theorem ajd[Fr][aI.LaidTab prog](n:Nat):aA prog n Xk:=aK mixed aH func108 (by kernel_rfl) (hi:=⟨0,[],[(0,[0,1,7,8],[])],[],[(109,some 16,Xj)],[],[],[],[]⟩) (ak (ajc n) aJ) (by intro n c;kernel_rfl)
def Bb(n:Nat)(a0:dU)(a1:List Int):Option (Int×Unit):=(P8 n a0.2.1 a1).bind λr1=>some (r1.1,())
def Gu:Entry:=⟨80,[.val jv [],.val .str []],[.val (.int .i64) [] []],λn c=>Bb n c.1 c.2.1⟩
theorem MI[Fr][aI.LaidTab prog](n:Nat):aA prog n Gu:=aK mixed aH func80 (by kernel_rfl) (hi:=⟨0,[],[],[],[(108,some 8,Xk)],[],[],[],[]⟩) (ak (ajd n) aJ) (by intro n c;kernel_rfl)
def K6(n:Nat)(a0:dU)(a1:List Int):Option (Int×dU×Unit):=(Bb n a0 a1).bind λr1=>if decide (r1.1>=0)=true then some (6,a0,())else if decide ((a0.2.1.length:Int)=3)=true then some (10,a0,())else if decide (a0.1=1000)=true then some (10,a0,())else if(a0.2.1.length+[(a1,a0.1,1,([]:List dK),())].length)*56<=140737488355328 then some (0,(i64.wrap (a0.1+1),a0.2.1++[(a1,a0.1,1,([]:List dK),())],a0.2.2),())else none
def Xl:Entry:=⟨174,[.rw jv [5,81,113] [5,81,113,4294967295] [5,81,113],.val .str []],[.val (.int .i64) [] []],λn c=>K6 n c.1 c.2.1⟩
theorem aje[Fr][aI.LaidTab prog](n:Nat):aA prog n Xl:=aK mixed aH func174 (by kernel_rfl) (hi:=⟨0,[30],[],[],[(80,some 10,Gu)],[],[],[],[]⟩) (ak (MI n) aJ) (by intro n c;kernel_rfl)
namespace Qh
def wK:t_:={ ty:=[(2,(.int .i64)),(3,(.int .i64)),(4,.bool),(5,(.int .u8)),(6,(.int .u8)),(7,xe),(8,xe),(9,.str),(10,.str),(11,.str),(12,(.int .u64)),(13,w_),(14,w_),(21,(.int .i32)),(22,(.sl 5 (.int .u8))),(23,(.sl 130 vQ)),(24,BL),(25,BL),(26,BO),(27,BO),(28,(.sl 75 gN)),(29,BQ),(30,BQ),(32,(.sl 9 .str)),(33,(.sl 81 IE)),(34,M_),(35,M_),(36,Q9),(37,Q9),(38,(.sl 65 gN)),(39,Q_),(40,Q_),(41,Y1),(42,Y1),(63,(.sl 2 (.int .i64))),(64,gN),(65,gN),(75,gN),(79,(.sl 113 gW)),(80,IE),(81,IE),(112,gW),(113,gW),(128,(.sl 175 gW)),(129,vQ),(130,vQ),(132,(.sl 155 gG)),(135,Y0),(136,Y0),(154,gG),(155,gG),(168,(.int .u64)),(175,gW),(178,vR),(179,vR),(195,(.int .u32)),(198,(.int .u64)),(208,uf),(209,uf),(220,ug),(221,ug),(239,(.int .u8)),(240,(.int .u8)),(243,(.int .i32)),(244,(.int .i32))],bytes:=[(2,8),(3,8),(4,1),(5,1),(6,1),(7,24),(8,24),(9,16),(10,16),(11,16),(12,8),(13,24),(14,24),(21,4),(22,24),(23,24),(24,32),(25,32),(26,88),(27,88),(28,24),(29,112),(30,112),(32,24),(33,24),(34,32),(35,32),(36,88),(37,88),(38,24),(39,112),(40,112),(41,144),(42,144),(63,24),(64,56),(65,56),(75,56),(79,24),(80,56),(81,56),(112,48),(113,48),(128,24),(129,56),(130,56),(132,24),(135,64),(136,64),(154,112),(155,112),(168,8),(175,48),(178,128),(179,128),(195,4),(198,8),(208,32),(209,32),(220,40),(221,40),(239,1),(240,1),(243,4),(244,4)],ptr:=[15,16,17,53,62,85,107,111,177,182,207,223,242],ids:=true }
def T:bL:=wK.tab
theorem aH:y7 prog wK=true:=by kernel_rfl
theorem mixed:prog.follows .mixedOrders=true:=by kernel_rfl
def DJ(n:Nat)(a0:List Y2)(a1:Int)(a2:Int):Option Zt8:=if 0<=a1/\a1<=a2/\a2<=(a0.length:Int)/\(a0.length:Int)<=(a0.length:Int)then if decide (a1=a2)=true then some (((a0.length:Nat):Int),a0,())else if 0<=(0:Int)/\(0:Int)<=a1/\a1<=(a0.length:Int)then if 0<=a2/\a2<=(a0.length:Int)/\(a0.length:Int)<=(a0.length:Int)then if a1.toNat<=a2.toNat then if 0<=(((a1.toNat+((a0.length:Int).toNat-a2.toNat))-0:Nat):Int)/\(((a1.toNat+((a0.length:Int).toNat-a2.toNat))-0:Nat):Int)<=(a0.length:Int)/\((0:Nat):Int)+(a0.length:Int)<=((a0.take a1.toNat++(a0.take ((a0.length:Int).toNat)).drop a2.toNat++a0.drop (a1.toNat+((a0.length:Int).toNat-a2.toNat))).length:Int)then some ((((a1.toNat+((a0.length:Int).toNat-a2.toNat)):Nat):Int),(a0.take a1.toNat++(a0.take ((a0.length:Int).toNat)).drop a2.toNat++a0.drop (a1.toNat+((a0.length:Int).toNat-a2.toNat))).take (0+(((a1.toNat+((a0.length:Int).toNat-a2.toNat))-0:Nat):Int).toNat)++List.replicate ((0+(a0.length:Int).toNat)-(0+(((a1.toNat+((a0.length:Int).toNat-a2.toNat))-0:Nat):Int).toNat)) (([]:List Int),0,0,(0:Nat),())++(a0.take a1.toNat++(a0.take ((a0.length:Int).toNat)).drop a2.toNat++a0.drop (a1.toNat+((a0.length:Int).toNat-a2.toNat))).drop (0+(a0.length:Int).toNat),())else none else none else none else none else none
def KM:Entry:=⟨175,[.bO (.sl 81 IE) [5,81,113] [81],.val (.int .i64) [],.val (.int .i64) []],[.into 0 []],λn c=>DJ n c.1 c.2.1 c.2.2.1⟩
theorem Qx[Fr](n:Nat):aA prog n KM:=aK mixed aH func175 (by kernel_rfl) (hi:=⟨0,[],[],[],[],[],[],[13,22,25,26,29,31],[]⟩) aJ (by intro n c;kernel_rfl)
end Qh
def acO:List aD:=[.bO (.sl 81 gV) [5,81,113] [81],.val (.int .i64) [],.val (.int .i64) []]
def arw:List bN:=[.into 0 []]
def DJ(n:Nat)(a0:List cz)(a1:Int)(a2:Int):Option (Int×List cz×Unit):=nA.vT bS a0 a1 a2
def KM:Entry:=⟨175,acO,arw,λn (c:Cont (kin acO))=>DJ n c.1 c.2.1 c.2.2.1⟩
theorem Qx[Fr][aI.LaidTab prog](n:Nat):aA prog n KM:=nA.als (k0:=.str) (kk:=gW) (e:=113) (t:=81) (ow:=[5,81,113]) (wt:=[81]) (eG:=[81]) (d0:=([]:List Int)) (FI:=Qh.DJ) (by simp[K.tys,dh]) (by simp[K.tys,dh]) (by simp[K.tys,dh]) (λfr=>Qh.Qx n) (by simp[iM,dh]) (λ_ _ _=>⟨rfl,rfl⟩) (λxs i j h=>nA.alr _ xs i j h)
def KX(n:Nat)(a0:cz)(a1:dK):Option (Int×cz×Unit):=(zm n a1.2.2.2.1).bind λr1=>if [(a0.2.2.1,a1.2.1,a1.2.2.1,r1.1,())].length=1/\(a0.2.2.2.1.length+1)*48<=140737488355328 then some (i64.wrap ((i64.wrap (a0.2.2.1+1))-1),(a0.1,a0.2.1,i64.wrap (a0.2.2.1+1),a0.2.2.2.1++[[(a0.2.2.1,a1.2.1,a1.2.2.1,r1.1,())].getD 0 bT],a0.2.2.2.2),())else none
def Xm:Entry:=⟨176,[.rw gV [5,113] [113,4294967295] [5,113],.val gW []],[.val (.int .i64) [] []],λn c=>KX n c.1 c.2.1⟩
def agY:Hint:=⟨0,[9],[],[],[(78,some 20,Dl)],[],[],[],[23]⟩
theorem ajf[Fr][aI.LaidTab prog](n:Nat):aA prog n Xm:=aK mixed aH func176 (by kernel_rfl) (hi:=agY) (ak (Ij n) aJ) (by intro n c;kernel_rfl)
def Hy(n:Nat)(a0:List Int)(a1:Int):Option (Int×Unit):=rounds (λL1 (v1:(List Int)×Int×Int×Int×Unit)=>if decide (v1.2.2.2.1<v1.2.2.1)=true then if aF v1.2.2.2.1 v1.1.length then if decide (v1.2.1=(v1.1.getD v1.2.2.2.1.toNat 0))=true then some (v1.2.2.2.1,())else L1 (v1.1,v1.2.1,v1.2.2.1,i64.wrap (v1.2.2.2.1+1),())else none else some ((-1),())) n (a0,a1,(a0.length:Int),0,())
def A9:Entry:=⟨196,[.val (.sl 2 (.int .i64)) [],.val (.int .i64) []],[.val (.int .i64) [] []],λn c=>Hy n c.1 c.2.1⟩
def H_:Hint:=⟨0,[],[(0,[0,1,7,8],[])],[],[],[],[],[],[]⟩
theorem Ph:Df T H_ Tryz.f196 A9:=by intro n c;kernel_rfl
theorem Qz[Fr][aI.LaidTab prog](n:Nat):aA prog n A9:=aK mixed aH func196 (by kernel_rfl) (hi:=H_) aJ Ph
def vH(n:Nat)(a0:List Int)(a1:Int):Option (Bool×Unit):=(Hy n a0 a1).bind λr1=>some (decide (r1.1>=0),())
def ze:Entry:=⟨192,[.val (.sl 2 (.int .i64)) [],.val (.int .i64) []],[.val .bool [] []],λn c=>vH n c.1 c.2.1⟩
def Ia:Hint:=⟨0,[],[],[],[(196,some 7,A9)],[],[],[],[]⟩
theorem Pj:Df T Ia Tryz.f192 ze:=by intro n c;kernel_rfl
theorem MJ[Fr][aI.LaidTab prog](n:Nat):aA prog n ze:=aK mixed aH func192 (by kernel_rfl) (hi:=Ia) (ak (Qz n) aJ) Pj
def KW(n:Nat)(a0:cz)(a1:fD):Option ((List Int)×cz×Unit):=rounds (λL1 (v1:Int×Int×cz×fD×(List Int)×Unit)=>if decide (v1.2.1<v1.1)=true then if aF v1.2.1 v1.2.2.1.2.2.2.1.length then(vH n v1.2.2.2.1.2.2.2.1 ((v1.2.2.1.2.2.2.1.getD v1.2.1.toNat bT).1)).bind λr2=>if(!r2.1)=true then L1 (v1.1,i64.wrap (v1.2.1+1),v1.2.2.1,v1.2.2.2.1,v1.2.2.2.2.1,())else if(v1.2.2.2.2.1.length+[(v1.2.2.1.2.2.2.1.getD v1.2.1.toNat bT).1].length)*8<=140737488355328 then if decide (v1.2.2.2.1.2.2.2.2.1=1)=true then L1 (v1.1,i64.wrap (v1.2.1+1),(v1.2.2.1.1,v1.2.2.1.2.1,v1.2.2.1.2.2.1,(bY v1.2.2.1.2.2.2.1 v1.2.1.toNat bT λz1=>(z1.1,v1.2.2.2.1.2.2.2.2.2.1,z1.2.2)),v1.2.2.1.2.2.2.2),v1.2.2.2.1,v1.2.2.2.2.1++[(v1.2.2.1.2.2.2.1.getD v1.2.1.toNat bT).1],())else if decide (v1.2.2.2.1.2.2.2.2.1=2)=true then L1 (v1.1,i64.wrap (v1.2.1+1),(v1.2.2.1.1,v1.2.2.1.2.1,v1.2.2.1.2.2.1,(bY v1.2.2.1.2.2.2.1 v1.2.1.toNat bT λz1=>(z1.1,i64.wrap ((BitVec.ofInt (IntKind.bits .i64) (((v1.2.2.1.2.2.2.1.getD v1.2.1.toNat bT).2).1) ||| BitVec.ofInt (IntKind.bits .i64) v1.2.2.2.1.2.2.2.2.2.1).toNat),z1.2.2)),v1.2.2.1.2.2.2.2),v1.2.2.2.1,v1.2.2.2.2.1++[(v1.2.2.1.2.2.2.1.getD v1.2.1.toNat bT).1],())else L1 (v1.1,i64.wrap (v1.2.1+1),(v1.2.2.1.1,v1.2.2.1.2.1,v1.2.2.1.2.2.1,(bY v1.2.2.1.2.2.2.1 v1.2.1.toNat bT λz1=>(z1.1,i64.wrap ((BitVec.ofInt (IntKind.bits .i64) (((v1.2.2.1.2.2.2.1.getD v1.2.1.toNat bT).2).1) &&& ~~~ BitVec.ofInt (IntKind.bits .i64) v1.2.2.2.1.2.2.2.2.2.1).toNat),z1.2.2)),v1.2.2.1.2.2.2.2),v1.2.2.2.1,v1.2.2.2.2.1++[(v1.2.2.1.2.2.2.1.getD v1.2.1.toNat bT).1],())else none else none else some (v1.2.2.2.2.1,v1.2.2.1,())) n ((a0.2.2.2.1.length:Int),0,a0,a1,([]:List Int),())
def Xn:Entry:=⟨177,[.rw gV [5,113] [113] [],.val gG []],[.own (.sl 2 (.int .i64)) [2] [] []],λn c=>KW n c.1 c.2.1⟩
theorem ajg[Fr][aI.LaidTab prog](n:Nat):aA prog n Xn:=aK mixed aH func177 (by kernel_rfl) (hi:=⟨0,[20],[(0,[0,3,5,13,14],[0,98,258])],[],[(192,some 29,ze)],[],[],[],[]⟩) (ak (MJ n) aJ) (by intro n c;kernel_rfl)
namespace Mw
def wK:t_:=Ib.wK
def T:bL:=wK.tab
theorem aH:y7 prog wK=true:=by kernel_rfl
theorem mixed:prog.follows .mixedOrders=true:=by kernel_rfl
def Ba(n:Nat)(a0:Ee):Option ((List Int)×Ee×Unit):=rounds (λL1 (v1:(List oK)×Int×Int×Ee×(List Int)×(List oK)×Unit)=>if decide (v1.2.2.1<v1.2.1)=true then if aF v1.2.2.1 v1.1.length then if(!decide ((i64.wrap ((BitVec.ofInt (IntKind.bits .i64) (((v1.1.getD v1.2.2.1.toNat oL).2).1) &&& BitVec.ofInt (IntKind.bits .i64) 8).toNat))=0))=true then if(v1.2.2.2.2.1.length+[(v1.1.getD v1.2.2.1.toNat oL).1].length)*8<=140737488355328 then L1 (v1.1,v1.2.1,i64.wrap (v1.2.2.1+1),v1.2.2.2.1,v1.2.2.2.2.1++[(v1.1.getD v1.2.2.1.toNat oL).1],v1.2.2.2.2.2.1,())else none else if(v1.2.2.2.2.2.1.length+[v1.1.getD v1.2.2.1.toNat oL].length)*48<=140737488355328 then L1 (v1.1,v1.2.1,i64.wrap (v1.2.2.1+1),v1.2.2.2.1,v1.2.2.2.2.1,v1.2.2.2.2.2.1++[v1.1.getD v1.2.2.1.toNat oL],())else none else none else some (v1.2.2.2.2.1,(v1.2.2.2.1.1,v1.2.2.2.1.2.1,v1.2.2.2.1.2.2.1,v1.2.2.2.2.2.1,v1.2.2.2.1.2.2.2.2),())) n (a0.2.2.2.1,(a0.2.2.2.1.length:Int),0,a0,([]:List Int),([]:List oK),())
def KO:Entry:=⟨178,[.rw uS [5,113] [4294967295] [113]],[.own (.sl 2 (.int .i64)) [2] [] []],λn c=>Ba n c.1⟩
theorem QA[Fr](n:Nat):aA prog n KO:=aK mixed aH func178 (by kernel_rfl) (hi:=⟨0,[],[(0,[0,3,4,12,13,14],[0,226,258])],[],[],[],[],[],[]⟩) aJ (by intro n c;kernel_rfl)
end Mw
def Ba(n:Nat)(a0:List Int×Int×Int×List r_.oH×Unit):Option (List Int×(List Int×Int×Int×List r_.oH×Unit)×Unit):=r_.DI n a0
def acP:List aD:=[.rw gV [5,113] [4294967295,5] [113,4294967294]]
def arx:List bN:=[.own (.sl 2 (.int .i64)) [2] [] []]
def KO:Entry:=⟨178,acP,arx,λn (c:Cont (kin acP))=>Ba n c.1⟩
def Qg(x:oK):Bool:=!decide ((i64.wrap ((BitVec.ofInt (IntKind.bits .i64) (x.2.1) &&& BitVec.ofInt (IntKind.bits .i64) 8).toNat))=0)
theorem ah1{n:Nat}{nm:List Int}{w h:Int}{xs:List oK}(hc:xs.length*48<=140737488355328)(hn:xs.length<n):Mw.Ba n (nm,w,h,xs,())=some ((xs.filter Qg).map (·.1),(nm,w,h,xs.filter (λx=>!Qg x),()),()):=
 YN.aq0 (xs:=xs) (p:=Qg) (g:=(·.1)) (d:=oL) (sc:=8) (sa:=48) (a0:=(nm,w,h,xs,()))
  (fin:=λa cs ks=>(cs,(a.1,a.2.1,a.2.2.1,ks,a.2.2.2.2),())) (λ_ _=>rfl) (by have:=hc;omega) (by have:=hc;omega) hc hn
theorem QA[Fr][aI.LaidTab prog](n:Nat):aA prog n KO:=r_.aq8 (e:=5) (m:=113) (i:=2) (FI:=λn c=>Mw.Ba n c.1) (λfr=>Mw.QA n) (λnm w h xs hc hn=>ah1 hc hn)
def GN(n:Nat)(a0:List dK):Option (Int×Unit):=some ((a0.length:Int),())
def Xo:Entry:=⟨193,[.val (.sl 113 gW) []],[.val (.int .i64) [] []],λn c=>GN n c.1⟩
theorem ajh[Fr][aI.LaidTab prog](n:Nat):aA prog n Xo:=aK mixed aH func193 (by kernel_rfl) (hi:=ahF) aJ (by intro n c;kernel_rfl)
def Gz(n:Nat)(a0:cz)(a1:dK):Option (Int×cz×Unit):=(zm n a1.2.2.2.1).bind λr1=>if [(a0.2.2.1,a1.2.1,a1.2.2.1,r1.1,())].length=1/\(a0.2.2.2.1.length+1)*48<=140737488355328 then some (i64.wrap ((i64.wrap (a0.2.2.1+1))-1),(a0.1,a0.2.1,i64.wrap (a0.2.2.1+1),a0.2.2.2.1++[[(a0.2.2.1,a1.2.1,a1.2.2.1,r1.1,())].getD 0 bT],a0.2.2.2.2),())else none
def Xp:Entry:=⟨176,[.rw gV [5,113] [113,4294967295] [5,113],.val gW [0]],[.val (.int .i64) [] []],λn c=>Gz n c.1 c.2.1⟩
theorem aji[Fr][aI.LaidTab prog](n:Nat):aA prog n Xp:=aK mixed aH func176 (by kernel_rfl) (hi:=agY) (ak (Ij n) aJ) (by intro n c;kernel_rfl)
namespace vK
def wK:t_:=Ib.wK
def T:bL:=wK.tab
theorem aH:y7 prog wK=true:=by kernel_rfl
theorem mixed:prog.follows .mixedOrders=true:=by kernel_rfl
def Hy(n:Nat)(a0:List Int)(a1:Int):Option (Int×Unit):=rounds (λL1 (v1:(List Int)×Int×Int×Int×Unit)=>if decide (v1.2.2.2.1<v1.2.2.1)=true then if aF v1.2.2.2.1 v1.1.length then if decide (v1.2.1=(v1.1.getD v1.2.2.2.1.toNat 0))=true then some (v1.2.2.2.1,())else L1 (v1.1,v1.2.1,v1.2.2.1,i64.wrap (v1.2.2.2.1+1),())else none else some ((-1),())) n (a0,a1,(a0.length:Int),0,())
def A9:Entry:=⟨196,[.val (.sl 2 (.int .i64)) [],.val (.int .i64) []],[.val (.int .i64) [] []],λn c=>Hy n c.1 c.2.1⟩
def H_:Hint:=⟨0,[],[(0,[0,1,7,8],[])],[],[],[],[],[],[]⟩
theorem Ph:Df T H_ Tryz.f196 A9:=by intro n c;kernel_rfl
theorem Qz[Fr](n:Nat):aA prog n A9:=aK mixed aH func196 (by kernel_rfl) (hi:=H_) aJ Ph
def vH(n:Nat)(a0:List Int)(a1:Int):Option (Bool×Unit):=(Hy n a0 a1).bind λr1=>some (decide (r1.1>=0),())
def ze:Entry:=⟨192,[.val (.sl 2 (.int .i64)) [],.val (.int .i64) []],[.val .bool [] []],λn c=>vH n c.1 c.2.1⟩
def Ia:Hint:=⟨0,[],[],[],[(196,some 7,A9)],[],[],[],[]⟩
theorem Pj:Df T Ia Tryz.f192 ze:=by intro n c;kernel_rfl
theorem MJ[Fr](n:Nat):aA prog n ze:=aK mixed aH func192 (by kernel_rfl) (hi:=Ia) (ak (Qz n) aJ) Pj
def Dp(n:Nat)(a0:oK)(a1:fD):Option (Bool×Unit):=(vH n a1.2.2.2.1 a0.1).bind λr1=>some (r1.1,())
def PK:Entry:=⟨195,[.val nH [],.ro gG],[.val .bool [] []],λn c=>Dp n c.1 c.2.1⟩
theorem Yz[Fr](n:Nat):aA prog n PK:=aK mixed aH func195 (by kernel_rfl) (hi:=⟨0,[],[],[],[(192,some 8,ze)],[],[],[],[]⟩) (ak (MJ n) aJ) (by intro n c;kernel_rfl)
def LY(n:Nat)(a0:List oK)(lK:fD):Option (Int×Unit):=rounds (λL1 (v1:(List oK)×fD×Int×Int×Unit)=>if decide (v1.2.2.2.1<v1.2.2.1)=true then if aF v1.2.2.2.1 v1.1.length then(Dp n (v1.1.getD v1.2.2.2.1.toNat oL) v1.2.1).bind λr2=>if r2.1=true then some (v1.2.2.2.1,())else L1 (v1.1,v1.2.1,v1.2.2.1,i64.wrap (v1.2.2.2.1+1),())else none else some ((-1),())) n (a0,lK,(a0.length:Int),0,())
def Xq:Entry:=⟨81,[.val (.sl 113 nH) [],.fn 195 [gG]],[.val (.int .i64) [] []],λn c=>LY n c.1 c.2.1⟩
theorem ajj[Fr](n:Nat):aA prog n Xq:=aK mixed aH func81 (by kernel_rfl) (hi:=⟨0,[],[(0,[0,1,7,8],[])],[],[(195,some 16,PK)],[],[],[],[]⟩) (ak (Yz n) aJ) (by intro n c;kernel_rfl)
def zn(n:Nat)(a0:List oK)(lK:fD):Option (Int×(List oK)×Unit):=(LY n a0 lK).bind λr1=>if decide (r1.1=(-1))=true then some (((a0.length:Nat):Int),a0,())else rounds (λL2 (v2:fD×Int×Int×(List oK)×Unit)=>if decide (v2.2.2.1<(v2.2.2.2.1.length:Int))=true then if aF v2.2.2.1 v2.2.2.2.1.length then(Dp n (v2.2.2.2.1.getD v2.2.2.1.toNat oL) v2.1).bind λr3=>if(!r3.1)=true then if aF v2.2.1 v2.2.2.2.1.length then L2 (v2.1,i64.wrap (v2.2.1+1),i64.wrap (v2.2.2.1+1),v2.2.2.2.1.set v2.2.1.toNat (v2.2.2.2.1.getD v2.2.2.1.toNat oL),())else none else L2 (v2.1,v2.2.1,i64.wrap (v2.2.2.1+1),v2.2.2.2.1,())else none else if 0<=v2.2.1/\v2.2.1<=(v2.2.2.2.1.length:Int)/\(v2.2.2.2.1.length:Int)<=(v2.2.2.2.1.length:Int)then if 0<=(0:Int)/\(0:Int)<=v2.2.1/\v2.2.1<=((v2.2.2.2.1.take v2.2.1.toNat++List.replicate ((v2.2.2.2.1.length:Int).toNat-v2.2.1.toNat) oL++v2.2.2.2.1.drop ((v2.2.2.2.1.length:Int).toNat)).length:Int)then some (((v2.2.1.toNat:Nat):Int),v2.2.2.2.1.take v2.2.1.toNat++List.replicate ((v2.2.2.2.1.length:Int).toNat-v2.2.1.toNat) oL++v2.2.2.2.1.drop ((v2.2.2.2.1.length:Int).toNat),())else none else none) n (lK,r1.1,i64.wrap (r1.1+1),a0,())
def KF:Entry:=⟨194,[.bO (.sl 113 nH) [5,113] [113],.fn 195 [gG]],[.into 0 []],λn c=>zn n c.1 c.2.1⟩
theorem Qp[Fr](n:Nat):aA prog n KF:=aK mixed aH func194 (by kernel_rfl) (hi:=⟨0,[],[(0,[0,1,5,6],[0])],[],[(81,some 10,Xq),(195,some 28,PK)],[],[],[38,41],[]⟩) (ak (ajj n) (ak (Yz n) aJ)) (by intro n c;kernel_rfl)
end vK
def acL:List aD:=[.bO (.sl 113 gW) [5,113] [113],.fn 195 [gG]]
def art:List bN:=[.into 0 []]
def zn(n:Nat)(a0:List dK)(lK:fD):Option (Int×List dK×Unit):=nA.Dm n a0 lK
def KF:Entry:=⟨194,acL,art,λn (c:Cont (kin acL))=>zn n c.1 c.2.1⟩
theorem ahZ{n:Nat}{xs:List nA.MW}{op:nA.OpC}(hx:xs.length<=140737488355328)(hn:xs.length<n)(hb:op.2.2.2.1.length<=140737488355328)(hu:op.2.2.2.1.length<n):vK.zn n xs op=some (nA.zW (0,0,0,0,()) (λx=>op.2.2.2.1.contains x.1) xs):=by
 have hc:∀x,vK.Dp n x op=some (op.2.2.2.1.contains x.1,()):=λx=>by
  have h:vK.vH n op.2.2.2.1 x.1=some (op.2.2.2.1.contains x.1,()):=nA.R7 (λ_ _=>rfl) hb hu
  show(vK.vH n op.2.2.2.1 x.1).bind _=_
  rw[h];rfl
 have hi:vK.LY n xs op=some (_,()):=nA.TW (p:=λx=>op.2.2.2.1.contains x.1) (q:=λc x=>vK.Dp n x c) (d:=(0,0,0,0,())) (λ_ _=>rfl) hc hx hn
 show(vK.LY n xs op).bind _=_
 rw[hi]
 exact nA.alu (p:=λx=>op.2.2.2.1.contains x.1) (q:=λc x=>vK.Dp n x c) (d:=(0,0,0,0,())) (λ_ _=>rfl) hc hx hn
theorem Qp[Fr][aI.LaidTab prog](n:Nat):aA prog n KF:=nA.alx (e:=5) (t:=113) (i:=2) (b:=5) (cl:=195) (ow:=[5,113]) (wt:=[113]) (eG:=[113]) (FI:=vK.zn) (by simp[K.tys,dh]) (by simp[K.tys,dh]) (by simp[K.tys,dh]) (λfr=>vK.Qp n) (by simp[iM,dh]) (λxs op h1 h2 h3 h4=>ahZ h1 h2 h3 h4)
def K5(n:Nat)(a0:dU)(a1:Int)(a2:fD):Option ((List Int)×Int×dU×Unit):=(Bb n a0 a2.2.2.1).bind λr1=>if decide (r1.1<0)=true then some (([]:List Int),4,a0,())else if decide (a2.1=6)=true then if decide (r1.1=a1)=true then some (([]:List Int),9,a0,())else if aF a1 a0.2.1.length then rounds (λL2 (v2:Int×Int×(List dK)×Int×Int×dU×fD×(List dK)×Unit)=>if decide (v2.2.2.2.2.1<v2.2.2.2.1)=true then if aF v2.2.2.2.2.1 v2.2.2.1.length then(vH n v2.2.2.2.2.2.2.1.2.2.2.1 ((v2.2.2.1.getD v2.2.2.2.2.1.toNat bT).1)).bind λr3=>if r3.1=true then if(v2.2.2.2.2.2.2.2.1.length+[v2.2.2.1.getD v2.2.2.2.2.1.toNat bT].length)*48<=140737488355328 then L2 (v2.1,v2.2.1,v2.2.2.1,v2.2.2.2.1,i64.wrap (v2.2.2.2.2.1+1),v2.2.2.2.2.2.1,v2.2.2.2.2.2.2.1,v2.2.2.2.2.2.2.2.1++[v2.2.2.1.getD v2.2.2.2.2.1.toNat bT],())else none else L2 (v2.1,v2.2.1,v2.2.2.1,v2.2.2.2.1,i64.wrap (v2.2.2.2.2.1+1),v2.2.2.2.2.2.1,v2.2.2.2.2.2.2.1,v2.2.2.2.2.2.2.2.1,())else none else if aF v2.2.1 v2.2.2.2.2.2.1.2.1.length then if decide ((i64.wrap (((((((v2.2.2.2.2.2.1.2.1.getD v2.2.1.toNat bS).2).2).2).1).length:Int)+(v2.2.2.2.2.2.2.2.1.length:Int)))>6)=true then some (([]:List Int),10,v2.2.2.2.2.2.1,())else(GN n v2.2.2.2.2.2.2.2.1).bind λr4=>if decide ((i64.wrap (((((v2.2.2.2.2.2.1.2.1.getD v2.2.1.toNat bS).2).2).1)+r4.1))>1000)=true then some (([]:List Int),10,v2.2.2.2.2.2.1,())else rounds (λL5 (v5:Int×Int×Int×Int×dU×fD×(List dK)×(List Int)×Unit)=>if decide (v5.2.2.2.1<v5.2.2.1)=true then if aF v5.2.2.2.1 v5.2.2.2.2.2.2.1.length then(Gz n (v5.2.2.2.2.1.2.1.getD v5.2.1.toNat bS) (v5.2.2.2.2.2.2.1.getD v5.2.2.2.1.toNat bT)).bind λr6=>if(v5.2.2.2.2.2.2.2.1.length+[r6.1].length)*8<=140737488355328 then L5 (v5.1,v5.2.1,v5.2.2.1,i64.wrap (v5.2.2.2.1+1),(v5.2.2.2.2.1.1,v5.2.2.2.2.1.2.1.set v5.2.1.toNat r6.2.1,v5.2.2.2.2.1.2.2),v5.2.2.2.2.2.1,v5.2.2.2.2.2.2.1,v5.2.2.2.2.2.2.2.1++[r6.1],())else none else none else if decide (v5.2.2.2.2.2.1.1=6)=true then if aF v5.1 v5.2.2.2.2.1.2.1.length then(zn n (((((v5.2.2.2.2.1.2.1.getD v5.1.toNat bS).2).2).2).1) v5.2.2.2.2.2.1).bind λr7=>if([v5.1]:List Int)=([v5.1]:List Int)then some (v5.2.2.2.2.2.2.2.1,0,(v5.2.2.2.2.1.1,(bY (bY v5.2.2.2.2.1.2.1 v5.1.toNat bS λz1=>(z1.1,z1.2.1,z1.2.2.1,r7.2.1,z1.2.2.2.2)) v5.1.toNat bS λz1=>(z1.1,z1.2.1,z1.2.2.1,((((((bY v5.2.2.2.2.1.2.1 v5.1.toNat bS λz1=>(z1.1,z1.2.1,z1.2.2.1,r7.2.1,z1.2.2.2.2)).getD v5.1.toNat bS).2).2).2).1).take r7.1.toNat,z1.2.2.2.2)),v5.2.2.2.2.1.2.2),())else none else none else some (v5.2.2.2.2.2.2.2.1,0,v5.2.2.2.2.1,())) n (v2.1,v2.2.1,(v2.2.2.2.2.2.2.2.1.length:Int),0,v2.2.2.2.2.2.1,v2.2.2.2.2.2.2.1,v2.2.2.2.2.2.2.2.1,([]:List Int),())else none) n (a1,r1.1,((((a0.2.1.getD a1.toNat bS).2).2).2).1,((((((a0.2.1.getD a1.toNat bS).2).2).2).1).length:Int),0,a0,a2,([]:List dK),())else none else if aF a1 a0.2.1.length then rounds (λL8 (v8:Int×Int×(List dK)×Int×Int×dU×fD×(List dK)×Unit)=>if decide (v8.2.2.2.2.1<v8.2.2.2.1)=true then if aF v8.2.2.2.2.1 v8.2.2.1.length then(vH n v8.2.2.2.2.2.2.1.2.2.2.1 ((v8.2.2.1.getD v8.2.2.2.2.1.toNat bT).1)).bind λr9=>if r9.1=true then if(v8.2.2.2.2.2.2.2.1.length+[v8.2.2.1.getD v8.2.2.2.2.1.toNat bT].length)*48<=140737488355328 then L8 (v8.1,v8.2.1,v8.2.2.1,v8.2.2.2.1,i64.wrap (v8.2.2.2.2.1+1),v8.2.2.2.2.2.1,v8.2.2.2.2.2.2.1,v8.2.2.2.2.2.2.2.1++[v8.2.2.1.getD v8.2.2.2.2.1.toNat bT],())else none else L8 (v8.1,v8.2.1,v8.2.2.1,v8.2.2.2.1,i64.wrap (v8.2.2.2.2.1+1),v8.2.2.2.2.2.1,v8.2.2.2.2.2.2.1,v8.2.2.2.2.2.2.2.1,())else none else if aF v8.2.1 v8.2.2.2.2.2.1.2.1.length then if decide ((i64.wrap (((((((v8.2.2.2.2.2.1.2.1.getD v8.2.1.toNat bS).2).2).2).1).length:Int)+(v8.2.2.2.2.2.2.2.1.length:Int)))>6)=true then some (([]:List Int),10,v8.2.2.2.2.2.1,())else(GN n v8.2.2.2.2.2.2.2.1).bind λo7=>if decide ((i64.wrap (((((v8.2.2.2.2.2.1.2.1.getD v8.2.1.toNat bS).2).2).1)+o7.1))>1000)=true then some (([]:List Int),10,v8.2.2.2.2.2.1,())else rounds (λL11 (v11:Int×Int×Int×Int×dU×fD×(List dK)×(List Int)×Unit)=>if decide (v11.2.2.2.1<v11.2.2.1)=true then if aF v11.2.2.2.1 v11.2.2.2.2.2.2.1.length then(Gz n (v11.2.2.2.2.1.2.1.getD v11.2.1.toNat bS) (v11.2.2.2.2.2.2.1.getD v11.2.2.2.1.toNat bT)).bind λmK=>if(v11.2.2.2.2.2.2.2.1.length+[mK.1].length)*8<=140737488355328 then L11 (v11.1,v11.2.1,v11.2.2.1,i64.wrap (v11.2.2.2.1+1),(v11.2.2.2.2.1.1,v11.2.2.2.2.1.2.1.set v11.2.1.toNat mK.2.1,v11.2.2.2.2.1.2.2),v11.2.2.2.2.2.1,v11.2.2.2.2.2.2.1,v11.2.2.2.2.2.2.2.1++[mK.1],())else none else none else if decide (v11.2.2.2.2.2.1.1=6)=true then if aF v11.1 v11.2.2.2.2.1.2.1.length then(zn n (((((v11.2.2.2.2.1.2.1.getD v11.1.toNat bS).2).2).2).1) v11.2.2.2.2.2.1).bind λpQ=>if([v11.1]:List Int)=([v11.1]:List Int)then some (v11.2.2.2.2.2.2.2.1,0,(v11.2.2.2.2.1.1,(bY (bY v11.2.2.2.2.1.2.1 v11.1.toNat bS λz1=>(z1.1,z1.2.1,z1.2.2.1,pQ.2.1,z1.2.2.2.2)) v11.1.toNat bS λz1=>(z1.1,z1.2.1,z1.2.2.1,((((((bY v11.2.2.2.2.1.2.1 v11.1.toNat bS λz1=>(z1.1,z1.2.1,z1.2.2.1,pQ.2.1,z1.2.2.2.2)).getD v11.1.toNat bS).2).2).2).1).take pQ.1.toNat,z1.2.2.2.2)),v11.2.2.2.2.1.2.2),())else none else none else some (v11.2.2.2.2.2.2.2.1,0,v11.2.2.2.2.1,())) n (v8.1,v8.2.1,(v8.2.2.2.2.2.2.2.1.length:Int),0,v8.2.2.2.2.2.1,v8.2.2.2.2.2.2.1,v8.2.2.2.2.2.2.2.1,([]:List Int),())else none) n (a1,r1.1,((((a0.2.1.getD a1.toNat bS).2).2).2).1,((((((a0.2.1.getD a1.toNat bS).2).2).2).1).length:Int),0,a0,a2,([]:List dK),())else none
def VO:Entry:=⟨179,[.rw jv [5,81,113] [5,81,113,4294967295] [5,113],.val (.int .i64) [],.val gG []],[.own (.sl 2 (.int .i64)) [2] [] [],.val (.int .i64) [] []],λn c=>K5 n c.1 c.2.1 c.2.2.1⟩
theorem ah4[Fr][aI.LaidTab prog](n:Nat):aA prog n VO:=aK mixed aH func179 (by kernel_rfl) (hi:=⟨0,[62,104,111],[(1,[0,1,5,8,9,43,44,45],[0,162,1122]),(3,[0,1,5,12,13,85,86,87],[0,162,1122,2690])],[(35,[5])],[(80,some 22,Gu),(192,some 53,ze),(193,some 80,Xo),(176,some 94,Xp),(194,some 113,KF)],[],[(2245,[0])],[],[]⟩) (ak (MI n) (ak (MJ n) (ak (ajh n) (ak (aji n) (ak (Qp n) aJ))))) (by intro n c;kernel_rfl)
def K4(n:Nat)(a0:dU)(a1:fD):Option ((List Int)×Int×dU×Unit):=if decide (a1.1=1)=true then(K6 n a0 a1.2.1).bind λr1=>some (([]:List Int),r1.1,r1.2.1,())else(Bb n a0 a1.2.1).bind λr2=>if decide (r2.1<0)=true then some (([]:List Int),4,a0,())else if aF r2.1 a0.2.1.length then if decide (a1.1=2)=true then(DJ n a0.2.1 r2.1 (i64.wrap (r2.1+1))).bind λr3=>if([]:List Int)=([]:List Int)then some (([]:List Int),0,(a0.1,r3.2.1.take r3.1.toNat,a0.2.2),())else none else if decide (a1.1=3)=true then if decide (((((((a0.2.1.getD r2.1.toNat bS).2).2).2).1).length:Int)=6)=true then some (([]:List Int),10,a0,())else if decide (((((a0.2.1.getD r2.1.toNat bS).2).2).1)=1000)=true then some (([]:List Int),10,a0,())else(KX n (a0.2.1.getD r2.1.toNat bS) (0,a1.2.2.2.2.2.1,a1.2.2.2.2.2.2.1,a1.2.2.2.2.2.2.2.1,())).bind λr4=>some ([r4.1],0,(a0.1,a0.2.1.set r2.1.toNat r4.2.1,a0.2.2),())else if decide (a1.1=4)=true then(KW n (a0.2.1.getD r2.1.toNat bS) a1).bind λr5=>some (r5.1,0,(a0.1,a0.2.1.set r2.1.toNat r5.2.1,a0.2.2),())else if decide (a1.1=7)=true then(Ba n (a0.2.1.getD r2.1.toNat bS)).bind λr6=>some (r6.1,0,(a0.1,a0.2.1.set r2.1.toNat r6.2.1,a0.2.2),())else(K5 n a0 r2.1 a1).bind λr7=>some (r7.1,r7.2.1,r7.2.2.1,())else none
def VP:Entry:=⟨148,[.rw jv [5,81,113] [5,81,113,4294967295] [5,81,113,4294967294],.val gG []],[.own (.sl 2 (.int .i64)) [2] [] [],.val (.int .i64) [] []],λn c=>K4 n c.1 c.2.1⟩
theorem ah5[Fr][aI.LaidTab prog](n:Nat):aA prog n VP:=aK mixed aH func148 (by kernel_rfl) (hi:=⟨0,[26,37],[],[],[(174,some 14,Xl),(80,some 20,Gu),(175,some 41,KM),(176,some 67,Xm),(177,some 73,Xn),(178,some 77,KO),(179,some 81,VO)],[],[],[],[]⟩) (ak (aje n) (ak (MI n) (ak (Qx n) (ak (ajf n) (ak (ajg n) (ak (QA n) (ak (ah4 n) aJ))))))) (by intro n c;kernel_rfl)
def K9(n:Nat)(a0:dU)(a1:fD):Option (uh×Unit):=(GG n a1).bind λr1=>if(!decide (r1.1=0))=true then some ((r1.1,([]:List Int),zM,()),())else(Dq n a0).bind λr2=>(K4 n r2.1 a1).bind λr3=>if(!decide (r3.2.1=0))=true then some ((r3.2.1,([]:List Int),zM,()),())else some ((0,r3.1,r3.2.2.1,()),())
def VQ:Entry:=⟨127,[.val jv [],.val gG []],[.own yl [2,5,81,113] [] []],λn c=>K9 n c.1 c.2.1⟩
theorem ah6[Fr][aI.LaidTab prog](n:Nat):aA prog n VQ:=aK mixed aH func127 (by kernel_rfl) (hi:=⟨0,[27],[],[],[(147,some 10,PG),(79,some 16,KL),(148,some 19,VP)],[],[],[],[]⟩) (ak (Yx n) (ak (Qw n) (ak (ah5 n) aJ))) (by intro n c;kernel_rfl)
def Gw(n:Nat)(a0:dU)(a1:List fD):Option (uh×Unit):=if decide ((a1.length:Int)>60)=true then some ((2,([]:List Int),zM,()),())else(Dn n a0).bind λr1=>if(!decide (r1.1=0))=true then some ((r1.1,([]:List Int),zM,()),())else(Dq n a0).bind λr2=>rounds (λL3 (v3:(List fD)×Int×Int×uh×dU×Unit)=>if decide (v3.2.2.1<v3.2.1)=true then if aF v3.2.2.1 v3.1.length then(K9 n v3.2.2.2.2.1 (v3.1.getD v3.2.2.1.toNat sw)).bind λr4=>if(!decide (r4.1.1=0))=true then some ((r4.1.1,([]:List Int),zM,()),())else L3 (v3.1,v3.2.1,i64.wrap (v3.2.2.1+1),v3.2.2.2.1,r4.1.2.2.1,())else none else some ((0,([]:List Int),v3.2.2.2.2.1,()),())) n (a1,(a1.length:Int),0,Ra,r2.1,())
def VS:Entry:=⟨103,[.val jv [],.val (.sl 155 gG) []],[.own yl [2,5,81,113] [] []],λn c=>Gw n c.1 c.2.1⟩
theorem ah7[Fr][aI.LaidTab prog](n:Nat):aA prog n VS:=aK mixed aH func103 (by kernel_rfl) (hi:=⟨0,[38,40],[(0,[4,6,22,23,24],[130,194])],[],[(101,some 15,PD),(79,some 21,KL),(127,some 30,VQ)],[],[],[],[]⟩) (ak (Yv n) (ak (Qw n) (ak (ah6 n) aJ))) (by intro n c;kernel_rfl)
def LX(n:Nat)(a0:List Int)(a1:List Int):Option (Bool×Unit):=if(!decide ((a0.length:Int)=(a1.length:Int)))=true then some (false,())else rounds (λL1 (v1:(List Int)×(List Int)×Int×Int×Unit)=>if decide (v1.2.2.2.1<v1.2.2.1)=true then if aF v1.2.2.2.1 v1.1.length then if aF v1.2.2.2.1 v1.2.1.length then if(!decide ((v1.1.getD v1.2.2.2.1.toNat 0)=(v1.2.1.getD v1.2.2.2.1.toNat 0)))=true then some (false,())else L1 (v1.1,v1.2.1,v1.2.2.1,i64.wrap (v1.2.2.2.1+1),())else none else none else some (true,())) n (a0,a1,(a0.length:Int),0,())
def VT:Entry:=⟨149,[.val (.sl 5 (.int .u8)) [],.val (.sl 5 (.int .u8)) []],[.val .bool [] []],λn c=>LX n c.1 c.2.1⟩
theorem ah8[Fr][aI.LaidTab prog](n:Nat):aA prog n VT:=aK mixed aH func149 (by kernel_rfl) (hi:=⟨0,[],[(0,[0,1,12,13],[])],[],[],[],[],[],[]⟩) aJ (by intro n c;kernel_rfl)
def Ld(n:Nat)(a0:dK)(a1:dK):Option (Bool×Unit):=if decide (a0.1=a1.1)=true then if decide (a0.2.1=a1.2.1)=true then if decide (a0.2.2.1=a1.2.2.1)=true then(LX n a0.2.2.2.1 a1.2.2.2.1).bind λr1=>some (r1.1,())else some (false,())else some (false,())else some (false,())
def VU:Entry:=⟨131,[.val gW [],.val gW []],[.val .bool [] []],λn c=>Ld n c.1 c.2.1⟩
theorem ah9[Fr][aI.LaidTab prog](n:Nat):aA prog n VU:=aK mixed aH func131 (by kernel_rfl) (hi:=⟨0,[],[],[],[(149,some 29,VT)],[],[],[],[]⟩) (ak (ah8 n) aJ) (by intro n c;kernel_rfl)
def LU(n:Nat)(a0:List dK)(a1:List dK):Option (Bool×Unit):=if(!decide ((a0.length:Int)=(a1.length:Int)))=true then some (false,())else rounds (λL1 (v1:(List dK)×(List dK)×Int×Int×Unit)=>if decide (v1.2.2.2.1<v1.2.2.1)=true then if aF v1.2.2.2.1 v1.2.1.length then if aF v1.2.2.2.1 v1.1.length then(Ld n (v1.2.1.getD v1.2.2.2.1.toNat bT) (v1.1.getD v1.2.2.2.1.toNat bT)).bind λr2=>if(!r2.1)=true then some (false,())else L1 (v1.1,v1.2.1,v1.2.2.1,i64.wrap (v1.2.2.2.1+1),())else none else none else some (true,())) n (a1,a0,(a0.length:Int),0,())
def VV:Entry:=⟨130,[.val (.sl 113 gW) [],.val (.sl 113 gW) [],.fn 131 []],[.val .bool [] []],λn c=>LU n c.1 c.2.1⟩
theorem ah_[Fr][aI.LaidTab prog](n:Nat):aA prog n VV:=aK mixed aH func130 (by kernel_rfl) (hi:=⟨0,[],[(0,[1,2,15,16,17],[])],[],[(131,some 29,VU)],[],[],[],[]⟩) (ak (ah9 n) aJ) (by intro n c;kernel_rfl)
def KZ(n:Nat)(a0:cz)(a1:cz):Option (Bool×Unit):=if decide (a0.1=a1.1)=true then if decide (a0.2.1=a1.2.1)=true then if decide (a0.2.2.1=a1.2.2.1)=true then(LU n a0.2.2.2.1 a1.2.2.2.1).bind λr1=>some (r1.1,())else some (false,())else some (false,())else some (false,())
def VW:Entry:=⟨129,[.val gV [],.val gV []],[.val .bool [] []],λn c=>KZ n c.1 c.2.1⟩
theorem aia[Fr][aI.LaidTab prog](n:Nat):aA prog n VW:=aK mixed aH func129 (by kernel_rfl) (hi:=⟨0,[],[],[],[(130,some 29,VV)],[],[],[],[]⟩) (ak (ah_ n) aJ) (by intro n c;kernel_rfl)
def P7(n:Nat)(a0:List cz)(a1:List cz):Option (Bool×Unit):=if(!decide ((a0.length:Int)=(a1.length:Int)))=true then some (false,())else rounds (λL1 (v1:(List cz)×(List cz)×Int×Int×Unit)=>if decide (v1.2.2.2.1<v1.2.2.1)=true then if aF v1.2.2.2.1 v1.2.1.length then if aF v1.2.2.2.1 v1.1.length then(KZ n (v1.2.1.getD v1.2.2.2.1.toNat bS) (v1.1.getD v1.2.2.2.1.toNat bS)).bind λr2=>if(!r2.1)=true then some (false,())else L1 (v1.1,v1.2.1,v1.2.2.1,i64.wrap (v1.2.2.2.1+1),())else none else none else some (true,())) n (a1,a0,(a0.length:Int),0,())
def VX:Entry:=⟨128,[.val (.sl 81 gV) [],.val (.sl 81 gV) [],.fn 129 []],[.val .bool [] []],λn c=>P7 n c.1 c.2.1⟩
theorem aib[Fr][aI.LaidTab prog](n:Nat):aA prog n VX:=aK mixed aH func128 (by kernel_rfl) (hi:=⟨0,[],[(0,[1,2,15,16,17],[])],[],[(129,some 29,VW)],[],[],[],[]⟩) (ak (aia n) aJ) (by intro n c;kernel_rfl)
def GJ(n:Nat)(a0:dU)(a1:dU):Option (Bool×Unit):=if decide (a0.1=a1.1)=true then(P7 n a0.2.1 a1.2.1).bind λr1=>some (r1.1,())else some (false,())
def VY:Entry:=⟨105,[.val jv [],.val jv []],[.val .bool [] []],λn c=>GJ n c.1 c.2.1⟩
theorem aic[Fr][aI.LaidTab prog](n:Nat):aA prog n VY:=aK mixed aH func105 (by kernel_rfl) (hi:=⟨0,[],[],[],[(128,some 15,VX)],[],[],[],[]⟩) (ak (aib n) aJ) (by intro n c;kernel_rfl)
def GL(n:Nat)(a0:p_):Option (Int×Unit):=if decide ((i64.wrap ((a0.2.1.length:Int)+(a0.2.2.1.length:Int)))>8000)=true then some (2,())else if(!a0.1)=true then if decide ((a0.2.2.1.length:Int)>0)=true then some (1,())else if(!decide (a0.2.2.2.1.1=0))=true then some (1,())else if decide ((a0.2.2.2.1.2.1.length:Int)>0)=true then some (1,())else if(!a0.1)=true then some (0,())else(Dn n a0.2.2.2.1).bind λr1=>if(!decide (r1.1=0))=true then some (r1.1,())else(GM n a0).bind λr2=>if(!r2.2.1)=true then some (5,())else(K_ n).bind λr3=>(Gw n r3.1 r2.1).bind λr4=>if(!decide (r4.1.1=0))=true then some (9,())else(GJ n r4.1.2.2.1 a0.2.2.2.1).bind λr5=>if(!r5.1)=true then some (9,())else some (0,())else if(!a0.1)=true then some (0,())else(Dn n a0.2.2.2.1).bind λr6=>if(!decide (r6.1=0))=true then some (r6.1,())else(GM n a0).bind λr7=>if(!r7.2.1)=true then some (5,())else(K_ n).bind λr8=>(Gw n r8.1 r7.1).bind λr9=>if(!decide (r9.1.1=0))=true then some (9,())else(GJ n r9.1.2.2.1 a0.2.2.2.1).bind λo7=>if(!o7.1)=true then some (9,())else some (0,())
def VZ:Entry:=⟨74,[.val qF []],[.val (.int .i64) [] []],λn c=>GL n c.1⟩
theorem aid[Fr][aI.LaidTab prog](n:Nat):aA prog n VZ:=aK mixed aH func74 (by kernel_rfl) (hi:=⟨0,[],[],[],[(101,some 45,PD),(102,some 51,Xh),(104,some 56,Xi),(103,some 58,VS),(105,some 67,VY)],[],[],[],[]⟩) (ak (Yv n) (ak (aja n) (ak (ajb n) (ak (ah7 n) (ak (aic n) aJ))))) (by intro n c;kernel_rfl)
def Du(n:Nat)(a0:List j5):Option (Int×Unit):=some ((a0.length:Int),())
def Pn:Entry:=⟨47,[.val (.sl 65 gN) []],[.val (.int .i64) [] []],λn c=>Du n c.1⟩
theorem Yk[Fr][aI.LaidTab prog](n:Nat):aA prog n Pn:=aK mixed aH func47 (by kernel_rfl) (hi:=ahF) aJ (by intro n c;kernel_rfl)
def PV(n:Nat)(a0:Int):Option (Bool×Unit):=(qY n a0 1 3).bind λr1=>some (r1.1,())
def V3:Entry:=⟨75,[.val (.int .i64) []],[.val .bool [] []],λn c=>PV n c.1⟩
theorem aie[Fr][aI.LaidTab prog](n:Nat):aA prog n V3:=aK mixed aH func75 (by kernel_rfl) (hi:=agl) (ak (uN n) aJ) (by intro n c;kernel_rfl)
def Bc(n:Nat)(a0:jd):Option (Int×Unit):=(GL n a0.1).bind λr1=>if(!decide (r1.1=0))=true then some (r1.1,())else(Du n a0.2.1).bind λr2=>(qY n r2.1 1 3).bind λr3=>if(!r3.1)=true then some (2,())else rounds (λL4 (v4:(List j5)×Int×Int×Unit)=>if decide (v4.2.2.1<v4.2.1)=true then if aF v4.2.2.1 v4.1.length then(PV n (((((v4.1.getD v4.2.2.1.toNat cB).2).2).2).1)).bind λr5=>if(!r5.1)=true then some (3,())else(qY n (((v4.1.getD v4.2.2.1.toNat cB).2).1) 0 999).bind λr6=>if(!r6.1)=true then some (3,())else if decide ((((((v4.1.getD v4.2.2.1.toNat cB).2).2).1).length:Int)>6)=true then some (3,())else(Dr n ((((v4.1.getD v4.2.2.1.toNat cB).2).2).1)).bind λr7=>if(!r7.1)=true then some (3,())else if decide (((v4.1.getD v4.2.2.1.toNat cB).1)=([]:List Int))=true then if(!decide ((((v4.1.getD v4.2.2.1.toNat cB).2).1)=0))=true then some (1,())else if decide ((((((v4.1.getD v4.2.2.1.toNat cB).2).2).1).length:Int)>0)=true then some (1,())else if(!decide (((v4.1.getD v4.2.2.1.toNat cB).1)=([]:List Int)))=true then(zf n ((v4.1.getD v4.2.2.1.toNat cB).1)).bind λr8=>if(!r8.1)=true then some (1,())else if decide ((((v4.1.getD v4.2.2.1.toNat cB).2).1)=0)=true then some (1,())else L4 (v4.1,v4.2.1,i64.wrap (v4.2.2.1+1),())else L4 (v4.1,v4.2.1,i64.wrap (v4.2.2.1+1),())else if(!decide (((v4.1.getD v4.2.2.1.toNat cB).1)=([]:List Int)))=true then(zf n ((v4.1.getD v4.2.2.1.toNat cB).1)).bind λr9=>if(!r9.1)=true then some (1,())else if decide ((((v4.1.getD v4.2.2.1.toNat cB).2).1)=0)=true then some (1,())else L4 (v4.1,v4.2.1,i64.wrap (v4.2.2.1+1),())else L4 (v4.1,v4.2.1,i64.wrap (v4.2.2.1+1),())else none else some (0,())) n (a0.2.1,(a0.2.1.length:Int),0,())
def V4:Entry:=⟨45,[.val mY []],[.val (.int .i64) [] []],λn c=>Bc n c.1⟩
theorem aif[Fr][aI.LaidTab prog](n:Nat):aA prog n V4:=aK mixed aH func45 (by kernel_rfl) (hi:=⟨0,[],[(0,[18,19,20],[])],[],[(74,some 8,VZ),(47,some 14,Pn),(46,some 15,tL),(75,some 27,V3),(46,some 32,tL),(76,some 44,PE),(77,some 69,Gs)],[],[],[],[]⟩) (ak (aid n) (ak (Yk n) (ak (uN n) (ak (aie n) (ak (uN n) (ak (Yw n) (ak (MG n) aJ))))))) (by intro n c;kernel_rfl)
def PW(n:Nat)(a0:jd)(a1:Int):Option (Int×Unit):=(Bc n a0).bind λr1=>if(!decide (r1.1=0))=true then some (r1.1,())else if(!a0.1.1)=true then some (9,())else(Du n a0.2.1).bind λr2=>(qY n a1 0 (i64.wrap (r2.1-1))).bind λr3=>if(!r3.1)=true then some (3,())else some (0,())
def V5:Entry:=⟨21,[.val mY [],.val (.int .i64) []],[.val (.int .i64) [] []],λn c=>PW n c.1 c.2.1⟩
theorem aih[Fr][aI.LaidTab prog](n:Nat):aA prog n V5:=aK mixed aH func21 (by kernel_rfl) (hi:=⟨0,[],[],[],[(45,some 7,V4),(47,some 20,Pn),(46,some 22,tL)],[],[],[],[]⟩) (ak (aif n) (ak (Yk n) (ak (uN n) aJ))) (by intro n c;kernel_rfl)
def PT(n:Nat)(a0:p_):Option (p_×Unit):=(zm n a0.2.1).bind λr1=>(zm n a0.2.2.1).bind λr2=>(Dq n a0.2.2.2.1).bind λr3=>some ((a0.1,r1.1,r2.1,r3.1,()),())
def V6:Entry:=⟨48,[.val qF []],[.own qF [5,81,113] [] []],λn c=>PT n c.1⟩
theorem aii[Fr][aI.LaidTab prog](n:Nat):aA prog n V6:=aK mixed aH func48 (by kernel_rfl) (hi:=⟨0,[],[],[],[(78,some 7,Dl),(78,some 10,Dl),(79,some 13,KL)],[],[],[],[]⟩) (ak (Ij n) (ak (Ij n) (ak (Qw n) aJ))) (by intro n c;kernel_rfl)
def LP(n:Nat)(a0:List Int):Option ((List Int)×Unit):=if a0.isEmpty=true then yt [(.sl 2 (.int .i64))] (some (([]:List Int),())) (if(([]:List Int).length+a0.length)*8<=140737488355328 then some (([]:List Int)++a0,())else none)else if(([]:List Int).length+a0.length)*8<=140737488355328 then some (([]:List Int)++a0,())else none
def V7:Entry:=⟨49,[.val (.sl 2 (.int .i64)) []],[.own (.sl 2 (.int .i64)) [2] [] []],λn c=>LP n c.1⟩
theorem aij[Fr][aI.LaidTab prog](n:Nat):aA prog n V7:=aK mixed aH func49 (by kernel_rfl) (hi:=ahF) aJ (by intro n c;kernel_rfl)
def K7(n:Nat)(a0:jd):Option (jd×Unit):=(PT n a0.1).bind λr1=>rounds (λL2 (v2:(List j5)×Int×Int×jd×jd×Unit)=>if decide (v2.2.2.1<v2.2.1)=true then if aF v2.2.2.1 v2.1.length then(LP n ((((v2.1.getD v2.2.2.1.toNat cB).2).2).1)).bind λr3=>if(v2.2.2.2.2.1.2.1.length+[((v2.1.getD v2.2.2.1.toNat cB).1,((v2.1.getD v2.2.2.1.toNat cB).2).1,r3.1,(((v2.1.getD v2.2.2.1.toNat cB).2).2).2)].length)*56<=140737488355328 then L2 (v2.1,v2.2.1,i64.wrap (v2.2.2.1+1),v2.2.2.2.1,(v2.2.2.2.2.1.1,v2.2.2.2.2.1.2.1++[((v2.1.getD v2.2.2.1.toNat cB).1,((v2.1.getD v2.2.2.1.toNat cB).2).1,r3.1,(((v2.1.getD v2.2.2.1.toNat cB).2).2).2)],v2.2.2.2.2.1.2.2),())else none else none else some (v2.2.2.2.2.1,())) n (a0.2.1,(a0.2.1.length:Int),0,Na,(r1.1,([]:List j5),()),())
def V8:Entry:=⟨22,[.val mY []],[.own mY [2,5,65,81,113] [] []],λn c=>K7 n c.1⟩
theorem aik[Fr][aI.LaidTab prog](n:Nat):aA prog n V8:=aK mixed aH func22 (by kernel_rfl) (hi:=⟨0,[22,23,28],[(0,[2,3,11,12,13],[66,98])],[],[(48,some 8,V6),(49,some 19,V7)],[],[],[],[]⟩) (ak (aii n) (ak (aij n) aJ)) (by intro n c;kernel_rfl)
def PU(n:Nat)(a0:jd)(lK:Int):Option (Int×jd×Unit):=(Bb n a0.1.2.2.2.1 ((a0.2.1.getD lK.toNat cB).1)).bind λr1=>if decide (r1.1<0)=true then some ((-1),a0,())else if aF r1.1 a0.1.2.2.2.1.2.1.length then if(!decide ((((a0.1.2.2.2.1.2.1.getD r1.1.toNat bS).2).1)=(((a0.2.1.getD lK.toNat cB).2).1)))=true then some ((-1),a0,())else if aF r1.1 a0.1.2.2.2.1.2.1.length then if 0<=r1.1 then some (r1.1,a0,())else none else none else none
def V9:Entry:=⟨50,[.rw mY [2,5,65,81,113] [] [],.into 0 [some 1,none]],[.into 0 [some 0,some 3,some 1,none]],λn c=>PU n c.1 c.2.1⟩
theorem ail[Fr][aI.LaidTab prog](n:Nat):aA prog n V9:=aK mixed aH func50 (by kernel_rfl) (hi:=⟨0,[40],[],[],[(80,some 15,Gu)],[],[],[],[]⟩) (ak (MI n) aJ) (by intro n c;kernel_rfl)
def PR(n:Nat)(a0:dK)(a1:Int):Option (Bool×Unit):=some (decide (a0.1=a1),())
def V_:Entry:=⟨82,[.val gW [],.ro (.int .i64)],[.val .bool [] []],λn c=>PR n c.1 c.2.1⟩
theorem aim[Fr][aI.LaidTab prog](n:Nat):aA prog n V_:=aK mixed aH func82 (by kernel_rfl) (hi:=ahF) aJ (by intro n c;kernel_rfl)
def P9(n:Nat)(a0:List dK)(lK:Int):Option (Int×Unit):=rounds (λL1 (v1:(List dK)×Int×Int×Int×Unit)=>if decide (v1.2.2.2.1<v1.2.2.1)=true then if aF v1.2.2.2.1 v1.1.length then(PR n (v1.1.getD v1.2.2.2.1.toNat bT) v1.2.1).bind λr2=>if r2.1=true then some (v1.2.2.2.1,())else L1 (v1.1,v1.2.1,v1.2.2.1,i64.wrap (v1.2.2.2.1+1),())else none else some ((-1),())) n (a0,lK,(a0.length:Int),0,())
def Wd:Entry:=⟨81,[.val (.sl 113 gW) [],.fn 82 [(.int .i64)]],[.val (.int .i64) [] []],λn c=>P9 n c.1 c.2.1⟩
theorem ain[Fr][aI.LaidTab prog](n:Nat):aA prog n Wd:=aK mixed aH func81 (by kernel_rfl) (hi:=⟨0,[],[(0,[0,1,7,8],[])],[],[(82,some 16,V_)],[],[],[],[]⟩) (ak (aim n) aJ) (by intro n c;kernel_rfl)
def Gy(n:Nat)(a0:cz)(a1:Int):Option (Int×Unit):=(P9 n a0.2.2.2.1 a1).bind λr1=>some (r1.1,())
def We:Entry:=⟨51,[.val gV [],.val (.int .i64) []],[.val (.int .i64) [] []],λn c=>Gy n c.1 c.2.1⟩
theorem aio[Fr][aI.LaidTab prog](n:Nat):aA prog n We:=aK mixed aH func51 (by kernel_rfl) (hi:=⟨0,[],[],[],[(81,some 8,Wd)],[],[],[],[]⟩) (ak (ain n) aJ) (by intro n c;kernel_rfl)
def Hu(n:Nat)(a0:List Int)(a1:Int)(a2:Int):Option (Int×(List Int)×Unit):=if 0<=a1/\a1<=a2/\a2<=(a0.length:Int)/\(a0.length:Int)<=(a0.length:Int)then if decide (a1=a2)=true then some (((a0.length:Nat):Int),a0,())else if 0<=(0:Int)/\(0:Int)<=a1/\a1<=(a0.length:Int)then if 0<=a2/\a2<=(a0.length:Int)/\(a0.length:Int)<=(a0.length:Int)then if a1.toNat<=a2.toNat then if 0<=(((a1.toNat+((a0.length:Int).toNat-a2.toNat))-0:Nat):Int)/\(((a1.toNat+((a0.length:Int).toNat-a2.toNat))-0:Nat):Int)<=(a0.length:Int)/\((0:Nat):Int)+(a0.length:Int)<=((a0.take a1.toNat++(a0.take ((a0.length:Int).toNat)).drop a2.toNat++a0.drop (a1.toNat+((a0.length:Int).toNat-a2.toNat))).length:Int)then some ((((a1.toNat+((a0.length:Int).toNat-a2.toNat)):Nat):Int),(a0.take a1.toNat++(a0.take ((a0.length:Int).toNat)).drop a2.toNat++a0.drop (a1.toNat+((a0.length:Int).toNat-a2.toNat))).take (0+(((a1.toNat+((a0.length:Int).toNat-a2.toNat))-0:Nat):Int).toNat)++List.replicate ((0+(a0.length:Int).toNat)-(0+(((a1.toNat+((a0.length:Int).toNat-a2.toNat))-0:Nat):Int).toNat)) (0:Int)++(a0.take a1.toNat++(a0.take ((a0.length:Int).toNat)).drop a2.toNat++a0.drop (a1.toNat+((a0.length:Int).toNat-a2.toNat))).drop (0+(a0.length:Int).toNat),())else none else none else none else none else none
def Wh:Entry:=⟨52,[.bO (.sl 2 (.int .i64)) [2] [2],.val (.int .i64) [],.val (.int .i64) []],[.into 0 []],λn c=>Hu n c.1 c.2.1 c.2.2.1⟩
theorem aip[Fr][aI.LaidTab prog](n:Nat):aA prog n Wh:=aK mixed aH func52 (by kernel_rfl) (hi:=⟨0,[],[],[],[],[],[],[13,22,25,26,29,31],[]⟩) aJ (by intro n c;kernel_rfl)
def apO:Go.Shelf.Ren:=⟨fun|173=>83|246=>110|283=>132|284=>133|285=>134|286=>135|129=>151|317=>150|318=>152|319=>153|320=>154|337=>180|338=>181|n=>n,fun|2=>2|3=>3|9=>9|4=>4|171=>167|0=>0|53=>168|37=>22|5=>5|173=>171|212=>194|51=>195|20=>20|213=>196|46=>198|232=>229|233=>230|n=>n,fun|17=>0|18=>1|19=>2|n=>n⟩
theorem apN:Go.Proofs.LaysM.n173 prog apO:={
 mixed:=by kernel_rfl
 f129:=func151.trans (congrArg some (by kernel_rfl))
 f173:=func83.trans (congrArg some (by kernel_rfl))
 f246:=func110.trans (congrArg some (by kernel_rfl))
 f283:=func132.trans (congrArg some (by kernel_rfl))
 f284:=func133.trans (congrArg some (by kernel_rfl))
 f285:=func134.trans (congrArg some (by kernel_rfl))
 f286:=func135.trans (congrArg some (by kernel_rfl))
 f317:=func150.trans (congrArg some (by kernel_rfl))
 f318:=func152.trans (congrArg some (by kernel_rfl))
 f319:=func153.trans (congrArg some (by kernel_rfl))
 f320:=func154.trans (congrArg some (by kernel_rfl))
 f337:=func180.trans (congrArg some (by kernel_rfl))
 f338:=func181.trans (congrArg some (by kernel_rfl))
 t0:=Tryz.underlying0
 a0:=Tryz.isAgg0
 z0:=Tryz.sizeOf0
 v0:=Tryz.zeroValue0
 t2:=Tryz.underlying2
 a2:=Tryz.isAgg2
 z2:=Tryz.sizeOf2
 v2:=Tryz.zeroValue2
 t3:=Tryz.underlying3
 a3:=Tryz.isAgg3
 z3:=Tryz.sizeOf3
 v3:=Tryz.zeroValue3
 t4:=Tryz.underlying4
 a4:=Tryz.isAgg4
 z4:=Tryz.sizeOf4
 v4:=Tryz.zeroValue4
 t5:=Tryz.underlying5
 a5:=Tryz.isAgg5
 z5:=Tryz.sizeOf5
 v5:=Tryz.zeroValue5
 t9:=Tryz.underlying9
 a9:=Tryz.isAgg9
 z9:=Tryz.sizeOf9
 v9:=Tryz.zeroValue9
 t20:=Tryz.underlying20
 a20:=Tryz.isAgg20
 z20:=Tryz.sizeOf20
 v20:=Tryz.zeroValue20
 t37:=Tryz.underlying22
 a37:=Tryz.isAgg22
 z37:=Tryz.sizeOf22
 v37:=Tryz.zeroValue22
 t46:=Tryz.underlying198
 a46:=Tryz.isAgg198
 z46:=Tryz.sizeOf198
 v46:=Tryz.zeroValue198
 t51:=Tryz.underlying195
 a51:=Tryz.isAgg195
 z51:=Tryz.sizeOf195
 v51:=Tryz.zeroValue195
 t53:=Tryz.underlying168
 a53:=Tryz.isAgg168
 z53:=Tryz.sizeOf168
 v53:=Tryz.zeroValue168
 t171:=Tryz.underlying167
 a171:=Tryz.isAgg167
 z171:=Tryz.sizeOf167
 v171:=Tryz.zeroValue167
 t173:=Tryz.underlying171
 a173:=Tryz.isAgg171
 z173:=Tryz.sizeOf171
 v173:=Tryz.zeroValue171
 t212:=Tryz.underlying194
 a212:=Tryz.isAgg194
 z212:=Tryz.sizeOf194
 v212:=Tryz.zeroValue194
 t213:=Tryz.underlying196
 a213:=Tryz.isAgg196
 z213:=Tryz.sizeOf196
 t232:=Tryz.underlying229
 a232:=Tryz.isAgg229
 z232:=Tryz.sizeOf229
 v232:=Tryz.zeroValue229
 t233:=Tryz.underlying230
 a233:=Tryz.isAgg230
 z233:=Tryz.sizeOf230
 v233:=Tryz.zeroValue230
 g17:=by kernel_rfl
 g18:=by kernel_rfl
 g19:=by kernel_rfl
 i0:=by kernel_rfl
 i2:=by kernel_rfl
 i3:=by kernel_rfl
 i4:=by kernel_rfl
 i5:=by kernel_rfl
 i9:=by kernel_rfl
 i20:=by kernel_rfl
 i37:=by kernel_rfl
 i46:=by kernel_rfl
 i51:=by kernel_rfl
 i53:=by kernel_rfl
 i171:=by kernel_rfl
 i173:=by kernel_rfl
 i212:=by kernel_rfl
 i232:=by kernel_rfl
 i233:=by kernel_rfl
 m17:=by kernel_rfl
 m18:=by kernel_rfl
 m19:=by kernel_rfl }
open Go.Proofs Go.RowKit Go.Sort Go.Lib in
theorem strconv_FormatInt_10(n:Int)(h0 : -9223372036854775808<=n)(h1:n<=9223372036854775807)(w:World)(htab:Lib.TabIs prog w "internal/strconv.uint64pow10" .u64 Lib.pow10Tab) :
  Calls prog 83 #[.int .i64 n,.int .i64 10] w λe w'=>e=.returned (.string ⟨(Lib.itoa n).toArray⟩)/\∃k os,w'=grow (w.drewN k) os:=Any.strconv_FormatInt_10 apN n h0 h1 w htab
open Go.Proofs Go.Shelf Go.RowKit Go.Sort Go.Lib in
theorem alq(n:Int)(h0 : -9223372036854775808<=n)(h1:n<=9223372036854775807)(w:World)(htab:Lib.TabIs prog w "internal/strconv.uint64pow10" .u64 Lib.pow10Tab) :
  Calls prog 53 #[.int .i64 n] w λe w'=>e=.returned (.string ⟨(Lib.itoa n).toArray⟩)/\Below w.heap.size w w':=by
 have e83:∀args w,(callFunc 83 args).run prog w=.ok (.enter 83 args) w:=λargs w=>Go.MuLone.run_callFunc_enter func83 (by kernel_rfl) rfl args w
 go_enter func53,Tryz.ntmps53
 go_wp2_with (go_at_fn 83;refine(strconv_FormatInt_10 n h0 h1 _ htab).mono ?_;rintro e w' ⟨rfl,k,os,rfl⟩)
 go_ret
 exact⟨rfl,⟨rfl,rfl,rfl,by simp[grow,World.drewN],λk hk=>by simp[grow,World.drewN,Array.getElem?_append,hk]⟩⟩
def Bd(n:Nat)(a0:Int):Option (List Int×Unit):=aI.Ew a0
def acM:List aD:=[.val (.int .i64) []]
def aru:List bN:=[.val .str [] []]
def Pp:Entry:=⟨53,acM,aru,λn (c:Cont (kin acM))=>Bd n c.1⟩
theorem Ym[Fr][aI.LaidTab prog](n:Nat):aA prog n Pp:=aI.alp alq (Go.MuLone.run_callFunc_enter func53 (by kernel_rfl) rfl)
def GU(n:Nat)(a0:cz):Option ((List Int)×Unit):=rounds (λL1 (v1:(List dK)×Int×Int×(List Int)×Unit)=>if decide (v1.2.2.1<v1.2.1)=true then if aF v1.2.2.1 v1.1.length then if(v1.2.2.2.1.length+[(v1.1.getD v1.2.2.1.toNat bT).1].length)*8<=140737488355328 then L1 (v1.1,v1.2.1,i64.wrap (v1.2.2.1+1),v1.2.2.2.1++[(v1.1.getD v1.2.2.1.toNat bT).1],())else none else none else some (v1.2.2.2.1,())) n (a0.2.2.2.1,(a0.2.2.2.1.length:Int),0,([]:List Int),())
def Wi:Entry:=⟨54,[.ro gV],[.own (.sl 2 (.int .i64)) [2] [] []],λn c=>GU n c.1⟩
theorem aiq[Fr][aI.LaidTab prog](n:Nat):aA prog n Wi:=aK mixed aH func54 (by kernel_rfl) (hi:=⟨0,[],[(0,[3,10,11,12],[194])],[],[],[],[],[],[]⟩) aJ (by intro n c;kernel_rfl)
def Lb(n:Nat)(a0:List Int):Option (Int×Unit):=some ((a0.length:Int),())
def Wj:Entry:=⟨55,[.val (.sl 2 (.int .i64)) []],[.val (.int .i64) [] []],λn c=>Lb n c.1⟩
theorem air[Fr][aI.LaidTab prog](n:Nat):aA prog n Wj:=aK mixed aH func55 (by kernel_rfl) (hi:=ahF) aJ (by intro n c;kernel_rfl)
def K8(n:Nat)(a0:jd)(lK:Int):Option ((List (List Int))×jd×Unit):=if decide (((a0.2.1.getD lK.toNat cB).1)=([]:List Int))=true then some (([]:List (List Int)),a0,())else(PU n a0 lK).bind λr1=>if decide (r1.1<0)=true then some ([[42,32,99,108,111,115,101,100]],(r1.2.1.1,r1.2.1.2.1.set lK.toNat (([]:List Int),0,([]:List Int),((((r1.2.1.2.1.getD lK.toNat cB).2).2).2).1,()),r1.2.1.2.2),())else rounds (λL2 (v2:Int×Int×Int×jd×(List (List Int))×Unit)=>if decide (v2.2.2.1>=0)=true then if aF v2.2.2.1 ((((v2.2.2.2.1.2.1.getD v2.1.toNat cB).2).2).1).length then(Gy n (v2.2.2.2.1.1.2.2.2.1.2.1.getD v2.2.1.toNat bS) (((((v2.2.2.2.1.2.1.getD v2.1.toNat cB).2).2).1).getD v2.2.2.1.toNat 0)).bind λr3=>if decide (r3.1<0)=true then(Hu n ((((v2.2.2.2.1.2.1.getD v2.1.toNat cB).2).2).1) v2.2.2.1 (i64.wrap (v2.2.2.1+1))).bind λr4=>if([v2.1]:List Int)=([v2.1]:List Int)then(Bd n (i64.wrap (v2.2.2.1+1))).bind λr5=>if [42,32,103,111,110,101,32].length+r5.1.length<=9223372036854775807 then if(v2.2.2.2.2.1.length+[[42,32,103,111,110,101,32]++r5.1].length)*16<=140737488355328 then L2 (v2.1,v2.2.1,i64.wrap (v2.2.2.1-1),(v2.2.2.2.1.1,(bY (bY v2.2.2.2.1.2.1 v2.1.toNat cB λz1=>(z1.1,z1.2.1,r4.2.1,z1.2.2.2)) v2.1.toNat cB λz1=>(z1.1,z1.2.1,(((((bY v2.2.2.2.1.2.1 v2.1.toNat cB λz1=>(z1.1,z1.2.1,r4.2.1,z1.2.2.2)).getD v2.1.toNat cB).2).2).1).take r4.1.toNat,z1.2.2.2)),v2.2.2.2.1.2.2),v2.2.2.2.2.1++[[42,32,103,111,110,101,32]++r5.1],())else none else none else none else L2 (v2.1,v2.2.1,i64.wrap (v2.2.2.1-1),v2.2.2.2.1,v2.2.2.2.2.1,())else none else if decide (((((((v2.2.2.2.1.1.2.2.2.1.2.1.getD v2.2.1.toNat bS).2).2).2).1).length:Int)>(((((v2.2.2.2.1.2.1.getD v2.1.toNat cB).2).2).1).length:Int))=true then(GU n (v2.2.2.2.1.1.2.2.2.1.2.1.getD v2.2.1.toNat bS)).bind λr6=>(Lb n (((((bY v2.2.2.2.1.2.1 v2.1.toNat cB λz1=>(z1.1,z1.2.1,r6.1,z1.2.2.2)).getD v2.1.toNat cB).2).2).1)).bind λr7=>(Bd n r7.1).bind λr8=>if [42,32,101,120,105,115,116,115,32].length+r8.1.length<=9223372036854775807 then if(v2.2.2.2.2.1.length+[[42,32,101,120,105,115,116,115,32]++r8.1].length)*16<=140737488355328 then some (v2.2.2.2.2.1++[[42,32,101,120,105,115,116,115,32]++r8.1],(v2.2.2.2.1.1,(bY v2.2.2.2.1.2.1 v2.1.toNat cB λz1=>(z1.1,z1.2.1,r6.1,z1.2.2.2)),v2.2.2.2.1.2.2),())else none else none else some (v2.2.2.2.2.1,v2.2.2.2.1,())) n (lK,r1.1,i64.wrap ((((((r1.2.1.2.1.getD lK.toNat cB).2).2).1).length:Int)-1),r1.2.1,([]:List (List Int)),())
def Wl:Entry:=⟨23,[.rw mY [2,5,65,81,113] [2,65,4294967295] [2],.into 0 [some 1,none]],[.own (.sl 9 .str) [9] [] []],λn c=>K8 n c.1 c.2.1⟩
theorem ais[Fr][aI.LaidTab prog](n:Nat):aA prog n Wl:=aK mixed aH func23 (by kernel_rfl) (hi:=⟨0,[53],[(0,[1,5,6,7],[0,834])],[],[(50,some 15,V9),(51,some 47,We),(52,some 57,Wh),(53,some 63,Pp),(54,some 80,Wi),(55,some 88,Wj),(53,some 89,Pp)],[],[],[],[]⟩) (ak (ail n) (ak (aio n) (ak (aip n) (ak (Ym n) (ak (aiq n) (ak (air n) (ak (Ym n) aJ))))))) (by intro n c;kernel_rfl)
def GK(n:Nat)(a0:jd)(a1:Int):Option (zL×Unit):=(PW n a0 a1).bind λr1=>if(!decide (r1.1=0))=true then some ((r1.1,([]:List (List Int)),Na,()),())else(K7 n a0).bind λr2=>if aF a1 r2.1.2.1.length then(K8 n r2.1 a1).bind λr3=>some ((0,r3.1,r3.2.1,()),())else none
def Pq:Entry:=⟨7,[.val mY [],.val (.int .i64) []],[.own ym [2,5,9,65,81,113] [] []],λn c=>GK n c.1 c.2.1⟩
theorem Yn[Fr][aI.LaidTab prog](n:Nat):aA prog n Pq:=aK mixed aH func7 (by kernel_rfl) (hi:=⟨0,[18,23],[],[],[(21,some 10,V5),(22,some 16,V8),(23,some 21,Wl)],[],[],[],[]⟩) (ak (aih n) (ak (aik n) (ak (ais n) aJ))) (by intro n c;kernel_rfl)
def Li(n:Nat)(a0:List (List Int))(a1:List (List Int)):Option (Bool×Unit):=if(!decide ((a0.length:Int)=(a1.length:Int)))=true then some (false,())else rounds (λL1 (v1:(List (List Int))×(List (List Int))×Int×Unit)=>if decide (v1.2.2.1<(v1.1.length:Int))=true then if aF v1.2.2.1 v1.1.length then if aF v1.2.2.1 v1.2.1.length then if(!decide ((v1.1.getD v1.2.2.1.toNat ([]:List Int))=(v1.2.1.getD v1.2.2.1.toNat ([]:List Int))))=true then some (false,())else L1 (v1.1,v1.2.1,i64.wrap (v1.2.2.1+1),())else none else none else some (true,())) n (a0,a1,0,())
def acZ:List aD:=[.val (.sl 9 .str) [],.val (.sl 9 .str) []]
def arI:List bN:=[.val .bool [] []]
def XB:Entry:=⟨24,acZ,arI,λn (c:Cont (kin acZ))=>Li n c.1 c.2.1⟩
theorem ajt[Fr][aI.LaidTab prog](n:Nat):aA prog n XB:=aK mixed aH func24 (by kernel_rfl) (hi:=afP) aJ (by intro n c;kernel_rfl)
def Dv(n:Nat)(a0:List Int)(a1:List Int):Option (Bool×Unit):=if(!decide ((a0.length:Int)=(a1.length:Int)))=true then some (false,())else rounds (λL1 (v1:(List Int)×Ed)=>if decide (v1.2.2.1<(v1.1.length:Int))=true then if aF v1.2.2.1 v1.1.length then if aF v1.2.2.1 v1.2.1.length then if(!decide ((v1.1.getD v1.2.2.1.toNat 0)=(v1.2.1.getD v1.2.2.1.toNat 0)))=true then some (false,())else L1 (v1.1,v1.2.1,i64.wrap (v1.2.2.1+1),())else none else none else some (true,())) n (a0,a1,0,())
def acS:List aD:=[.val (.sl 5 (.int .u8)) [],.val (.sl 5 (.int .u8)) []]
def arB:List bN:=[.val .bool [] []]
def KP:Entry:=⟨56,acS,arB,λn (c:Cont (kin acS))=>Dv n c.1 c.2.1⟩
theorem QB[Fr][aI.LaidTab prog](n:Nat):aA prog n KP:=aK mixed aH func56 (by kernel_rfl) (hi:=afP) aJ (by intro n c;kernel_rfl)
def GX(n:Nat)(a0:dK)(a1:dK):Option (Bool×Unit):=if(!decide (a0.1=a1.1))=true then some (false,())else if(!decide (a0.2.1=a1.2.1))=true then some (false,())else if(!decide (a0.2.2.1=a1.2.2.1))=true then some (false,())else(Dv n a0.2.2.2.1 a1.2.2.2.1).bind λr1=>if(!r1.1)=true then some (false,())else some (true,())
def acU:List aD:=[.val gW [],.val gW []]
def arD:List bN:=[.val .bool [] []]
def Xw:Entry:=⟨155,acU,arD,λn (c:Cont (kin acU))=>GX n c.1 c.2.1⟩
theorem ajo[Fr][aI.LaidTab prog](n:Nat):aA prog n Xw:=aK mixed aH func155 (by kernel_rfl) (hi:=⟨0,[],[],[],[(56,some 24,KP)],[],[],[],[]⟩) (ak (QB n) aJ) (by intro n c;kernel_rfl)
def Lg(n:Nat)(a0:List dK)(a1:List dK):Option (Bool×Unit):=if(!decide ((a0.length:Int)=(a1.length:Int)))=true then some (false,())else rounds (λL1 (v1:(List dK)×(List dK)×Int×Unit)=>if decide (v1.2.2.1<(v1.1.length:Int))=true then if aF v1.2.2.1 v1.1.length then if aF v1.2.2.1 v1.2.1.length then(GX n (v1.1.getD v1.2.2.1.toNat bT) (v1.2.1.getD v1.2.2.1.toNat bT)).bind λr2=>if(!r2.1)=true then some (false,())else L1 (v1.1,v1.2.1,i64.wrap (v1.2.2.1+1),())else none else none else some (true,())) n (a0,a1,0,())
def acV:List aD:=[.val (.sl 113 gW) [],.val (.sl 113 gW) []]
def arE:List bN:=[.val .bool [] []]
def Xx:Entry:=⟨136,acV,arE,λn (c:Cont (kin acV))=>Lg n c.1 c.2.1⟩
theorem ajp[Fr][aI.LaidTab prog](n:Nat):aA prog n Xx:=aK mixed aH func136 (by kernel_rfl) (hi:=⟨0,[],[(0,[0,1,5],[])],[],[(155,some 25,Xw)],[],[],[],[]⟩) (ak (ajo n) aJ) (by intro n c;kernel_rfl)
def GV(n:Nat)(a0:cz)(a1:cz):Option (Bool×Unit):=if(!decide (a0.1=a1.1))=true then some (false,())else if(!decide (a0.2.1=a1.2.1))=true then some (false,())else if(!decide (a0.2.2.1=a1.2.2.1))=true then some (false,())else(Lg n a0.2.2.2.1 a1.2.2.2.1).bind λr1=>if(!r1.1)=true then some (false,())else some (true,())
def acQ:List aD:=[.val gV [],.val gV []]
def arz:List bN:=[.val .bool [] []]
def Xt:Entry:=⟨111,acQ,arz,λn (c:Cont (kin acQ))=>GV n c.1 c.2.1⟩
theorem ajl[Fr][aI.LaidTab prog](n:Nat):aA prog n Xt:=aK mixed aH func111 (by kernel_rfl) (hi:=⟨0,[],[],[],[(136,some 24,Xx)],[],[],[],[]⟩) (ak (ajp n) aJ) (by intro n c;kernel_rfl)
def Lf(n:Nat)(a0:List cz)(a1:List cz):Option (Bool×Unit):=if(!decide ((a0.length:Int)=(a1.length:Int)))=true then some (false,())else rounds (λL1 (v1:(List cz)×(List cz)×Int×Unit)=>if decide (v1.2.2.1<(v1.1.length:Int))=true then if aF v1.2.2.1 v1.1.length then if aF v1.2.2.1 v1.2.1.length then(GV n (v1.1.getD v1.2.2.1.toNat bS) (v1.2.1.getD v1.2.2.1.toNat bS)).bind λr2=>if(!r2.1)=true then some (false,())else L1 (v1.1,v1.2.1,i64.wrap (v1.2.2.1+1),())else none else none else some (true,())) n (a0,a1,0,())
def acR:List aD:=[.val (.sl 81 gV) [],.val (.sl 81 gV) []]
def arA:List bN:=[.val .bool [] []]
def Xu:Entry:=⟨84,acR,arA,λn (c:Cont (kin acR))=>Lf n c.1 c.2.1⟩
theorem ajm[Fr][aI.LaidTab prog](n:Nat):aA prog n Xu:=aK mixed aH func84 (by kernel_rfl) (hi:=⟨0,[],[(0,[0,1,5],[])],[],[(111,some 25,Xt)],[],[],[],[]⟩) (ak (ajl n) aJ) (by intro n c;kernel_rfl)
def Lh(n:Nat)(a0:dU)(a1:dU):Option (Bool×Unit):=if(!decide (a0.1=a1.1))=true then some (false,())else(Lf n a0.2.1 a1.2.1).bind λr1=>if(!r1.1)=true then some (false,())else some (true,())
def acY:List aD:=[.val jv [],.val jv []]
def arH:List bN:=[.val .bool [] []]
def XA:Entry:=⟨57,acY,arH,λn (c:Cont (kin acY))=>Lh n c.1 c.2.1⟩
theorem ajs[Fr][aI.LaidTab prog](n:Nat):aA prog n XA:=aK mixed aH func57 (by kernel_rfl) (hi:=⟨0,[],[],[],[(84,some 14,Xu)],[],[],[],[]⟩) (ak (ajm n) aJ) (by intro n c;kernel_rfl)
def GZ(n:Nat)(a0:p_)(a1:p_):Option (Bool×Unit):=if(!(a0.1==a1.1))=true then some (false,())else(Dv n a0.2.1 a1.2.1).bind λr1=>if(!r1.1)=true then some (false,())else(Dv n a0.2.2.1 a1.2.2.1).bind λr2=>if(!r2.1)=true then some (false,())else(Lh n a0.2.2.2.1 a1.2.2.2.1).bind λr3=>if(!r3.1)=true then some (false,())else some (true,())
def ac0:List aD:=[.val qF [],.val qF []]
def arJ:List bN:=[.val .bool [] []]
def XC:Entry:=⟨25,ac0,arJ,λn (c:Cont (kin ac0))=>GZ n c.1 c.2.1⟩
theorem aju[Fr][aI.LaidTab prog](n:Nat):aA prog n XC:=aK mixed aH func25 (by kernel_rfl) (hi:=⟨0,[],[],[],[(56,some 14,KP),(56,some 20,KP),(57,some 26,XA)],[],[],[],[]⟩) (ak (QB n) (ak (QB n) (ak (ajs n) aJ))) (by intro n c;kernel_rfl)
def Dw(n:Nat)(a0:List Int)(a1:List Int):Option (Bool×Unit):=if(!decide ((a0.length:Int)=(a1.length:Int)))=true then some (false,())else rounds (λL1 (v1:(List Int)×Ed)=>if decide (v1.2.2.1<(v1.1.length:Int))=true then if aF v1.2.2.1 v1.1.length then if aF v1.2.2.1 v1.2.1.length then if(!decide ((v1.1.getD v1.2.2.1.toNat 0)=(v1.2.1.getD v1.2.2.1.toNat 0)))=true then some (false,())else L1 (v1.1,v1.2.1,i64.wrap (v1.2.2.1+1),())else none else none else some (true,())) n (a0,a1,0,())
def acT:List aD:=[.val (.sl 2 (.int .i64)) [],.val (.sl 2 (.int .i64)) []]
def arC:List bN:=[.val .bool [] []]
def Xv:Entry:=⟨85,acT,arC,λn (c:Cont (kin acT))=>Dw n c.1 c.2.1⟩
theorem ajn[Fr][aI.LaidTab prog](n:Nat):aA prog n Xv:=aK mixed aH func85 (by kernel_rfl) (hi:=afP) aJ (by intro n c;kernel_rfl)
def Dx(n:Nat)(a0:j5)(a1:j5):Option (Bool×Unit):=if(!decide (a0.1=a1.1))=true then some (false,())else if(!decide (a0.2.1=a1.2.1))=true then some (false,())else(Dw n a0.2.2.1 a1.2.2.1).bind λr1=>if(!r1.1)=true then some (false,())else if(!decide (a0.2.2.2.1=a1.2.2.2.1))=true then some (false,())else some (true,())
def acW:List aD:=[.val gN [],.val gN []]
def arF:List bN:=[.val .bool [] []]
def Xy:Entry:=⟨58,acW,arF,λn (c:Cont (kin acW))=>Dx n c.1 c.2.1⟩
theorem ajq[Fr][aI.LaidTab prog](n:Nat):aA prog n Xy:=aK mixed aH func58 (by kernel_rfl) (hi:=⟨0,[],[],[],[(85,some 19,Xv)],[],[],[],[]⟩) (ak (ajn n) aJ) (by intro n c;kernel_rfl)
def GY(n:Nat)(a0:List j5)(a1:List j5):Option (Bool×Unit):=if(!decide ((a0.length:Int)=(a1.length:Int)))=true then some (false,())else rounds (λL1 (v1:(List j5)×(List j5)×Int×Unit)=>if decide (v1.2.2.1<(v1.1.length:Int))=true then if aF v1.2.2.1 v1.1.length then if aF v1.2.2.1 v1.2.1.length then(Dx n (v1.1.getD v1.2.2.1.toNat cB) (v1.2.1.getD v1.2.2.1.toNat cB)).bind λr2=>if(!r2.1)=true then some (false,())else L1 (v1.1,v1.2.1,i64.wrap (v1.2.2.1+1),())else none else none else some (true,())) n (a0,a1,0,())
def acX:List aD:=[.val (.sl 65 gN) [],.val (.sl 65 gN) []]
def arG:List bN:=[.val .bool [] []]
def Xz:Entry:=⟨26,acX,arG,λn (c:Cont (kin acX))=>GY n c.1 c.2.1⟩
theorem ajr[Fr][aI.LaidTab prog](n:Nat):aA prog n Xz:=aK mixed aH func26 (by kernel_rfl) (hi:=⟨0,[],[(0,[0,1,5],[])],[],[(58,some 25,Xy)],[],[],[],[]⟩) (ak (ajq n) aJ) (by intro n c;kernel_rfl)
def Dy(n:Nat)(a0:jd)(a1:jd):Option (Bool×Unit):=(GZ n a0.1 a1.1).bind λr1=>if(!r1.1)=true then some (false,())else(GY n a0.2.1 a1.2.1).bind λr2=>if(!r2.1)=true then some (false,())else some (true,())
def ac1:List aD:=[.val mY [],.val mY []]
def arK:List bN:=[.val .bool [] []]
def PL:Entry:=⟨9,ac1,arK,λn (c:Cont (kin ac1))=>Dy n c.1 c.2.1⟩
theorem YA[Fr][aI.LaidTab prog](n:Nat):aA prog n PL:=aK mixed aH func9 (by kernel_rfl) (hi:=⟨0,[],[],[],[(25,some 9,XC),(26,some 15,Xz)],[],[],[],[]⟩) (ak (aju n) (ak (ajr n) aJ)) (by intro n c;kernel_rfl)
def Dz(n:Nat)(a0:zL)(a1:zL):Option (Bool×Unit):=if(!decide (a0.1=a1.1))=true then some (false,())else(Li n a0.2.1 a1.2.1).bind λr1=>if(!r1.1)=true then some (false,())else(Dy n a0.2.2.1 a1.2.2.1).bind λr2=>if(!r2.1)=true then some (false,())else some (true,())
def ac2:List aD:=[.val ym [],.val ym []]
def arL:List bN:=[.val .bool [] []]
def KQ:Entry:=⟨8,ac2,arL,λn (c:Cont (kin ac2))=>Dz n c.1 c.2.1⟩
theorem QC[Fr][aI.LaidTab prog](n:Nat):aA prog n KQ:=aK mixed aH func8 (by kernel_rfl) (hi:=⟨0,[],[],[],[(24,some 14,XB),(9,some 20,PL)],[],[],[],[]⟩) (ak (ajt n) (ak (YA n) aJ)) (by intro n c;kernel_rfl)
def DC(n:Nat)(a0:List Int)(a1:Int):Option (Int×(List Int)×Unit):=rounds (λL1 (v1:Int×Int×(List Int)×Unit)=>if decide (v1.2.1<(v1.2.2.1.length:Int))=true then if aF v1.2.1 v1.2.2.1.length then L1 (i64.wrap (v1.1+1),i64.wrap (v1.2.1+1),v1.2.2.1.set v1.2.1.toNat (u8.wrap v1.1),())else none else some (v1.1,v1.2.2.1,())) n (a1,0,a0,())
def adf:List aD:=[.bO (.sl 5 (.int .u8)) [5] [5],.val (.int .i64) []]
def arX:List bN:=[.val (.int .i64) [] []]
def KT:Entry:=⟨59,adf,arX,λn (c:Cont (kin adf))=>DC n c.1 c.2.1⟩
def aht:Hint:=⟨0,[],[(0,[0,1,5],[0])],[],[],[],[],[],[]⟩
theorem QE[Fr][aI.LaidTab prog](n:Nat):aA prog n KT:=aK mixed aH func59 (by kernel_rfl) (hi:=aht) aJ (by intro n c;kernel_rfl)
def tN(n:Nat)(a0:Int):Option ((List Int)×Unit):=if decide (a0<=0)=true then some ([109,48],())else rounds (λL1 (v1:Int×(List Int)×Unit)=>if decide (v1.1>0)=true then if(10:Int)≠0 then if [u8.wrap (i64.wrap ((48:Int)+(v1.1.tmod 10)))].length+v1.2.1.length<=9223372036854775807 then if(10:Int)≠0 then L1 (i64.wrap (v1.1.tdiv 10),[u8.wrap (i64.wrap ((48:Int)+(v1.1.tmod 10)))]++v1.2.1,())else none else none else none else if [109].length+v1.2.1.length<=9223372036854775807 then some ([109]++v1.2.1,())else none) n (a0,([]:List Int),())
def adl:List aD:=[.val (.int .i64) []]
def ar3:List bN:=[.val .str [] []]
def A_:Entry:=⟨61,adl,ar3,λn (c:Cont (kin adl))=>tN n c.1⟩
theorem DT[Fr][aI.LaidTab prog](n:Nat):aA prog n A_:=aK mixed aH func61 (by kernel_rfl) (hi:=⟨0,[],[(0,[0,3],[])],[],[],[],[],[],[]⟩) aJ (by intro n c;kernel_rfl)
def Lr(n:Nat)(a0:List dK)(a1:Int):Option (Int×(List dK)×Unit):=rounds (λL1 (v1:Int×Int×(List dK)×Unit)=>if decide (v1.2.1<(v1.2.2.1.length:Int))=true then if aF v1.2.1 v1.2.2.1.length then if aF v1.2.1 (bY v1.2.2.1 v1.2.1.toNat bT λz1=>(v1.1,z1.2)).length then if aF v1.2.1 (bY (bY v1.2.2.1 v1.2.1.toNat bT λz1=>(v1.1,z1.2)) v1.2.1.toNat bT λz1=>(z1.1,i64.wrap (v1.1+1),z1.2.2)).length then if aF v1.2.1 (bY (bY (bY v1.2.2.1 v1.2.1.toNat bT λz1=>(v1.1,z1.2)) v1.2.1.toNat bT λz1=>(z1.1,i64.wrap (v1.1+1),z1.2.2)) v1.2.1.toNat bT λz1=>(z1.1,z1.2.1,i64.wrap ((i64.wrap (v1.1+1))+1),z1.2.2.2)).length then(DC n ((((((bY (bY (bY v1.2.2.1 v1.2.1.toNat bT λz1=>(v1.1,z1.2)) v1.2.1.toNat bT λz1=>(z1.1,i64.wrap (v1.1+1),z1.2.2)) v1.2.1.toNat bT λz1=>(z1.1,z1.2.1,i64.wrap ((i64.wrap (v1.1+1))+1),z1.2.2.2)).getD v1.2.1.toNat bT).2).2).2).1) (i64.wrap ((i64.wrap ((i64.wrap (v1.1+1))+1))+1))).bind λr2=>L1 (r2.1,i64.wrap (v1.2.1+1),(bY (bY (bY (bY v1.2.2.1 v1.2.1.toNat bT λz1=>(v1.1,z1.2)) v1.2.1.toNat bT λz1=>(z1.1,i64.wrap (v1.1+1),z1.2.2)) v1.2.1.toNat bT λz1=>(z1.1,z1.2.1,i64.wrap ((i64.wrap (v1.1+1))+1),z1.2.2.2)) v1.2.1.toNat bT λz1=>(z1.1,z1.2.1,z1.2.2.1,r2.2.1,z1.2.2.2.2)),())else none else none else none else none else some (v1.1,v1.2.2.1,())) n (a1,0,a0,())
def adh:List aD:=[.bO (.sl 113 gW) [5,113] [5,113,4294967295],.val (.int .i64) []]
def arZ:List bN:=[.val (.int .i64) [] []]
def XN:Entry:=⟨112,adh,arZ,λn (c:Cont (kin adh))=>Lr n c.1 c.2.1⟩
theorem ajF[Fr][aI.LaidTab prog](n:Nat):aA prog n XN:=aK mixed aH func112 (by kernel_rfl) (hi:=⟨0,[37],[(0,[0,1,5],[0])],[],[(59,some 39,KT)],[],[],[],[]⟩) (ak (QE n) aJ) (by intro n c;kernel_rfl)
def Lm(n:Nat)(a0:List cz)(a1:Int):Option dU:=rounds (λL1 (v1:Int×dU)=>if decide (v1.2.1<(v1.2.2.1.length:Int))=true then(tN n v1.1).bind λr2=>if aF v1.2.1 v1.2.2.1.length then if aF v1.2.1 (bY v1.2.2.1 v1.2.1.toNat bS λz1=>(r2.1,z1.2)).length then if aF v1.2.1 (bY (bY v1.2.2.1 v1.2.1.toNat bS λz1=>(r2.1,z1.2)) v1.2.1.toNat bS λz1=>(z1.1,i64.wrap (v1.1+1),z1.2.2)).length then if aF v1.2.1 (bY (bY (bY v1.2.2.1 v1.2.1.toNat bS λz1=>(r2.1,z1.2)) v1.2.1.toNat bS λz1=>(z1.1,i64.wrap (v1.1+1),z1.2.2)) v1.2.1.toNat bS λz1=>(z1.1,z1.2.1,i64.wrap ((i64.wrap (v1.1+1))+1),z1.2.2.2)).length then(Lr n ((((((bY (bY (bY v1.2.2.1 v1.2.1.toNat bS λz1=>(r2.1,z1.2)) v1.2.1.toNat bS λz1=>(z1.1,i64.wrap (v1.1+1),z1.2.2)) v1.2.1.toNat bS λz1=>(z1.1,z1.2.1,i64.wrap ((i64.wrap (v1.1+1))+1),z1.2.2.2)).getD v1.2.1.toNat bS).2).2).2).1) (i64.wrap ((i64.wrap ((i64.wrap (v1.1+1))+1))+1))).bind λr3=>L1 (r3.1,i64.wrap (v1.2.1+1),(bY (bY (bY (bY v1.2.2.1 v1.2.1.toNat bS λz1=>(r2.1,z1.2)) v1.2.1.toNat bS λz1=>(z1.1,i64.wrap (v1.1+1),z1.2.2)) v1.2.1.toNat bS λz1=>(z1.1,z1.2.1,i64.wrap ((i64.wrap (v1.1+1))+1),z1.2.2.2)) v1.2.1.toNat bS λz1=>(z1.1,z1.2.1,z1.2.2.1,r3.2.1,z1.2.2.2.2)),())else none else none else none else none else some (v1.1,v1.2.2.1,())) n (a1,0,a0,())
def ade:List aD:=[.bO (.sl 81 gV) [5,81,113] [5,81,113,4294967295],.val (.int .i64) []]
def arW:List bN:=[.val (.int .i64) [] []]
def XL:Entry:=⟨86,ade,arW,λn (c:Cont (kin ade))=>Lm n c.1 c.2.1⟩
theorem ajD[Fr][aI.LaidTab prog](n:Nat):aA prog n XL:=aK mixed aH func86 (by kernel_rfl) (hi:=⟨0,[38],[(0,[0,1,5],[0])],[],[(61,some 15,A_),(112,some 40,XN)],[],[],[],[]⟩) (ak (DT n) (ak (ajF n) aJ)) (by intro n c;kernel_rfl)
def Lt(n:Nat)(a0:dU)(a1:Int):Option (Int×dU×Unit):=(Lm n a0.2.1 a1).bind λr1=>some (r1.1,(a0.1,r1.2.1,a0.2.2),())
def adj:List aD:=[.bO jv [5,81,113] [5,81,113,4294967295],.val (.int .i64) []]
def ar1:List bN:=[.val (.int .i64) [] []]
def XP:Entry:=⟨60,adj,ar1,λn (c:Cont (kin adj))=>Lt n c.1 c.2.1⟩
theorem ajH[Fr][aI.LaidTab prog](n:Nat):aA prog n XP:=aK mixed aH func60 (by kernel_rfl) (hi:=⟨0,[],[],[],[(86,some 8,XL)],[],[],[],[]⟩) (ak (ajD n) aJ) (by intro n c;kernel_rfl)
def Lv(n:Nat)(a0:p_)(a1:Int):Option (Int×p_×Unit):=(DC n a0.2.1 a1).bind λr1=>(DC n a0.2.2.1 r1.1).bind λr2=>(Lt n a0.2.2.2.1 r2.1).bind λr3=>some (r3.1,(a0.1,r1.2.1,r2.2.1,r3.2.1,a0.2.2.2.2),())
def adm:List aD:=[.bO qF [5,81,113] [5,81,113,4294967295],.val (.int .i64) []]
def ar4:List bN:=[.val (.int .i64) [] []]
def XR:Entry:=⟨27,adm,ar4,λn (c:Cont (kin adm))=>Lv n c.1 c.2.1⟩
theorem ajJ[Fr][aI.LaidTab prog](n:Nat):aA prog n XR:=aK mixed aH func27 (by kernel_rfl) (hi:=⟨0,[],[],[],[(59,some 8,KT),(59,some 12,KT),(60,some 16,XP)],[],[],[],[]⟩) (ak (QE n) (ak (QE n) (ak (ajH n) aJ))) (by intro n c;kernel_rfl)
def Lp(n:Nat)(a0:List Int)(a1:Int):Option (Int×(List Int)×Unit):=rounds (λL1 (v1:Int×Int×(List Int)×Unit)=>if decide (v1.2.1<(v1.2.2.1.length:Int))=true then if aF v1.2.1 v1.2.2.1.length then L1 (i64.wrap (v1.1+1),i64.wrap (v1.2.1+1),v1.2.2.1.set v1.2.1.toNat v1.1,())else none else some (v1.1,v1.2.2.1,())) n (a1,0,a0,())
def adg:List aD:=[.bO (.sl 2 (.int .i64)) [2] [2],.val (.int .i64) []]
def arY:List bN:=[.val (.int .i64) [] []]
def XM:Entry:=⟨62,adg,arY,λn (c:Cont (kin adg))=>Lp n c.1 c.2.1⟩
theorem ajE[Fr][aI.LaidTab prog](n:Nat):aA prog n XM:=aK mixed aH func62 (by kernel_rfl) (hi:=aht) aJ (by intro n c;kernel_rfl)
def Ls(n:Nat)(a0:List j5)(a1:Int):Option (Int×(List j5)×Unit):=rounds (λL1 (v1:Int×Int×(List j5)×Unit)=>if decide (v1.2.1<(v1.2.2.1.length:Int))=true then(tN n v1.1).bind λr2=>if aF v1.2.1 v1.2.2.1.length then if aF v1.2.1 (bY v1.2.2.1 v1.2.1.toNat cB λz1=>(r2.1,z1.2)).length then if aF v1.2.1 (bY (bY v1.2.2.1 v1.2.1.toNat cB λz1=>(r2.1,z1.2)) v1.2.1.toNat cB λz1=>(z1.1,i64.wrap (v1.1+1),z1.2.2)).length then(Lp n (((((bY (bY v1.2.2.1 v1.2.1.toNat cB λz1=>(r2.1,z1.2)) v1.2.1.toNat cB λz1=>(z1.1,i64.wrap (v1.1+1),z1.2.2)).getD v1.2.1.toNat cB).2).2).1) (i64.wrap ((i64.wrap (v1.1+1))+1))).bind λr3=>if aF v1.2.1 (bY (bY (bY v1.2.2.1 v1.2.1.toNat cB λz1=>(r2.1,z1.2)) v1.2.1.toNat cB λz1=>(z1.1,i64.wrap (v1.1+1),z1.2.2)) v1.2.1.toNat cB λz1=>(z1.1,z1.2.1,r3.2.1,z1.2.2.2)).length then L1 (i64.wrap (r3.1+1),i64.wrap (v1.2.1+1),(bY (bY (bY (bY v1.2.2.1 v1.2.1.toNat cB λz1=>(r2.1,z1.2)) v1.2.1.toNat cB λz1=>(z1.1,i64.wrap (v1.1+1),z1.2.2)) v1.2.1.toNat cB λz1=>(z1.1,z1.2.1,r3.2.1,z1.2.2.2)) v1.2.1.toNat cB λz1=>(z1.1,z1.2.1,z1.2.2.1,r3.1,z1.2.2.2.2)),())else none else none else none else none else some (v1.1,v1.2.2.1,())) n (a1,0,a0,())
def adi:List aD:=[.bO (.sl 65 gN) [2,65] [2,65,4294967295],.val (.int .i64) []]
def ar0:List bN:=[.val (.int .i64) [] []]
def XO:Entry:=⟨28,adi,ar0,λn (c:Cont (kin adi))=>Ls n c.1 c.2.1⟩
theorem ajG[Fr][aI.LaidTab prog](n:Nat):aA prog n XO:=aK mixed aH func28 (by kernel_rfl) (hi:=⟨0,[31],[(0,[0,1,5],[0])],[],[(61,some 15,A_),(62,some 33,XM)],[],[],[],[]⟩) (ak (DT n) (ak (ajE n) aJ)) (by intro n c;kernel_rfl)
def Bf(n:Nat)(a0:jd)(a1:Int):Option (Int×jd×Unit):=(Lv n a0.1 a1).bind λr1=>(Ls n a0.2.1 r1.1).bind λr2=>some (r2.1,(r1.2.1,r2.2.1,a0.2.2),())
def adn:List aD:=[.bO mY [2,5,65,81,113] [2,5,65,81,113,4294967295],.val (.int .i64) []]
def ar5:List bN:=[.val (.int .i64) [] []]
def PN:Entry:=⟨10,adn,ar5,λn (c:Cont (kin adn))=>Bf n c.1 c.2.1⟩
theorem YC[Fr][aI.LaidTab prog](n:Nat):aA prog n PN:=aK mixed aH func10 (by kernel_rfl) (hi:=⟨0,[],[],[],[(27,some 8,XR),(28,some 12,XO)],[],[],[],[]⟩) (ak (ajJ n) (ak (ajG n) aJ)) (by intro n c;kernel_rfl)
def Lu(n:Nat)(a0:List (List Int))(a1:Int):Option (Int×(List (List Int))×Unit):=rounds (λL1 (v1:Int×Int×(List (List Int))×Unit)=>if decide (v1.2.1<(v1.2.2.1.length:Int))=true then(tN n v1.1).bind λr2=>if aF v1.2.1 v1.2.2.1.length then L1 (i64.wrap (v1.1+1),i64.wrap (v1.2.1+1),v1.2.2.1.set v1.2.1.toNat r2.1,())else none else some (v1.1,v1.2.2.1,())) n (a1,0,a0,())
def adk:List aD:=[.bO (.sl 9 .str) [9] [9],.val (.int .i64) []]
def ar2:List bN:=[.val (.int .i64) [] []]
def XQ:Entry:=⟨29,adk,ar2,λn (c:Cont (kin adk))=>Lu n c.1 c.2.1⟩
theorem ajI[Fr][aI.LaidTab prog](n:Nat):aA prog n XQ:=aK mixed aH func29 (by kernel_rfl) (hi:=⟨0,[],[(0,[0,1,5],[0])],[],[(61,some 15,A_)],[],[],[],[]⟩) (ak (DT n) aJ) (by intro n c;kernel_rfl)
def Lx(n:Nat)(a0:zL)(a1:Int):Option (Int×zL×Unit):=(Lu n a0.2.1 a1).bind λr1=>(Bf n a0.2.2.1 r1.1).bind λr2=>some (r2.1,(a0.1,r1.2.1,r2.2.1,a0.2.2.2),())
def ado:List aD:=[.bO ym [2,5,9,65,81,113] [2,5,9,65,81,113,4294967295],.val (.int .i64) []]
def ar6:List bN:=[.val (.int .i64) [] []]
def XT:Entry:=⟨11,ado,ar6,λn (c:Cont (kin ado))=>Lx n c.1 c.2.1⟩
theorem ajK[Fr][aI.LaidTab prog](n:Nat):aA prog n XT:=aK mixed aH func11 (by kernel_rfl) (hi:=⟨0,[],[],[],[(29,some 8,XQ),(10,some 12,PN)],[],[],[],[]⟩) (ak (ajI n) (ak (YC n) aJ)) (by intro n c;kernel_rfl)
def G8(n:Nat)(a0:List (List Int))(a1:Int):Option (Int×Unit):=rounds (λL1 (v1:(List (List Int))×Int×Int×Unit)=>if decide (v1.2.2.1<(v1.1.length:Int))=true then if aF v1.2.2.1 v1.1.length then(tN n v1.2.1).bind λr2=>if(!decide ((v1.1.getD v1.2.2.1.toNat ([]:List Int))=r2.1))=true then some ((-1),())else L1 (v1.1,i64.wrap (v1.2.1+1),i64.wrap (v1.2.2.1+1),())else none else some (v1.2.1,())) n (a0,a1,0,())
def ac9:List aD:=[.val (.sl 9 .str) [],.val (.int .i64) []]
def arS:List bN:=[.val (.int .i64) [] []]
def XI:Entry:=⟨30,ac9,arS,λn (c:Cont (kin ac9))=>G8 n c.1 c.2.1⟩
theorem ajA[Fr][aI.LaidTab prog](n:Nat):aA prog n XI:=aK mixed aH func30 (by kernel_rfl) (hi:=⟨0,[],[(0,[0,1,5],[])],[],[(61,some 17,A_)],[],[],[],[]⟩) (ak (DT n) aJ) (by intro n c;kernel_rfl)
def zl(n:Nat)(a0:List Int)(a1:Int):Option (Int×Unit):=rounds (λL1 (v1:(List Int)×Int×Int×Unit)=>if decide (v1.2.2.1<(v1.1.length:Int))=true then if aF v1.2.2.1 v1.1.length then if(!decide ((v1.1.getD v1.2.2.1.toNat 0)=(u8.wrap v1.2.1)))=true then some ((-1),())else L1 (v1.1,i64.wrap (v1.2.1+1),i64.wrap (v1.2.2.1+1),())else none else some (v1.2.1,())) n (a0,a1,0,())
def ac4:List aD:=[.val (.sl 5 (.int .u8)) [],.val (.int .i64) []]
def arN:List bN:=[.val (.int .i64) [] []]
def KS:Entry:=⟨87,ac4,arN,λn (c:Cont (kin ac4))=>zl n c.1 c.2.1⟩
theorem QD[Fr][aI.LaidTab prog](n:Nat):aA prog n KS:=aK mixed aH func87 (by kernel_rfl) (hi:=afP) aJ (by intro n c;kernel_rfl)
def Ll(n:Nat)(a0:List dK)(a1:Int):Option (Int×Unit):=rounds (λL1 (v1:(List dK)×Int×Int×Unit)=>if decide (v1.2.2.1<(v1.1.length:Int))=true then if aF v1.2.2.1 v1.1.length then if(!decide (((v1.1.getD v1.2.2.1.toNat bT).1)=v1.2.1))=true then some ((-1),())else if aF v1.2.2.1 v1.1.length then if(!decide ((((v1.1.getD v1.2.2.1.toNat bT).2).1)=(i64.wrap (v1.2.1+1))))=true then some ((-1),())else if aF v1.2.2.1 v1.1.length then if(!decide (((((v1.1.getD v1.2.2.1.toNat bT).2).2).1)=(i64.wrap ((i64.wrap (v1.2.1+1))+1))))=true then some ((-1),())else if aF v1.2.2.1 v1.1.length then(zl n (((((v1.1.getD v1.2.2.1.toNat bT).2).2).2).1) (i64.wrap ((i64.wrap ((i64.wrap (v1.2.1+1))+1))+1))).bind λr2=>if decide (r2.1<0)=true then some ((-1),())else L1 (v1.1,r2.1,i64.wrap (v1.2.2.1+1),())else none else none else none else none else some (v1.2.1,())) n (a0,a1,0,())
def ac6:List aD:=[.val (.sl 113 gW) [],.val (.int .i64) []]
def arP:List bN:=[.val (.int .i64) [] []]
def XF:Entry:=⟨137,ac6,arP,λn (c:Cont (kin ac6))=>Ll n c.1 c.2.1⟩
theorem ajx[Fr][aI.LaidTab prog](n:Nat):aA prog n XF:=aK mixed aH func137 (by kernel_rfl) (hi:=⟨0,[],[(0,[0,1,5],[])],[],[(87,some 45,KS)],[],[],[],[]⟩) (ak (QD n) aJ) (by intro n c;kernel_rfl)
def G5(n:Nat)(a0:List cz)(a1:Int):Option (Int×Unit):=rounds (λL1 (v1:(List cz)×Int×Int×Unit)=>if decide (v1.2.2.1<(v1.1.length:Int))=true then if aF v1.2.2.1 v1.1.length then(tN n v1.2.1).bind λr2=>if(!decide (((v1.1.getD v1.2.2.1.toNat bS).1)=r2.1))=true then some ((-1),())else if aF v1.2.2.1 v1.1.length then if(!decide ((((v1.1.getD v1.2.2.1.toNat bS).2).1)=(i64.wrap (v1.2.1+1))))=true then some ((-1),())else if aF v1.2.2.1 v1.1.length then if(!decide (((((v1.1.getD v1.2.2.1.toNat bS).2).2).1)=(i64.wrap ((i64.wrap (v1.2.1+1))+1))))=true then some ((-1),())else if aF v1.2.2.1 v1.1.length then(Ll n (((((v1.1.getD v1.2.2.1.toNat bS).2).2).2).1) (i64.wrap ((i64.wrap ((i64.wrap (v1.2.1+1))+1))+1))).bind λr3=>if decide (r3.1<0)=true then some ((-1),())else L1 (v1.1,r3.1,i64.wrap (v1.2.2.1+1),())else none else none else none else none else some (v1.2.1,())) n (a0,a1,0,())
def ac3:List aD:=[.val (.sl 81 gV) [],.val (.int .i64) []]
def arM:List bN:=[.val (.int .i64) [] []]
def XD:Entry:=⟨113,ac3,arM,λn (c:Cont (kin ac3))=>G5 n c.1 c.2.1⟩
theorem ajv[Fr][aI.LaidTab prog](n:Nat):aA prog n XD:=aK mixed aH func113 (by kernel_rfl) (hi:=⟨0,[],[(0,[0,1,5],[])],[],[(61,some 18,A_),(137,some 46,XF)],[],[],[],[]⟩) (ak (DT n) (ak (ajx n) aJ)) (by intro n c;kernel_rfl)
def G7(n:Nat)(a0:dU)(a1:Int):Option (Int×Unit):=(G5 n a0.2.1 a1).bind λr1=>if decide (r1.1<0)=true then some ((-1),())else some (r1.1,())
def ac8:List aD:=[.val jv [],.val (.int .i64) []]
def arR:List bN:=[.val (.int .i64) [] []]
def XH:Entry:=⟨88,ac8,arR,λn (c:Cont (kin ac8))=>G7 n c.1 c.2.1⟩
theorem ajz[Fr][aI.LaidTab prog](n:Nat):aA prog n XH:=aK mixed aH func88 (by kernel_rfl) (hi:=⟨0,[],[],[],[(113,some 8,XD)],[],[],[],[]⟩) (ak (ajv n) aJ) (by intro n c;kernel_rfl)
def G9(n:Nat)(a0:p_)(a1:Int):Option (Int×Unit):=(zl n a0.2.1 a1).bind λr1=>if decide (r1.1<0)=true then some ((-1),())else(zl n a0.2.2.1 r1.1).bind λr2=>if decide (r2.1<0)=true then some ((-1),())else(G7 n a0.2.2.2.1 r2.1).bind λr3=>if decide (r3.1<0)=true then some ((-1),())else some (r3.1,())
def ac_:List aD:=[.val qF [],.val (.int .i64) []]
def arT:List bN:=[.val (.int .i64) [] []]
def XJ:Entry:=⟨63,ac_,arT,λn (c:Cont (kin ac_))=>G9 n c.1 c.2.1⟩
theorem ajB[Fr][aI.LaidTab prog](n:Nat):aA prog n XJ:=aK mixed aH func63 (by kernel_rfl) (hi:=⟨0,[],[],[],[(87,some 8,KS),(87,some 14,KS),(88,some 20,XH)],[],[],[],[]⟩) (ak (QD n) (ak (QD n) (ak (ajz n) aJ))) (by intro n c;kernel_rfl)
def Lj(n:Nat)(a0:List Int)(a1:Int):Option (Int×Unit):=rounds (λL1 (v1:(List Int)×Int×Int×Unit)=>if decide (v1.2.2.1<(v1.1.length:Int))=true then if aF v1.2.2.1 v1.1.length then if(!decide ((v1.1.getD v1.2.2.1.toNat 0)=v1.2.1))=true then some ((-1),())else L1 (v1.1,i64.wrap (v1.2.1+1),i64.wrap (v1.2.2.1+1),())else none else some (v1.2.1,())) n (a0,a1,0,())
def ac5:List aD:=[.val (.sl 2 (.int .i64)) [],.val (.int .i64) []]
def arO:List bN:=[.val (.int .i64) [] []]
def XE:Entry:=⟨89,ac5,arO,λn (c:Cont (kin ac5))=>Lj n c.1 c.2.1⟩
theorem ajw[Fr][aI.LaidTab prog](n:Nat):aA prog n XE:=aK mixed aH func89 (by kernel_rfl) (hi:=afP) aJ (by intro n c;kernel_rfl)
def G6(n:Nat)(a0:List j5)(a1:Int):Option (Int×Unit):=rounds (λL1 (v1:(List j5)×Int×Int×Unit)=>if decide (v1.2.2.1<(v1.1.length:Int))=true then if aF v1.2.2.1 v1.1.length then(tN n v1.2.1).bind λr2=>if(!decide (((v1.1.getD v1.2.2.1.toNat cB).1)=r2.1))=true then some ((-1),())else if aF v1.2.2.1 v1.1.length then if(!decide ((((v1.1.getD v1.2.2.1.toNat cB).2).1)=(i64.wrap (v1.2.1+1))))=true then some ((-1),())else if aF v1.2.2.1 v1.1.length then(Lj n ((((v1.1.getD v1.2.2.1.toNat cB).2).2).1) (i64.wrap ((i64.wrap (v1.2.1+1))+1))).bind λr3=>if decide (r3.1<0)=true then some ((-1),())else if aF v1.2.2.1 v1.1.length then if(!decide ((((((v1.1.getD v1.2.2.1.toNat cB).2).2).2).1)=r3.1))=true then some ((-1),())else L1 (v1.1,i64.wrap (r3.1+1),i64.wrap (v1.2.2.1+1),())else none else none else none else none else some (v1.2.1,())) n (a0,a1,0,())
def ac7:List aD:=[.val (.sl 65 gN) [],.val (.int .i64) []]
def arQ:List bN:=[.val (.int .i64) [] []]
def XG:Entry:=⟨64,ac7,arQ,λn (c:Cont (kin ac7))=>G6 n c.1 c.2.1⟩
theorem ajy[Fr][aI.LaidTab prog](n:Nat):aA prog n XG:=aK mixed aH func64 (by kernel_rfl) (hi:=⟨0,[],[(0,[0,1,5],[])],[],[(61,some 18,A_),(89,some 37,XE)],[],[],[],[]⟩) (ak (DT n) (ak (ajw n) aJ)) (by intro n c;kernel_rfl)
def G_(n:Nat)(a0:jd)(a1:Int):Option (Int×Unit):=(G9 n a0.1 a1).bind λr1=>if decide (r1.1<0)=true then some ((-1),())else(G6 n a0.2.1 r1.1).bind λr2=>if decide (r2.1<0)=true then some ((-1),())else some (r2.1,())
def ada:List aD:=[.val mY [],.val (.int .i64) []]
def arU:List bN:=[.val (.int .i64) [] []]
def XK:Entry:=⟨31,ada,arU,λn (c:Cont (kin ada))=>G_ n c.1 c.2.1⟩
theorem ajC[Fr][aI.LaidTab prog](n:Nat):aA prog n XK:=aK mixed aH func31 (by kernel_rfl) (hi:=⟨0,[],[],[],[(63,some 8,XJ),(64,some 14,XG)],[],[],[],[]⟩) (ak (ajB n) (ak (ajy n) aJ)) (by intro n c;kernel_rfl)
def He(n:Nat)(a0:zL)(a1:Int):Option (Int×Unit):=(G8 n a0.2.1 a1).bind λr1=>if decide (r1.1<0)=true then some ((-1),())else(G_ n a0.2.2.1 r1.1).bind λr2=>if decide (r2.1<0)=true then some ((-1),())else some (r2.1,())
def adb:List aD:=[.val ym [],.val (.int .i64) []]
def arV:List bN:=[.val (.int .i64) [] []]
def PM:Entry:=⟨12,adb,arV,λn (c:Cont (kin adb))=>He n c.1 c.2.1⟩
theorem YB[Fr][aI.LaidTab prog](n:Nat):aA prog n PM:=aK mixed aH func12 (by kernel_rfl) (hi:=⟨0,[],[],[],[(30,some 8,XI),(31,some 14,XK)],[],[],[],[]⟩) (ak (ajA n) (ak (ajC n) aJ)) (by intro n c;kernel_rfl)
def PX(n:Nat)(a0:jd)(a1:Int):Option (Bool×Unit):=(LD n a0 1048576).bind λr1=>if decide (r1.1<0)=true then some (true,())else(Bg n a0).bind λr2=>(L_ n r2.1 a1).bind λr3=>(Bg n a0).bind λr4=>(GK n r4.1 a1).bind λr5=>(Dz n r5.1 r3.1).bind λr6=>if(!r6.1)=true then some (false,())else(Bg n a0).bind λr7=>(Dy n r4.1 r7.1).bind λr8=>if(!r8.1)=true then some (false,())else(Bf n r4.1 1).bind λr9=>if decide (r9.1<0)=true then some (false,())else(Dz n r5.1 r3.1).bind λo7=>if(!o7.1)=true then some (false,())else(Lx n r5.1 1).bind λlY=>(He n lY.2.1 1).bind λmK=>if decide (mK.1<0)=true then some (false,())else if(!decide (mK.1=lY.1))=true then some (false,())else(Bg n a0).bind λpQ=>(GK n pQ.1 a1).bind λwI=>(Dz n wI.1 r3.1).bind λtq=>if(!tq.1)=true then some (false,())else(He n lY.2.1 1).bind λr16=>if decide (r16.1<0)=true then some (false,())else if(!decide (r16.1=lY.1))=true then some (false,())else some (true,())
def FQ:List aD:=[.val BQ [],.val (.int .i64) []]
def ary:List bN:=[.val .bool [] []]
def Xr:Entry:=⟨3,FQ,ary,λn (c:Cont (kin FQ))=>PX n c.1 c.2.1⟩
theorem ajk[Fr][aI.LaidTab prog](n:Nat):aA prog n Xr:=aK mixed aH func3 (by kernel_rfl) (hi:=⟨0,[36,47],[],[],[(4,some 15,X5),(6,some 19,Gv),(5,some 21,WV),(6,some 23,Gv),(7,some 26,Pq),(8,some 29,KQ),(6,some 33,Gv),(9,some 34,PL),(10,some 38,PN),(8,some 44,KQ),(11,some 49,XT),(12,some 52,PM),(6,some 59,Gv),(7,some 61,Pq),(8,some 64,KQ),(12,some 68,PM)],[],[],[],[]⟩) (ak (ajU n) (ak (MK n) (ak (aiX n) (ak (MK n) (ak (Yn n) (ak (QC n) (ak (MK n) (ak (YA n) (ak (YC n) (ak (QC n) (ak (ajK n) (ak (YB n) (ak (MK n) (ak (Yn n) (ak (QC n) (ak (YB n) aJ)))))))))))))))) (by intro n c;kernel_rfl)
end Go.Proofs.YtplpeegfeajkkaaGreatDoor.nE

/- What the functions of this law compute, as plain functions, and that the reading comes to them. No condition. -/
import Derived.Test.YtgppmpedglhhfaaGreatDoorSepLib
import Derived.Test.YtgppmpedglhhfaaGreatDoorProg
import Derived.KernelRfl
set_option linter.unusedVariables false
set_option linter.unusedSimpArgs false
namespace Go.Proofs.YtgppmpedglhhfaaGreatDoor.q9
open Go IntKind Go.Proofs.Tryz Go.Proofs.YtgppmpedglhhfaaGreatDoor Ow
abbrev TJ:K:=(.st (.pair .str .unit))
abbrev sJ:Type:=(List Int)×Unit
abbrev TK:K:=(.st (.pair .str (.pair (.int .u64) .unit)))
abbrev Hr:Type:=(List Int)×Int×Unit
abbrev TL:K:=(.st (.pair (.int .i64) (.pair .str .unit)))
abbrev Dh:Type:=Int×sJ
abbrev TM:K:=(.st (.pair (.int .u8) (.pair (.int .u8) .unit)))
abbrev ay:Type:=Int×Int×Unit
abbrev lS:K:=(.st (.pair (.int .i64) (.pair (.int .i64) .unit)))
abbrev TN:K:=(.st (.pair (.sl 5 (.int .u8)) (.pair (.int .i64) .unit)))
abbrev TP:K:=(.st (.pair (.int .i64) (.pair (.int .i64) (.pair .bool (.pair (.int .u8) .unit)))))
abbrev jP:K:=(.st (.pair (.int .i64) (.pair (.int .i64) (.pair (.sl 2 (.int .i64)) (.pair (.sl 96 lS) (.pair (.int .i64) (.pair (.int .i64) .unit)))))))
abbrev bn:Type:=Int×Int×(List Int)×(List (ay))×ay
abbrev wV:K:=(.st (.pair (.int .i64) (.pair (.sl 51 jP) .unit)))
abbrev uz:Type:=Int×(List (bn))×Unit
abbrev Hq:K:=(.st (.pair (.sl 9 .str) (.pair (.sl 51 jP) (.pair .bool .unit))))
abbrev wW:Type:=(List (List Int))×(List (bn))×Bool×Unit
abbrev Df:K:=(.st (.pair (.sl 9 .str) (.pair (.int .i64) (.pair (.sl 51 jP) (.pair .bool .unit)))))
abbrev sK:Type:=(List (List Int))×Int×(List (bn))×Bool×Unit
abbrev aJ:bn:=(0,0,([]:List Int),([]:List ay),0,0,())
abbrev fI:ay:=(0,0,())
def QM:vD:={ ty:=[(2,(.int .i64)),(3,(.int .i64)),(4,.bool),(5,(.int .u8)),(6,(.int .u8)),(7,TP),(8,TP),(9,.str),(10,.str),(11,.str),(12,(.int .u64)),(13,TK),(14,TK),(21,(.int .i32)),(22,(.sl 51 jP)),(23,wV),(24,wV),(29,(.sl 5 (.int .u8))),(32,TL),(33,TL),(40,(.sl 9 .str)),(44,Hq),(45,Hq),(48,(.sl 2 (.int .i64))),(49,(.sl 96 lS)),(50,jP),(51,jP),(63,Df),(64,Df),(70,lS),(71,lS),(85,TN),(86,TN),(95,lS),(96,lS),(115,(.sl 48 (.sl 2 (.int .i64)))),(136,(.int .u64)),(139,(.int .i64)),(140,(.int .u64)),(157,TM),(158,TM),(160,(.int .u32)),(178,TJ),(179,TJ),(189,(.int .u8)),(190,(.int .u8)),(192,(.int .i32)),(193,(.int .i32))],bytes:=[(2,8),(3,8),(4,1),(5,1),(6,1),(7,24),(8,24),(9,16),(10,16),(11,16),(12,8),(13,24),(14,24),(21,4),(22,24),(23,32),(24,32),(29,24),(32,24),(33,24),(40,24),(44,56),(45,56),(48,24),(49,24),(50,80),(51,80),(63,64),(64,64),(70,16),(71,16),(85,32),(86,32),(95,16),(96,16),(115,24),(136,8),(139,8),(140,8),(157,2),(158,2),(160,4),(178,16),(179,16),(189,1),(190,1),(192,4),(193,4)],ptr:=[15,16,17,43,53,66,89,128,143,146,177] }
def T:bF:=QM.tab
theorem bS:FQ prog QM=true:=by kernel_rfl
theorem mixed:prog.follows .mixedOrders=true:=by kernel_rfl
def yj(n:Nat)(a0:List Int)(a1:Int):Option ((List (List Int))×Unit):=rounds (λL1 (v1:(List Int)×Int×Int×Int×(List (List Int))×Unit)=>if decide (v1.2.2.2.1<=(v1.1.length:Int))=true then if decide (v1.2.2.2.1=(v1.1.length:Int))=true then if 0<=v1.2.2.1/\v1.2.2.1<=v1.2.2.2.1/\v1.2.2.2.1<=(v1.1.length:Int)then if(v1.2.2.2.2.1.length+[(v1.1.take v1.2.2.2.1.toNat).drop v1.2.2.1.toNat].length)*16<=140737488355328 then L1 (v1.1,v1.2.1,i64.wrap (v1.2.2.2.1+1),i64.wrap (v1.2.2.2.1+1),v1.2.2.2.2.1++[(v1.1.take v1.2.2.2.1.toNat).drop v1.2.2.1.toNat],())else none else none else if aX v1.2.2.2.1 v1.1.length then if decide ((v1.1.getD v1.2.2.2.1.toNat 0)=v1.2.1)=true then if 0<=v1.2.2.1/\v1.2.2.1<=v1.2.2.2.1/\v1.2.2.2.1<=(v1.1.length:Int)then if(v1.2.2.2.2.1.length+[(v1.1.take v1.2.2.2.1.toNat).drop v1.2.2.1.toNat].length)*16<=140737488355328 then L1 (v1.1,v1.2.1,i64.wrap (v1.2.2.2.1+1),i64.wrap (v1.2.2.2.1+1),v1.2.2.2.2.1++[(v1.1.take v1.2.2.2.1.toNat).drop v1.2.2.1.toNat],())else none else none else L1 (v1.1,v1.2.1,v1.2.2.1,i64.wrap (v1.2.2.2.1+1),v1.2.2.2.2.1,())else none else some (v1.2.2.2.2.1,())) n (a0,a1,0,0,([]:List (List Int)),())
def F3:Entry:=⟨18,[.val .str [],.val (.int .u8) []],[.own (.sl 9 .str) [9] [] []],λn c=>yj n c.1 c.2.1⟩
theorem La[Fr][aD.LaidTab prog][aD.LaidErr prog][aT.bG prog](n:Nat):bC prog n F3:=bW mixed bS func18 (by kernel_rfl) (hi:=⟨0,[],[(0,[0,1,5,6,7],[258])],[],[],[],[],[],[]⟩) bU (by intro n c;kernel_rfl)
def j6(n:Nat)(a0:sK):Option ((List Int)×sK×Unit):=if decide (a0.2.1>=(a0.1.length:Int))=true then some (([]:List Int),(a0.1,a0.2.1,a0.2.2.1,true,a0.2.2.2.2),())else if aX (i64.wrap ((i64.wrap (a0.2.1+1))-1)) a0.1.length then some (a0.1.getD (i64.wrap ((i64.wrap (a0.2.1+1))-1)).toNat ([]:List Int),(a0.1,i64.wrap (a0.2.1+1),a0.2.2),())else none
def zX:Entry:=⟨75,[.rw Df [2,51,96] [4294967295] []],[.val .str [] []],λn c=>j6 n c.1⟩
def H_1:Hint:=⟨0,[],[],[],[],[],[],[],[]⟩
theorem CV[Fr][aD.LaidTab prog][aD.LaidErr prog][aT.bG prog](n:Nat):bC prog n zX:=bW mixed bS func75 (by kernel_rfl) (hi:=H_1) bU (by intro n c;kernel_rfl)
def K5(n:Nat)(a0:Int):Option sJ:=if aX a0 [([]:List Int),[97,108,108],[102,108,97,103],[115,105,110,99,101],[98,101,102,111,114,101],[108,97,114,103,101,114],[115,117,98,106,101,99,116],[98,111,100,121],[117,105,100],[110,111,116],[97,110,100],[111,114]].length then some ([([]:List Int),[97,108,108],[102,108,97,103],[115,105,110,99,101],[98,101,102,111,114,101],[108,97,114,103,101,114],[115,117,98,106,101,99,116],[98,111,100,121],[117,105,100],[110,111,116],[97,110,100],[111,114]].getD a0.toNat ([]:List Int),())else none
def Rn:Entry:=⟨60,[.val (.int .i64) []],[.val .str [] []],λn c=>K5 n c.1⟩
theorem K_2[Fr][aD.LaidTab prog][aD.LaidErr prog][aT.bG prog](n:Nat):bC prog n Rn:=bW mixed bS func60 (by kernel_rfl) (hi:=H_1) bU (by intro n c;kernel_rfl)
def GD(n:Nat)(a0:List Int):Option (Int×Unit):=rounds (λL1 (v1:Hr)=>if decide (v1.2.1<=11)=true then(K5 n v1.2.1).bind λr2=>if decide (r2.1=v1.1)=true then some (v1.2.1,())else L1 (v1.1,i64.wrap (v1.2.1+1),())else some (0,())) n (a0,1,())
def Rz:Entry:=⟨74,[.val .str []],[.val (.int .i64) [] []],λn c=>GD n c.1⟩
theorem K_3[Fr][aD.LaidTab prog][aD.LaidErr prog][aT.bG prog](n:Nat):bC prog n Rz:=bW mixed bS func74 (by kernel_rfl) (hi:=⟨0,[],[(0,[0,3],[])],[],[(60,some 9,Rn)],[],[],[],[]⟩) (aI (K_2 n) bU) (by intro n c;kernel_rfl)
def pR(n:Nat)(a0:Int):Option (Bool×Unit):=if decide (a0=10)=true then some (true,())else some (decide (a0=11),())
def F5:Entry:=⟨76,[.val (.int .i64) []],[.val .bool [] []],λn c=>pR n c.1⟩
theorem Ld[Fr][aD.LaidTab prog][aD.LaidErr prog][aT.bG prog](n:Nat):bC prog n F5:=bW mixed bS func76 (by kernel_rfl) (hi:=H_1) bU (by intro n c;kernel_rfl)
def K6(n:Nat)(a0:Int):Option sJ:=if aX a0 [[115,101,101,110],[97,110,115,119,101,114,101,100],[102,108,97,103,103,101,100],[100,101,108,101,116,101,100]].length then some ([[115,101,101,110],[97,110,115,119,101,114,101,100],[102,108,97,103,103,101,100],[100,101,108,101,116,101,100]].getD a0.toNat ([]:List Int),())else none
def RN:Entry:=⟨121,[.val (.int .i64) []],[.val .str [] []],λn c=>K6 n c.1⟩
theorem K_5[Fr][aD.LaidTab prog][aD.LaidErr prog][aT.bG prog](n:Nat):bC prog n RN:=bW mixed bS func121 (by kernel_rfl) (hi:=H_1) bU (by intro n c;kernel_rfl)
def Ae(n:Nat)(a0:Int):Option sJ:=rounds (λL1 (v1:Int×Hr)=>if decide (v1.2.2.1<4)=true then if 0<=(IntKind.u64.wrap v1.2.2.1)then if(2:Int)≠0 then if decide (((v1.1.fdiv (2 ^ min (IntKind.u64.wrap v1.2.2.1).toNat (IntKind.bits .i64))).tmod 2)=0)=true then L1 (v1.1,v1.2.1,i64.wrap (v1.2.2.1+1),())else if(!decide (v1.2.1=([]:List Int)))=true then if v1.2.1.length+[32].length<=9223372036854775807 then(K6 n v1.2.2.1).bind λr2=>if(v1.2.1++[32]).length+r2.1.length<=9223372036854775807 then L1 (v1.1,(v1.2.1++[32])++r2.1,i64.wrap (v1.2.2.1+1),())else none else none else(K6 n v1.2.2.1).bind λr3=>if v1.2.1.length+r3.1.length<=9223372036854775807 then L1 (v1.1,v1.2.1++r3.1,i64.wrap (v1.2.2.1+1),())else none else none else none else if decide (v1.2.1=([]:List Int))=true then some ([110,111,110,101],())else some (v1.2.1,())) n (a0,([]:List Int),0,())
def RV:Entry:=⟨93,[.val (.int .i64) []],[.val .str [] []],λn c=>Ae n c.1⟩
theorem K_6[Fr][aD.LaidTab prog][aD.LaidErr prog][aT.bG prog](n:Nat):bC prog n RV:=bW mixed bS func93 (by kernel_rfl) (hi:=⟨0,[],[(0,[0,3,4],[])],[],[(121,some 21,RN)],[],[],[],[]⟩) (aI (K_5 n) bU) (by intro n c;kernel_rfl)
def Gx(n:Nat)(a0:List Int):Option (ay×Unit):=rounds (λL1 (v1:(List Int)×Int×ay×Unit)=>if decide (v1.2.1<16)=true then(Ae n v1.2.1).bind λr2=>if decide (r2.1=v1.1)=true then some ((0,v1.2.1,()),())else L1 (v1.1,i64.wrap (v1.2.1+1),v1.2.2.1,())else some ((5,0,()),())) n (a0,0,fI,())
def R9:Entry:=⟨102,[.val .str []],[.val lS [] []],λn c=>Gx n c.1⟩
theorem K_7[Fr][aD.LaidTab prog][aD.LaidErr prog][aT.bG prog](n:Nat):bC prog n R9:=bW mixed bS func102 (by kernel_rfl) (hi:=⟨0,[],[(0,[0,2,3],[66])],[],[(93,some 9,RV)],[],[],[],[]⟩) (aI (K_6 n) bU) (by intro n c;kernel_rfl)
def yt(n:Nat)(a0:List Int):Option (Int×Unit):=if decide ((a0.length:Int)<1)=true then some ((-1),())else if decide ((a0.length:Int)>4)=true then some ((-1),())else if decide ((a0.length:Int)>1)=true then if aX 0 a0.length then if decide ((a0.getD (0:Int).toNat 0)=48)=true then some ((-1),())else rounds (λL1 (v1:(List Int)×ay)=>if decide (v1.2.2.1<(v1.1.length:Int))=true then if aX v1.2.2.1 v1.1.length then if decide ((v1.1.getD v1.2.2.1.toNat 0)<48)=true then some ((-1),())else if aX v1.2.2.1 v1.1.length then if decide ((v1.1.getD v1.2.2.1.toNat 0)>57)=true then some ((-1),())else if aX v1.2.2.1 v1.1.length then L1 (v1.1,i64.wrap ((i64.wrap (v1.2.1*10))+(i64.wrap (u8.wrap ((v1.1.getD v1.2.2.1.toNat 0)-48)))),i64.wrap (v1.2.2.1+1),())else none else none else none else some (v1.2.1,())) n (a0,0,0,())else none else rounds (λL2 (v2:(List Int)×ay)=>if decide (v2.2.2.1<(v2.1.length:Int))=true then if aX v2.2.2.1 v2.1.length then if decide ((v2.1.getD v2.2.2.1.toNat 0)<48)=true then some ((-1),())else if aX v2.2.2.1 v2.1.length then if decide ((v2.1.getD v2.2.2.1.toNat 0)>57)=true then some ((-1),())else if aX v2.2.2.1 v2.1.length then L2 (v2.1,i64.wrap ((i64.wrap (v2.2.1*10))+(i64.wrap (u8.wrap ((v2.1.getD v2.2.2.1.toNat 0)-48)))),i64.wrap (v2.2.2.1+1),())else none else none else none else some (v2.2.1,())) n (a0,0,0,())
def KQ:Entry:=⟨103,[.val .str []],[.val (.int .i64) [] []],λn c=>yt n c.1⟩
theorem SX[Fr][aD.LaidTab prog][aD.LaidErr prog][aT.bG prog](n:Nat):bC prog n KQ:=bW mixed bS func103 (by kernel_rfl) (hi:=⟨0,[],[(0,[0,3,4],[])],[],[],[],[],[],[]⟩) bU (by intro n c;kernel_rfl)
def yz(n:Nat)(a0:List Int)(a1:Int):Option (Int×Unit):=if decide (a1>=(a0.length:Int))=true then some ((-1),())else if aX a1 a0.length then if decide ((a0.getD a1.toNat 0)<128)=true then some ((-1),())else if aX a1 a0.length then if decide ((a0.getD a1.toNat 0)>191)=true then some ((-1),())else if aX a1 a0.length then some (i64.wrap ((i64.wrap (a0.getD a1.toNat 0))-128),())else none else none else none
def KR:Entry:=⟨162,[.val (.sl 5 (.int .u8)) [],.val (.int .i64) []],[.val (.int .i64) [] []],λn c=>yz n c.1 c.2.1⟩
theorem SY[Fr][aD.LaidTab prog][aD.LaidErr prog][aT.bG prog](n:Nat):bC prog n KR:=bW mixed bS func162 (by kernel_rfl) (hi:=H_1) bU (by intro n c;kernel_rfl)
def mD(n:Nat)(a0:Int)(a1:Int)(a2:Int):Option (Bool×Unit):=if decide (a0>=a1)=true then some (decide (a0<=a2),())else some (false,())
def oQ:Entry:=⟨97,[.val (.int .i64) [],.val (.int .i64) [],.val (.int .i64) []],[.val .bool [] []],λn c=>mD n c.1 c.2.1 c.2.2.1⟩
theorem pW[Fr][aD.LaidTab prog][aD.LaidErr prog][aT.bG prog](n:Nat):bC prog n oQ:=bW mixed bS func97 (by kernel_rfl) (hi:=H_1) bU (by intro n c;kernel_rfl)
def wH(n:Nat)(a0:Int):Option (Bool×Unit):=(mD n a0 0 55295).bind λr1=>if r1.1=true then some (true,())else(mD n a0 57344 65535).bind λr2=>some (r2.1,())
def F4:Entry:=⟨125,[.val (.int .i64) []],[.val .bool [] []],λn c=>wH n c.1⟩
theorem Lb[Fr][aD.LaidTab prog][aD.LaidErr prog][aT.bG prog](n:Nat):bC prog n F4:=bW mixed bS func125 (by kernel_rfl) (hi:=⟨0,[],[],[],[(97,some 4,oQ),(97,some 7,oQ)],[],[],[],[]⟩) (aI (pW n) (aI (pW n) bU)) (by intro n c;kernel_rfl)
def GH(n:Nat)(a0:List Int)(a1:Int):Option ay:=if aX a1 a0.length then if decide ((i64.wrap (a0.getD a1.toNat 0))<128)=true then some (i64.wrap (a0.getD a1.toNat 0),1,())else(yz n a0 (i64.wrap (a1+1))).bind λr1=>if decide ((i64.wrap (a0.getD a1.toNat 0))>=194)=true then if decide ((i64.wrap (a0.getD a1.toNat 0))<224)=true then if decide (r1.1>=0)=true then some (i64.wrap ((i64.wrap ((i64.wrap ((i64.wrap (a0.getD a1.toNat 0))-192))*64))+r1.1),2,())else(yz n a0 (i64.wrap (a1+2))).bind λr2=>if decide ((i64.wrap (a0.getD a1.toNat 0))>=224)=true then if decide ((i64.wrap (a0.getD a1.toNat 0))<240)=true then if decide (r1.1>=0)=true then if decide (r2.1>=0)=true then if decide ((i64.wrap ((i64.wrap ((i64.wrap ((i64.wrap ((i64.wrap (a0.getD a1.toNat 0))-224))*4096))+(i64.wrap (r1.1*64))))+r2.1))>=2048)=true then(wH n (i64.wrap ((i64.wrap ((i64.wrap ((i64.wrap ((i64.wrap (a0.getD a1.toNat 0))-224))*4096))+(i64.wrap (r1.1*64))))+r2.1))).bind λr3=>if r3.1=true then some (i64.wrap ((i64.wrap ((i64.wrap ((i64.wrap ((i64.wrap (a0.getD a1.toNat 0))-224))*4096))+(i64.wrap (r1.1*64))))+r2.1),3,())else some fI else some fI else some fI else some fI else some fI else some fI else(yz n a0 (i64.wrap (a1+2))).bind λr4=>if decide ((i64.wrap (a0.getD a1.toNat 0))>=224)=true then if decide ((i64.wrap (a0.getD a1.toNat 0))<240)=true then if decide (r1.1>=0)=true then if decide (r4.1>=0)=true then if decide ((i64.wrap ((i64.wrap ((i64.wrap ((i64.wrap ((i64.wrap (a0.getD a1.toNat 0))-224))*4096))+(i64.wrap (r1.1*64))))+r4.1))>=2048)=true then(wH n (i64.wrap ((i64.wrap ((i64.wrap ((i64.wrap ((i64.wrap (a0.getD a1.toNat 0))-224))*4096))+(i64.wrap (r1.1*64))))+r4.1))).bind λr5=>if r5.1=true then some (i64.wrap ((i64.wrap ((i64.wrap ((i64.wrap ((i64.wrap (a0.getD a1.toNat 0))-224))*4096))+(i64.wrap (r1.1*64))))+r4.1),3,())else some fI else some fI else some fI else some fI else some fI else some fI else(yz n a0 (i64.wrap (a1+2))).bind λr6=>if decide ((i64.wrap (a0.getD a1.toNat 0))>=224)=true then if decide ((i64.wrap (a0.getD a1.toNat 0))<240)=true then if decide (r1.1>=0)=true then if decide (r6.1>=0)=true then if decide ((i64.wrap ((i64.wrap ((i64.wrap ((i64.wrap ((i64.wrap (a0.getD a1.toNat 0))-224))*4096))+(i64.wrap (r1.1*64))))+r6.1))>=2048)=true then(wH n (i64.wrap ((i64.wrap ((i64.wrap ((i64.wrap ((i64.wrap (a0.getD a1.toNat 0))-224))*4096))+(i64.wrap (r1.1*64))))+r6.1))).bind λr7=>if r7.1=true then some (i64.wrap ((i64.wrap ((i64.wrap ((i64.wrap ((i64.wrap (a0.getD a1.toNat 0))-224))*4096))+(i64.wrap (r1.1*64))))+r6.1),3,())else some fI else some fI else some fI else some fI else some fI else some fI else none
def Ra:Entry:=⟨146,[.val (.sl 5 (.int .u8)) [],.val (.int .i64) []],[.val (.int .i64) [] [],.val (.int .i64) [] []],λn c=>GH n c.1 c.2.1⟩
theorem acw[Fr][aD.LaidTab prog][aD.LaidErr prog][aT.bG prog](n:Nat):bC prog n Ra:=bW mixed bS func146 (by kernel_rfl) (hi:=⟨0,[],[],[],[(162,some 21,KR),(162,some 40,KR),(125,some 67,F4)],[],[],[],[]⟩) (aI (SY n) (aI (SY n) (aI (Lb n) bU))) (by intro n c;kernel_rfl)
def Su(n:Nat)(a0:Int):Option (Int×Unit):=(mD n a0 0 160).bind λr1=>if r1.1=true then some (a0,())else if decide (a0=173)=true then some (a0,())else if decide (a0=167)=true then some (253,())else if decide (a0=8470)=true then some (240,())else(mD n a0 1025 1119).bind λr2=>if r2.1=true then if(!decide (a0=1037))=true then if(!decide (a0=1104))=true then if(!decide (a0=1117))=true then some (i64.wrap (a0-864),())else some ((-1),())else some ((-1),())else some ((-1),())else some ((-1),())
def Rb:Entry:=⟨145,[.val (.int .i64) []],[.val (.int .i64) [] []],λn c=>Su n c.1⟩
theorem acy[Fr][aD.LaidTab prog][aD.LaidErr prog][aT.bG prog](n:Nat):bC prog n Rb:=bW mixed bS func145 (by kernel_rfl) (hi:=⟨0,[],[],[],[(97,some 5,oQ),(97,some 19,oQ)],[],[],[],[]⟩) (aI (pW n) (aI (pW n) bU)) (by intro n c;kernel_rfl)
def nJ(n:Nat)(a0:Int)(a1:Int):Option (Bool×Unit):=if decide (a0=1)=true then(mD n a1 0 127).bind λr1=>some (r1.1,())else if decide (a0=2)=true then(mD n a1 0 255).bind λr2=>some (r2.1,())else if decide (a0=3)=true then(Su n a1).bind λr3=>some (decide (r3.1>=0),())else some (true,())
def Rc:Entry:=⟨122,[.val (.int .i64) [],.val (.int .i64) []],[.val .bool [] []],λn c=>nJ n c.1 c.2.1⟩
theorem acz[Fr][aD.LaidTab prog][aD.LaidErr prog][aT.bG prog](n:Nat):bC prog n Rc:=bW mixed bS func122 (by kernel_rfl) (hi:=⟨0,[],[],[],[(97,some 9,oQ),(97,some 13,oQ),(145,some 17,Rb)],[],[],[],[]⟩) (aI (pW n) (aI (pW n) (aI (acy n) bU))) (by intro n c;kernel_rfl)
def Sv(n:Nat)(a0:Int)(a1:Int):Option (Int×Unit):=if decide (a0=3)=true then if decide (a1=253)=true then some (167,())else if decide (a0=3)=true then if decide (a1=240)=true then some (8470,())else if decide (a0=3)=true then if decide (a1>160)=true then if(!decide (a1=173))=true then(nJ n a0 (i64.wrap (a1+864))).bind λr1=>if(!r1.1)=true then some ((-1),())else some (i64.wrap (a1+864),())else(nJ n a0 a1).bind λr2=>if(!r2.1)=true then some ((-1),())else some (a1,())else(nJ n a0 a1).bind λr3=>if(!r3.1)=true then some ((-1),())else some (a1,())else(nJ n a0 a1).bind λr4=>if(!r4.1)=true then some ((-1),())else some (a1,())else if decide (a0=3)=true then if decide (a1>160)=true then if(!decide (a1=173))=true then(nJ n a0 (i64.wrap (a1+864))).bind λr5=>if(!r5.1)=true then some ((-1),())else some (i64.wrap (a1+864),())else(nJ n a0 a1).bind λr6=>if(!r6.1)=true then some ((-1),())else some (a1,())else(nJ n a0 a1).bind λr7=>if(!r7.1)=true then some ((-1),())else some (a1,())else(nJ n a0 a1).bind λr8=>if(!r8.1)=true then some ((-1),())else some (a1,())else if decide (a0=3)=true then if decide (a1=240)=true then some (8470,())else if decide (a0=3)=true then if decide (a1>160)=true then if(!decide (a1=173))=true then(nJ n a0 (i64.wrap (a1+864))).bind λr9=>if(!r9.1)=true then some ((-1),())else some (i64.wrap (a1+864),())else(nJ n a0 a1).bind λkH=>if(!kH.1)=true then some ((-1),())else some (a1,())else(nJ n a0 a1).bind λje=>if(!je.1)=true then some ((-1),())else some (a1,())else(nJ n a0 a1).bind λlI=>if(!lI.1)=true then some ((-1),())else some (a1,())else if decide (a0=3)=true then if decide (a1>160)=true then if(!decide (a1=173))=true then(nJ n a0 (i64.wrap (a1+864))).bind λoL=>if(!oL.1)=true then some ((-1),())else some (i64.wrap (a1+864),())else(nJ n a0 a1).bind λzO=>if(!zO.1)=true then some ((-1),())else some (a1,())else(nJ n a0 a1).bind λiQ=>if(!iQ.1)=true then some ((-1),())else some (a1,())else(nJ n a0 a1).bind λr16=>if(!r16.1)=true then some ((-1),())else some (a1,())
def Re:Entry:=⟨147,[.val (.int .i64) [],.val (.int .i64) []],[.val (.int .i64) [] []],λn c=>Sv n c.1 c.2.1⟩
theorem acA[Fr][aD.LaidTab prog][aD.LaidErr prog][aT.bG prog](n:Nat):bC prog n Re:=bW mixed bS func147 (by kernel_rfl) (hi:=⟨0,[],[],[],[(122,some 31,Rc)],[],[],[],[]⟩) (aI (acz n) bU) (by intro n c;kernel_rfl)
def CQ(n:Nat)(a0:Int)(a1:List Int)(a2:Int):Option ay:=if decide (a0=4)=true then(GH n a1 a2).bind λr1=>some (r1.1,r1.2.1,())else if decide (a0=5)=true then if decide ((i64.wrap (a2+1))>=(a1.length:Int))=true then some fI else if aX a2 a1.length then if aX (i64.wrap (a2+1)) a1.length then(wH n (i64.wrap ((i64.wrap ((i64.wrap (a1.getD a2.toNat 0))*256))+(i64.wrap (a1.getD (i64.wrap (a2+1)).toNat 0))))).bind λr2=>if(!r2.1)=true then some fI else some (i64.wrap ((i64.wrap ((i64.wrap (a1.getD a2.toNat 0))*256))+(i64.wrap (a1.getD (i64.wrap (a2+1)).toNat 0))),2,())else none else none else if aX a2 a1.length then(Sv n a0 (i64.wrap (a1.getD a2.toNat 0))).bind λr3=>if decide (r3.1<0)=true then some fI else some (r3.1,1,())else none
def Ri:Entry:=⟨126,[.val (.int .i64) [],.val (.sl 5 (.int .u8)) [],.val (.int .i64) []],[.val (.int .i64) [] [],.val (.int .i64) [] []],λn c=>CQ n c.1 c.2.1 c.2.2.1⟩
theorem acB[Fr][aD.LaidTab prog][aD.LaidErr prog][aT.bG prog](n:Nat):bC prog n Ri:=bW mixed bS func126 (by kernel_rfl) (hi:=⟨0,[],[],[],[(146,some 14,Ra),(125,some 38,F4),(147,some 47,Re)],[],[],[],[]⟩) (aI (acw n) (aI (Lb n) (aI (acA n) bU))) (by intro n c;kernel_rfl)
def wI(n:Nat)(a0:Int)(a1:List Int):Option ((List Int)×Bool×Unit):=rounds (λL1 (v1:Int×(List Int)×Dh)=>if decide (v1.2.2.1<(v1.2.1.length:Int))=true then(CQ n v1.1 v1.2.1 v1.2.2.1).bind λr2=>if decide (r2.2.1=0)=true then some (([]:List Int),false,())else if(v1.2.2.2.1.length+[r2.1].length)*8<=140737488355328 then L1 (v1.1,v1.2.1,i64.wrap (v1.2.2.1+r2.2.1),v1.2.2.2.1++[r2.1],())else none else some (v1.2.2.2.1,true,())) n (a0,a1,0,([]:List Int),())
def Rj:Entry:=⟨104,[.val (.int .i64) [],.val (.sl 5 (.int .u8)) []],[.own (.sl 2 (.int .i64)) [2] [] [],.val .bool [] []],λn c=>wI n c.1 c.2.1⟩
theorem acC[Fr][aD.LaidTab prog][aD.LaidErr prog][aT.bG prog](n:Nat):bC prog n Rj:=bW mixed bS func104 (by kernel_rfl) (hi:=⟨0,[],[(0,[0,1,6,7],[322])],[],[(126,some 19,Ri)],[],[],[],[]⟩) (aI (acB n) bU) (by intro n c;kernel_rfl)
def yl(n:Nat)(a0:List Int):Option (Int×Unit):=if decide (a0=[42])=true then some (0,())else(yt n a0).bind λr1=>(mD n r1.1 1 999).bind λr2=>if(!r2.1)=true then some ((-1),())else some (r1.1,())
def KC:Entry:=⟨127,[.val .str []],[.val (.int .i64) [] []],λn c=>yl n c.1⟩
theorem SB[Fr][aD.LaidTab prog][aD.LaidErr prog][aT.bG prog](n:Nat):bC prog n KC:=bW mixed bS func127 (by kernel_rfl) (hi:=⟨0,[],[],[],[(103,some 7,KQ),(97,some 9,oQ)],[],[],[],[]⟩) (aI (SX n) (aI (pW n) bU)) (by intro n c;kernel_rfl)
def uX(n:Nat)(a0:List Int):Option ((List ay)×Bool×Unit):=(yj n a0 44).bind λr1=>rounds (λL2 (v2:Int×(List ay)×(List (List Int))×Unit)=>if decide (v2.1<(v2.2.2.1.length:Int))=true then if aX v2.1 v2.2.2.1.length then(yj n (v2.2.2.1.getD v2.1.toNat ([]:List Int)) 58).bind λr3=>if aX 0 r3.1.length then(yl n (r3.1.getD (0:Int).toNat ([]:List Int))).bind λr4=>if aX (i64.wrap ((r3.1.length:Int)-1)) r3.1.length then(yl n (r3.1.getD (i64.wrap ((r3.1.length:Int)-1)).toNat ([]:List Int))).bind λr5=>if decide ((r3.1.length:Int)>2)=true then some (([]:List ay),false,())else if decide (r4.1<0)=true then some (([]:List ay),false,())else if decide (r5.1<0)=true then some (([]:List ay),false,())else if decide ((r3.1.length:Int)=2)=true then if decide (r4.1=r5.1)=true then some (([]:List ay),false,())else if(v2.2.1.length+[(r4.1,r5.1,())].length)*16<=140737488355328 then L2 (i64.wrap (v2.1+1),v2.2.1++[(r4.1,r5.1,())],v2.2.2.1,())else none else if(v2.2.1.length+[(r4.1,r5.1,())].length)*16<=140737488355328 then L2 (i64.wrap (v2.1+1),v2.2.1++[(r4.1,r5.1,())],v2.2.2.1,())else none else none else none else none else some (v2.2.1,decide ((v2.2.1.length:Int)<=8),())) n (0,([]:List ay),r1.1,())
def Rl:Entry:=⟨105,[.val .str []],[.own (.sl 96 lS) [96] [] [],.val .bool [] []],λn c=>uX n c.1⟩
theorem acD[Fr][aD.LaidTab prog][aD.LaidErr prog][aT.bG prog](n:Nat):bC prog n Rl:=bW mixed bS func105 (by kernel_rfl) (hi:=⟨0,[],[(0,[4,5,6],[290,354])],[],[(18,some 11,F3),(18,some 22,F3),(127,some 26,KC),(127,some 33,KC)],[],[],[],[]⟩) (aI (La n) (aI (La n) (aI (SB n) (aI (SB n) bU)))) (by intro n c;kernel_rfl)
def su(n:Nat)(a0:sK)(a1:bn):Option (sK×bn×Unit):=if decide (a1.1=2)=true then(j6 n a0).bind λr1=>(Gx n r1.1).bind λr2=>some (r1.2.1,(a1.1,r2.1.2.1,a1.2.2),())else if decide (a1.1=3)=true then if decide (a1.1=3)=true then(j6 n a0).bind λr3=>(yt n r3.1).bind λr4=>some (r3.2.1,(a1.1,r4.1,a1.2.2),())else if decide (a1.1=6)=true then if decide (a1.1=6)=true then(j6 n a0).bind λr5=>(wI n 4 r5.1).bind λr6=>if r5.2.1.2.2.2.1=true then some ((r5.2.1.1,r5.2.1.2.1,r5.2.1.2.2.1,true,r5.2.1.2.2.2.2),(a1.1,a1.2.1,r6.1,a1.2.2.2),())else some ((r5.2.1.1,r5.2.1.2.1,r5.2.1.2.2.1,!r6.2.1,r5.2.1.2.2.2.2),(a1.1,a1.2.1,r6.1,a1.2.2.2),())else if decide (a1.1=8)=true then(j6 n a0).bind λr7=>(uX n r7.1).bind λr8=>if r7.2.1.2.2.2.1=true then some ((r7.2.1.1,r7.2.1.2.1,r7.2.1.2.2.1,true,r7.2.1.2.2.2.2),(a1.1,a1.2.1,a1.2.2.1,r8.1,a1.2.2.2.2),())else some ((r7.2.1.1,r7.2.1.2.1,r7.2.1.2.2.1,!r8.2.1,r7.2.1.2.2.2.2),(a1.1,a1.2.1,a1.2.2.1,r8.1,a1.2.2.2.2),())else some (a0,a1,())else if decide (a1.1=7)=true then(j6 n a0).bind λr9=>(wI n 4 r9.1).bind λkH=>if r9.2.1.2.2.2.1=true then some ((r9.2.1.1,r9.2.1.2.1,r9.2.1.2.2.1,true,r9.2.1.2.2.2.2),(a1.1,a1.2.1,kH.1,a1.2.2.2),())else some ((r9.2.1.1,r9.2.1.2.1,r9.2.1.2.2.1,!kH.2.1,r9.2.1.2.2.2.2),(a1.1,a1.2.1,kH.1,a1.2.2.2),())else if decide (a1.1=8)=true then(j6 n a0).bind λje=>(uX n je.1).bind λlI=>if je.2.1.2.2.2.1=true then some ((je.2.1.1,je.2.1.2.1,je.2.1.2.2.1,true,je.2.1.2.2.2.2),(a1.1,a1.2.1,a1.2.2.1,lI.1,a1.2.2.2.2),())else some ((je.2.1.1,je.2.1.2.1,je.2.1.2.2.1,!lI.2.1,je.2.1.2.2.2.2),(a1.1,a1.2.1,a1.2.2.1,lI.1,a1.2.2.2.2),())else some (a0,a1,())else if decide (a1.1=4)=true then if decide (a1.1=4)=true then(j6 n a0).bind λoL=>(yt n oL.1).bind λzO=>some (oL.2.1,(a1.1,zO.1,a1.2.2),())else if decide (a1.1=6)=true then if decide (a1.1=6)=true then(j6 n a0).bind λiQ=>(wI n 4 iQ.1).bind λr16=>if iQ.2.1.2.2.2.1=true then some ((iQ.2.1.1,iQ.2.1.2.1,iQ.2.1.2.2.1,true,iQ.2.1.2.2.2.2),(a1.1,a1.2.1,r16.1,a1.2.2.2),())else some ((iQ.2.1.1,iQ.2.1.2.1,iQ.2.1.2.2.1,!r16.2.1,iQ.2.1.2.2.2.2),(a1.1,a1.2.1,r16.1,a1.2.2.2),())else if decide (a1.1=8)=true then(j6 n a0).bind λrQ=>(uX n rQ.1).bind λFy=>if rQ.2.1.2.2.2.1=true then some ((rQ.2.1.1,rQ.2.1.2.1,rQ.2.1.2.2.1,true,rQ.2.1.2.2.2.2),(a1.1,a1.2.1,a1.2.2.1,Fy.1,a1.2.2.2.2),())else some ((rQ.2.1.1,rQ.2.1.2.1,rQ.2.1.2.2.1,!Fy.2.1,rQ.2.1.2.2.2.2),(a1.1,a1.2.1,a1.2.2.1,Fy.1,a1.2.2.2.2),())else some (a0,a1,())else if decide (a1.1=7)=true then(j6 n a0).bind λrR=>(wI n 4 rR.1).bind λlJ=>if rR.2.1.2.2.2.1=true then some ((rR.2.1.1,rR.2.1.2.1,rR.2.1.2.2.1,true,rR.2.1.2.2.2.2),(a1.1,a1.2.1,lJ.1,a1.2.2.2),())else some ((rR.2.1.1,rR.2.1.2.1,rR.2.1.2.2.1,!lJ.2.1,rR.2.1.2.2.2.2),(a1.1,a1.2.1,lJ.1,a1.2.2.2),())else if decide (a1.1=8)=true then(j6 n a0).bind λlK=>(uX n lK.1).bind λFz=>if lK.2.1.2.2.2.1=true then some ((lK.2.1.1,lK.2.1.2.1,lK.2.1.2.2.1,true,lK.2.1.2.2.2.2),(a1.1,a1.2.1,a1.2.2.1,Fz.1,a1.2.2.2.2),())else some ((lK.2.1.1,lK.2.1.2.1,lK.2.1.2.2.1,!Fz.2.1,lK.2.1.2.2.2.2),(a1.1,a1.2.1,a1.2.2.1,Fz.1,a1.2.2.2.2),())else some (a0,a1,())else if decide (a1.1=5)=true then(j6 n a0).bind λJ2=>(yt n J2.1).bind λQh=>some (J2.2.1,(a1.1,Qh.1,a1.2.2),())else if decide (a1.1=6)=true then if decide (a1.1=6)=true then(j6 n a0).bind λjw=>(wI n 4 jw.1).bind λFB=>if jw.2.1.2.2.2.1=true then some ((jw.2.1.1,jw.2.1.2.1,jw.2.1.2.2.1,true,jw.2.1.2.2.2.2),(a1.1,a1.2.1,FB.1,a1.2.2.2),())else some ((jw.2.1.1,jw.2.1.2.1,jw.2.1.2.2.1,!FB.2.1,jw.2.1.2.2.2.2),(a1.1,a1.2.1,FB.1,a1.2.2.2),())else if decide (a1.1=8)=true then(j6 n a0).bind λrU=>(uX n rU.1).bind λtV=>if rU.2.1.2.2.2.1=true then some ((rU.2.1.1,rU.2.1.2.1,rU.2.1.2.2.1,true,rU.2.1.2.2.2.2),(a1.1,a1.2.1,a1.2.2.1,tV.1,a1.2.2.2.2),())else some ((rU.2.1.1,rU.2.1.2.1,rU.2.1.2.2.1,!tV.2.1,rU.2.1.2.2.2.2),(a1.1,a1.2.1,a1.2.2.1,tV.1,a1.2.2.2.2),())else some (a0,a1,())else if decide (a1.1=7)=true then(j6 n a0).bind λjy=>(wI n 4 jy.1).bind λFC=>if jy.2.1.2.2.2.1=true then some ((jy.2.1.1,jy.2.1.2.1,jy.2.1.2.2.1,true,jy.2.1.2.2.2.2),(a1.1,a1.2.1,FC.1,a1.2.2.2),())else some ((jy.2.1.1,jy.2.1.2.1,jy.2.1.2.2.1,!FC.2.1,jy.2.1.2.2.2.2),(a1.1,a1.2.1,FC.1,a1.2.2.2),())else if decide (a1.1=8)=true then(j6 n a0).bind λrV=>(uX n rV.1).bind λr32=>if rV.2.1.2.2.2.1=true then some ((rV.2.1.1,rV.2.1.2.1,rV.2.1.2.2.1,true,rV.2.1.2.2.2.2),(a1.1,a1.2.1,a1.2.2.1,r32.1,a1.2.2.2.2),())else some ((rV.2.1.1,rV.2.1.2.1,rV.2.1.2.2.1,!r32.2.1,rV.2.1.2.2.2.2),(a1.1,a1.2.1,a1.2.2.1,r32.1,a1.2.2.2.2),())else some (a0,a1,())
def Ro:Entry:=⟨77,[.rw Df [2,51,96] [4294967295] [],.rw jP [2,96] [4294967295] [2,96]],[],λn c=>su n c.1 c.2.1⟩
theorem acF[Fr][aD.LaidTab prog][aD.LaidErr prog][aT.bG prog](n:Nat):bC prog n Ro:=bW mixed bS func77 (by kernel_rfl) (hi:=⟨0,[],[],[],[(75,some 16,zX),(102,some 17,R9),(75,some 27,zX),(103,some 28,KQ),(75,some 36,zX),(104,some 38,Rj),(75,some 60,zX),(105,some 61,Rl)],[],[],[],[]⟩) (aI (CV n) (aI (K_7 n) (aI (CV n) (aI (SX n) (aI (CV n) (aI (acC n) (aI (CV n) (aI (acD n) bU)))))))) (by intro n c;kernel_rfl)
def wG:Nat->sK->Int->Option (Int×sK×Unit)
 |0,_,_=>none
 |n+1,a0,a1=>((j6 n a0).bind λr1=>((GD n r1.1).bind λr2=>(if decide (r2.1=0)=true then some (0,(r1.2.1.1,r1.2.1.2.1,r1.2.1.2.2.1,true,r1.2.1.2.2.2.2),())else(if decide (a1>12)=true then some (0,(r1.2.1.1,r1.2.1.2.1,r1.2.1.2.2.1,true,r1.2.1.2.2.2.2),())else(if decide ((r1.2.1.2.2.1.length:Int)>12)=true then some (0,(r1.2.1.1,r1.2.1.2.1,r1.2.1.2.2.1,true,r1.2.1.2.2.2.2),())else(if r1.2.1.2.2.2.1=true then some (0,r1.2.1,())else(if decide (r2.1>=9)=true then((wG n r1.2.1 (i64.wrap (a1+1))).bind λr3=>((pR n r2.1).bind λr4=>(if r4.1=true then(if(!r3.2.1.2.2.2.1)=true then((wG n r3.2.1 (i64.wrap (a1+1))).bind λr5=>((su n r5.2.1 (r2.1,0,([]:List Int),([]:List ay),r3.1,r5.1,())).bind λr6=>(if(r6.1.2.2.1.length+[r6.2.1].length)*80<=140737488355328 then some (i64.wrap (((r6.1.2.2.1++[r6.2.1]).length:Int)-1),(r6.1.1,r6.1.2.1,r6.1.2.2.1++[r6.2.1],r6.1.2.2.2),())else none)))else((su n r3.2.1 (r2.1,0,([]:List Int),([]:List ay),r3.1,0,())).bind λr7=>(if(r7.1.2.2.1.length+[r7.2.1].length)*80<=140737488355328 then some (i64.wrap (((r7.1.2.2.1++[r7.2.1]).length:Int)-1),(r7.1.1,r7.1.2.1,r7.1.2.2.1++[r7.2.1],r7.1.2.2.2),())else none)))else((su n r3.2.1 (r2.1,0,([]:List Int),([]:List ay),r3.1,0,())).bind λr8=>(if(r8.1.2.2.1.length+[r8.2.1].length)*80<=140737488355328 then some (i64.wrap (((r8.1.2.2.1++[r8.2.1]).length:Int)-1),(r8.1.1,r8.1.2.1,r8.1.2.2.1++[r8.2.1],r8.1.2.2.2),())else none)))))else((pR n r2.1).bind λr9=>(if r9.1=true then(if(!r1.2.1.2.2.2.1)=true then((wG n r1.2.1 (i64.wrap (a1+1))).bind λkH=>((su n kH.2.1 (r2.1,0,([]:List Int),([]:List ay),0,kH.1,())).bind λje=>(if(je.1.2.2.1.length+[je.2.1].length)*80<=140737488355328 then some (i64.wrap (((je.1.2.2.1++[je.2.1]).length:Int)-1),(je.1.1,je.1.2.1,je.1.2.2.1++[je.2.1],je.1.2.2.2),())else none)))else((su n r1.2.1 (r2.1,0,([]:List Int),([]:List ay),0,0,())).bind λlI=>(if(lI.1.2.2.1.length+[lI.2.1].length)*80<=140737488355328 then some (i64.wrap (((lI.1.2.2.1++[lI.2.1]).length:Int)-1),(lI.1.1,lI.1.2.1,lI.1.2.2.1++[lI.2.1],lI.1.2.2.2),())else none)))else((su n r1.2.1 (r2.1,0,([]:List Int),([]:List ay),0,0,())).bind λoL=>(if(oL.1.2.2.1.length+[oL.2.1].length)*80<=140737488355328 then some (i64.wrap (((oL.1.2.2.1++[oL.2.1]).length:Int)-1),(oL.1.1,oL.1.2.1,oL.1.2.2.1++[oL.2.1],oL.1.2.2.2),())else none)))))))))))
def JV:List aH:=[.rw Df [2,51,96] [2,51,96,4294967295] [2,9,51,96],.val (.int .i64) []]
def Z7:List eF:=[.val (.int .i64) [] []]
def zY:Entry:=⟨40,JV,Z7,λn (c:Cont (kin JV))=>wG n c.1 c.2.1⟩
def Sw:Hint:=⟨0,[61,62],[],[],[(75,some 7,zX),(74,some 8,Rz),(40,some 38,zY),(76,some 42,F5),(40,some 53,zY),(77,some 56,Ro)],[],[],[],[]⟩
theorem aa1:∀n (c:Cont (kin JV)),vK T Sw Tryz.f40 JV Z7 n c=zY.F (n+1) c:=by intro n c;kernel_rfl
theorem Lc[Fr][aD.LaidTab prog][aD.LaidErr prog][aT.bG prog]:∀(n:Nat),bC prog n zY
 |0=>Kt λc=>rfl
 |n+1=>J5 mixed bS (E:=zY) func40 (by kernel_rfl) (hi:=Sw) (aI (CV n) (aI (K_3 n) (aI (Lc n) (aI (Ld n) (aI (Lc n) (aI (acF n) bU)))))) (aa1 n)
def CP(n:Nat)(a0:Int):Option (Bool×Unit):=if decide (a0=6)=true then some (true,())else some (decide (a0=7),())
def Rp:Entry:=⟨98,[.val (.int .i64) []],[.val .bool [] []],λn c=>CP n c.1⟩
theorem acG[Fr][aD.LaidTab prog][aD.LaidErr prog][aT.bG prog](n:Nat):bC prog n Rp:=bW mixed bS func98 (by kernel_rfl) (hi:=H_1) bU (by intro n c;kernel_rfl)
def Gz(n:Nat)(a0:bn):Option (Bool×Unit):=(mD n a0.1 1 11).bind λr1=>if(!r1.1)=true then some (false,())else(mD n a0.1 2 5).bind λr2=>if(!r2.1)=true then if(!decide (a0.2.1=0))=true then some (false,())else(CP n a0.1).bind λr3=>if(!r3.1)=true then if decide ((a0.2.2.1.length:Int)>0)=true then some (false,())else if(!decide (a0.1=8))=true then if decide ((a0.2.2.2.1.length:Int)>0)=true then some (false,())else(pR n a0.1).bind λr4=>if r4.1=true then if decide (a0.1>=9)=true then some (true,())else some (decide (a0.2.2.2.2.1=0),())else if decide (a0.2.2.2.2.2.1=0)=true then if decide (a0.1>=9)=true then some (true,())else some (decide (a0.2.2.2.2.1=0),())else some (false,())else(pR n a0.1).bind λr5=>if r5.1=true then if decide (a0.1>=9)=true then some (true,())else some (decide (a0.2.2.2.2.1=0),())else if decide (a0.2.2.2.2.2.1=0)=true then if decide (a0.1>=9)=true then some (true,())else some (decide (a0.2.2.2.2.1=0),())else some (false,())else if(!decide (a0.1=8))=true then if decide ((a0.2.2.2.1.length:Int)>0)=true then some (false,())else(pR n a0.1).bind λr6=>if r6.1=true then if decide (a0.1>=9)=true then some (true,())else some (decide (a0.2.2.2.2.1=0),())else if decide (a0.2.2.2.2.2.1=0)=true then if decide (a0.1>=9)=true then some (true,())else some (decide (a0.2.2.2.2.1=0),())else some (false,())else(pR n a0.1).bind λr7=>if r7.1=true then if decide (a0.1>=9)=true then some (true,())else some (decide (a0.2.2.2.2.1=0),())else if decide (a0.2.2.2.2.2.1=0)=true then if decide (a0.1>=9)=true then some (true,())else some (decide (a0.2.2.2.2.1=0),())else some (false,())else(CP n a0.1).bind λr8=>if(!r8.1)=true then if decide ((a0.2.2.1.length:Int)>0)=true then some (false,())else if(!decide (a0.1=8))=true then if decide ((a0.2.2.2.1.length:Int)>0)=true then some (false,())else(pR n a0.1).bind λr9=>if r9.1=true then if decide (a0.1>=9)=true then some (true,())else some (decide (a0.2.2.2.2.1=0),())else if decide (a0.2.2.2.2.2.1=0)=true then if decide (a0.1>=9)=true then some (true,())else some (decide (a0.2.2.2.2.1=0),())else some (false,())else(pR n a0.1).bind λkH=>if kH.1=true then if decide (a0.1>=9)=true then some (true,())else some (decide (a0.2.2.2.2.1=0),())else if decide (a0.2.2.2.2.2.1=0)=true then if decide (a0.1>=9)=true then some (true,())else some (decide (a0.2.2.2.2.1=0),())else some (false,())else if(!decide (a0.1=8))=true then if decide ((a0.2.2.2.1.length:Int)>0)=true then some (false,())else(pR n a0.1).bind λje=>if je.1=true then if decide (a0.1>=9)=true then some (true,())else some (decide (a0.2.2.2.2.1=0),())else if decide (a0.2.2.2.2.2.1=0)=true then if decide (a0.1>=9)=true then some (true,())else some (decide (a0.2.2.2.2.1=0),())else some (false,())else(pR n a0.1).bind λlI=>if lI.1=true then if decide (a0.1>=9)=true then some (true,())else some (decide (a0.2.2.2.2.1=0),())else if decide (a0.2.2.2.2.2.1=0)=true then if decide (a0.1>=9)=true then some (true,())else some (decide (a0.2.2.2.2.1=0),())else some (false,())
def Rq:Entry:=⟨62,[.ro jP],[.val .bool [] []],λn c=>Gz n c.1⟩
theorem acH[Fr][aD.LaidTab prog][aD.LaidErr prog][aT.bG prog](n:Nat):bC prog n Rq:=bW mixed bS func62 (by kernel_rfl) (hi:=⟨0,[],[],[],[(97,some 7,oQ),(97,some 14,oQ),(98,some 28,Rp),(76,some 57,F5)],[],[],[],[]⟩) (aI (pW n) (aI (pW n) (aI (acG n) (aI (Ld n) bU)))) (by intro n c;kernel_rfl)
def yu(n:Nat)(a0:List Int):Option (Bool×Unit):=rounds (λL1 (v1:Hr)=>if decide (v1.2.1<(v1.1.length:Int))=true then if aX v1.2.1 v1.1.length then(wH n (v1.1.getD v1.2.1.toNat 0)).bind λr2=>if(!r2.1)=true then some (false,())else if aX v1.2.1 v1.1.length then if decide ((v1.1.getD v1.2.1.toNat 0)<33)=true then some (false,())else if aX v1.2.1 v1.1.length then if decide ((v1.1.getD v1.2.1.toNat 0)=127)=true then some (false,())else L1 (v1.1,i64.wrap (v1.2.1+1),())else none else none else none else(mD n (v1.1.length:Int) 1 20).bind λr3=>some (r3.1,())) n (a0,0,())
def Rs:Entry:=⟨99,[.val (.sl 2 (.int .i64)) []],[.val .bool [] []],λn c=>yu n c.1⟩
theorem acI[Fr][aD.LaidTab prog][aD.LaidErr prog][aT.bG prog](n:Nat):bC prog n Rs:=bW mixed bS func99 (by kernel_rfl) (hi:=⟨0,[],[(0,[0,3],[])],[],[(125,some 14,F4),(97,some 32,oQ)],[],[],[],[]⟩) (aI (Lb n) (aI (pW n) bU)) (by intro n c;kernel_rfl)
def ym(n:Nat)(a0:List ay):Option (Int×Unit):=if decide ((a0.length:Int)<1)=true then some (2,())else if decide ((a0.length:Int)>8)=true then some (2,())else rounds (λL1 (v1:(List ay)×Int×Unit)=>if decide (v1.2.1<(v1.1.length:Int))=true then if aX v1.2.1 v1.1.length then(mD n ((v1.1.getD v1.2.1.toNat fI).1) 0 999).bind λr2=>if(!r2.1)=true then some (3,())else if aX v1.2.1 v1.1.length then(mD n (((v1.1.getD v1.2.1.toNat fI).2).1) 0 999).bind λr3=>if(!r3.1)=true then some (3,())else L1 (v1.1,i64.wrap (v1.2.1+1),())else none else none else some (0,())) n (a0,0,())
def Rt:Entry:=⟨100,[.val (.sl 96 lS) []],[.val (.int .i64) [] []],λn c=>ym n c.1⟩
theorem acJ[Fr][aD.LaidTab prog][aD.LaidErr prog][aT.bG prog](n:Nat):bC prog n Rt:=bW mixed bS func100 (by kernel_rfl) (hi:=⟨0,[],[(0,[0,3],[])],[],[(97,some 23,oQ),(97,some 31,oQ)],[],[],[],[]⟩) (aI (pW n) (aI (pW n) bU)) (by intro n c;kernel_rfl)
def GG(n:Nat)(a0:bn):Option (Int×Unit):=if decide (a0.1=2)=true then if decide (a0.2.1=1)=true then some (0,())else if decide (a0.2.1=2)=true then some (0,())else if decide (a0.2.1=4)=true then some (0,())else if(!(decide (a0.2.1=8)))=true then some (3,())else some (0,())else if decide (a0.1=3)=true then if decide (a0.1=3)=true then(mD n a0.2.1 0 9999).bind λr1=>if(!r1.1)=true then some (3,())else some (0,())else if decide (a0.1=5)=true then(mD n a0.2.1 0 400).bind λr2=>if(!r2.1)=true then some (3,())else some (0,())else if decide (a0.1=6)=true then if decide (a0.1=6)=true then(yu n a0.2.2.1).bind λr3=>if(!r3.1)=true then some (3,())else some (0,())else if decide (a0.1=8)=true then(ym n a0.2.2.2.1).bind λr4=>some (r4.1,())else some (0,())else if decide (a0.1=7)=true then(yu n a0.2.2.1).bind λr5=>if(!r5.1)=true then some (3,())else some (0,())else if decide (a0.1=8)=true then(ym n a0.2.2.2.1).bind λr6=>some (r6.1,())else some (0,())else if decide (a0.1=4)=true then(mD n a0.2.1 0 9999).bind λr7=>if(!r7.1)=true then some (3,())else some (0,())else if decide (a0.1=5)=true then(mD n a0.2.1 0 400).bind λr8=>if(!r8.1)=true then some (3,())else some (0,())else if decide (a0.1=6)=true then if decide (a0.1=6)=true then(yu n a0.2.2.1).bind λr9=>if(!r9.1)=true then some (3,())else some (0,())else if decide (a0.1=8)=true then(ym n a0.2.2.2.1).bind λkH=>some (kH.1,())else some (0,())else if decide (a0.1=7)=true then(yu n a0.2.2.1).bind λje=>if(!je.1)=true then some (3,())else some (0,())else if decide (a0.1=8)=true then(ym n a0.2.2.2.1).bind λlI=>some (lI.1,())else some (0,())
def Ru:Entry:=⟨63,[.ro jP],[.val (.int .i64) [] []],λn c=>GG n c.1⟩
theorem acK[Fr][aD.LaidTab prog][aD.LaidErr prog][aT.bG prog](n:Nat):bC prog n Ru:=bW mixed bS func63 (by kernel_rfl) (hi:=⟨0,[],[],[],[(97,some 43,oQ),(97,some 50,oQ),(99,some 58,Rs),(100,some 65,Rt)],[],[],[],[]⟩) (aI (pW n) (aI (pW n) (aI (acI n) (aI (acJ n) bU)))) (by intro n c;kernel_rfl)
def yx:Nat->(List bn)->Int->Option (Int×Unit)
 |0,_,_=>none
 |n+1,a0,a1=>(if aX a1 a0.length then(if decide (((a0.getD a1.toNat aJ).1)>=9)=true then(if aX a1 a0.length then((yx n a0 ((((((a0.getD a1.toNat aJ).2).2).2).2).1)).bind λr1=>some (r1.1,()))else none)else some (a1,()))else none)
def JW:List aH:=[.val (.sl 51 jP) [],.val (.int .i64) []]
def Z8:List eF:=[.val (.int .i64) [] []]
def x_:Entry:=⟨65,JW,Z8,λn (c:Cont (kin JW))=>yx n c.1 c.2.1⟩
def Sy:Hint:=⟨0,[],[],[],[(65,some 17,x_)],[],[],[],[]⟩
theorem aa2:∀n (c:Cont (kin JW)),vK T Sy Tryz.f65 JW Z8 n c=x_.F (n+1) c:=by intro n c;kernel_rfl
theorem GJ[Fr][aD.LaidTab prog][aD.LaidErr prog][aT.bG prog]:∀(n:Nat),bC prog n x_
 |0=>Kt λc=>rfl
 |n+1=>J5 mixed bS (E:=x_) func65 (by kernel_rfl) (hi:=Sy) (aI (GJ n) bU) (aa2 n)
def Gy(n:Nat)(a0:List bn)(a1:Int):Option (Bool×Unit):=if aX a1 a0.length then if decide (((a0.getD a1.toNat aJ).1)=9)=true then if decide (a1>0)=true then some (decide (((((((a0.getD a1.toNat aJ).2).2).2).2).1)=(i64.wrap (a1-1))),())else some (false,())else(pR n ((a0.getD a1.toNat aJ).1)).bind λr1=>if(!r1.1)=true then some (true,())else if decide (a1>1)=true then if decide ((((((((a0.getD a1.toNat aJ).2).2).2).2).2).1)=(i64.wrap (a1-1)))=true then(yx n a0 (i64.wrap (a1-1))).bind λr2=>if decide (r2.1>0)=true then(yx n a0 (i64.wrap (a1-1))).bind λr3=>some (decide (((((((a0.getD a1.toNat aJ).2).2).2).2).1)=(i64.wrap (r3.1-1))),())else some (false,())else some (false,())else some (false,())else none
def Rv:Entry:=⟨64,[.val (.sl 51 jP) [],.val (.int .i64) []],[.val .bool [] []],λn c=>Gy n c.1 c.2.1⟩
theorem acL[Fr][aD.LaidTab prog][aD.LaidErr prog][aT.bG prog](n:Nat):bC prog n Rv:=bW mixed bS func64 (by kernel_rfl) (hi:=⟨0,[],[],[],[(76,some 29,F5),(65,some 46,x_),(65,some 57,x_)],[],[],[],[]⟩) (aI (Ld n) (aI (GJ n) (aI (GJ n) bU))) (by intro n c;kernel_rfl)
def yw(n:Nat)(a0:List bn):Option (Int×Unit):=if decide ((a0.length:Int)<1)=true then some (2,())else if decide ((a0.length:Int)>12)=true then some (2,())else rounds (λL1 (v1:(List bn)×Int×Unit)=>if decide (v1.2.1<(v1.1.length:Int))=true then if aX v1.2.1 v1.1.length then(Gz n (v1.1.getD v1.2.1.toNat aJ)).bind λr2=>if(!r2.1)=true then some (1,())else if aX v1.2.1 v1.1.length then(GG n (v1.1.getD v1.2.1.toNat aJ)).bind λr3=>if(!decide (r3.1=0))=true then some (r3.1,())else(Gy n v1.1 v1.2.1).bind λr4=>if(!r4.1)=true then some (1,())else L1 (v1.1,i64.wrap (v1.2.1+1),())else none else none else(yx n v1.1 (i64.wrap ((v1.1.length:Int)-1))).bind λr5=>if(!decide (r5.1=0))=true then some (1,())else some (0,())) n (a0,0,())
def Ry:Entry:=⟨32,[.val (.sl 51 jP) []],[.val (.int .i64) [] []],λn c=>yw n c.1⟩
theorem acM[Fr][aD.LaidTab prog][aD.LaidErr prog][aT.bG prog](n:Nat):bC prog n Ry:=bW mixed bS func32 (by kernel_rfl) (hi:=⟨0,[],[(0,[0,3],[])],[],[(62,some 22,Rq),(63,some 27,Ru),(64,some 33,Rv),(65,some 39,x_)],[],[],[],[]⟩) (aI (acH n) (aI (acK n) (aI (acL n) (aI (GJ n) bU)))) (by intro n c;kernel_rfl)
def K4(n:Nat)(a0:List (List Int)):Option ((List bn)×Bool×Unit):=(wG n (a0,0,([]:List bn),false,()) 0).bind λr1=>if r1.2.1.2.2.2.1=true then some (([]:List bn),false,())else if(!decide (r1.2.1.2.1=(a0.length:Int)))=true then some (([]:List bn),false,())else(yw n r1.2.1.2.2.1).bind λr2=>if(!decide (r2.1=0))=true then some (([]:List bn),false,())else some (r1.2.1.2.2.1,true,())
def RA:Entry:=⟨17,[.val (.sl 9 .str) []],[.own (.sl 51 jP) [2,51,96] [] [],.val .bool [] []],λn c=>K4 n c.1⟩
theorem acO[Fr][aD.LaidTab prog][aD.LaidErr prog][aT.bG prog](n:Nat):bC prog n RA:=bW mixed bS func17 (by kernel_rfl) (hi:=⟨0,[24],[],[],[(40,some 7,zY),(32,some 20,Ry)],[],[],[],[]⟩) (aI (Lc n) (aI (acM n) bU)) (by intro n c;kernel_rfl)
def Ad(n:Nat)(a0:List Int):Option (uz×Unit):=(yj n a0 32).bind λr1=>(K4 n r1.1).bind λr2=>if(!r2.2.1)=true then some ((5,([]:List bn),()),())else some ((0,r2.1,()),())
def RB:Entry:=⟨5,[.val .str []],[.own wV [2,51,96] [] []],λn c=>Ad n c.1⟩
theorem acP[Fr][aD.LaidTab prog][aD.LaidErr prog][aT.bG prog](n:Nat):bC prog n RB:=bW mixed bS func5 (by kernel_rfl) (hi:=⟨0,[],[],[],[(18,some 7,F3),(17,some 8,RA)],[],[],[],[]⟩) (aI (La n) (aI (acO n) bU)) (by intro n c;kernel_rfl)
def amj:Go.Shelf.Ren:=⟨fun|147=>19|221=>41|268=>78|138=>79|143=>80|195=>106|197=>107|218=>108|219=>109|260=>128|217=>129|225=>130|224=>131|267=>132|266=>148|314=>149|n=>n,fun|9=>9|3=>3|31=>40|4=>4|0=>0|105=>122|21=>21|5=>5|46=>136|119=>156|139=>159|138=>158|146=>161|51=>160|n=>n,fun|1=>0|3=>1|4=>2|n=>n⟩
theorem ami:Go.Proofs.Lays.n147 prog amj:={
 mixed:=by kernel_rfl
 f138:=func79.trans (congrArg some (by kernel_rfl))
 f143:=func80.trans (congrArg some (by kernel_rfl))
 f147:=func19.trans (congrArg some (by kernel_rfl))
 f195:=func106.trans (congrArg some (by kernel_rfl))
 f197:=func107.trans (congrArg some (by kernel_rfl))
 f217:=func129.trans (congrArg some (by kernel_rfl))
 f218:=func108.trans (congrArg some (by kernel_rfl))
 f219:=func109.trans (congrArg some (by kernel_rfl))
 f221:=func41.trans (congrArg some (by kernel_rfl))
 f224:=func131.trans (congrArg some (by kernel_rfl))
 f225:=func130.trans (congrArg some (by kernel_rfl))
 f260:=func128.trans (congrArg some (by kernel_rfl))
 f266:=func148.trans (congrArg some (by kernel_rfl))
 f267:=func132.trans (congrArg some (by kernel_rfl))
 f268:=func78.trans (congrArg some (by kernel_rfl))
 f314:=func149.trans (congrArg some (by kernel_rfl))
 t0:=Tryz.underlying0
 a0:=Tryz.isAgg0
 z0:=Tryz.sizeOf0
 v0:=Tryz.zeroValue0
 t3:=Tryz.underlying3
 a3:=Tryz.isAgg3
 z3:=Tryz.sizeOf3
 v3:=Tryz.zeroValue3
 t4:=Tryz.underlying4
 a4:=Tryz.isAgg4
 z4:=Tryz.sizeOf4
 v4:=Tryz.zeroValue4
 t5:=Tryz.underlying5
 a5:=Tryz.isAgg5
 z5:=Tryz.sizeOf5
 v5:=Tryz.zeroValue5
 t9:=Tryz.underlying9
 a9:=Tryz.isAgg9
 z9:=Tryz.sizeOf9
 v9:=Tryz.zeroValue9
 t21:=Tryz.underlying21
 a21:=Tryz.isAgg21
 z21:=Tryz.sizeOf21
 v21:=Tryz.zeroValue21
 t31:=Tryz.underlying40
 a31:=Tryz.isAgg40
 z31:=Tryz.sizeOf40
 v31:=Tryz.zeroValue40
 t46:=Tryz.underlying136
 a46:=Tryz.isAgg136
 z46:=Tryz.sizeOf136
 v46:=Tryz.zeroValue136
 t51:=Tryz.underlying160
 a51:=Tryz.isAgg160
 z51:=Tryz.sizeOf160
 v51:=Tryz.zeroValue160
 t105:=Tryz.underlying122
 a105:=Tryz.isAgg122
 z105:=Tryz.sizeOf122
 v105:=Tryz.zeroValue122
 t119:=Tryz.underlying156
 a119:=Tryz.isAgg156
 z119:=Tryz.sizeOf156
 t138:=Tryz.underlying158
 a138:=Tryz.isAgg158
 z138:=Tryz.sizeOf158
 v138:=Tryz.zeroValue158
 t139:=Tryz.underlying159
 a139:=Tryz.isAgg159
 z139:=Tryz.sizeOf159
 v139:=Tryz.zeroValue159
 t146:=Tryz.underlying161
 a146:=Tryz.isAgg161
 z146:=Tryz.sizeOf161
 v146:=Tryz.zeroValue161
 g1:=by kernel_rfl
 g3:=by kernel_rfl
 g4:=by kernel_rfl }
open Go.Proofs Go.RowKit Go.Lib in
theorem strings_SplitN(s sep:ByteArray)(n:Nat)(m:Int)(w:World)(hs:s.size<4294967281)(hm:w.cell? ⟨0,0,none⟩=some (.int .i64 m))(h1:1<=sep.size)(hn:1<=n)(hn63:n<=9223372036854775807) :
  Calls prog 19 #[.string s,.string sep,.int .i64 n] w λe w'=>
   e=.returned (.slice (some ⟨w.heap.size,0,none⟩) (Lib.splitB sep 0 (min n (s.size+1)-1) s).length (min n (s.size+1)))/\w'=w.alloc (.cells (Lib.cellsOf (Lib.splitB sep 0 (min n (s.size+1)-1) s) (min n (s.size+1))) 9):=Any.strings_SplitN ami (by kernel_rfl) s sep n m w hs hm h1 hn hn63
def Af(n:Nat)(a0:List Int)(a1:List Int)(a2:Int):Option ((List (List Int))×Unit):=aT.Ci a0 a1 a2
def Zy:List aH:=[.val .str [],.val .str [],.val (.int .i64) []]
def anN:List eF:=[.val (.sl 9 .str) [] []]
def KD:Entry:=⟨19,Zy,anN,λn (c:Cont (kin Zy))=>Af n c.1 c.2.1 c.2.2.1⟩
theorem SC[Fr][aD.LaidTab prog][aD.LaidErr prog][aT.bG prog](n:Nat):bC prog n KD:=aT.aou strings_SplitN (Go.MuLone.run_callFunc_enter func19 (by kernel_rfl) rfl)
def sj(n:Nat)(a0:wW):Option ((List Int)×wW×Unit):=if decide ((a0.1.length:Int)=0)=true then some (([]:List Int),(a0.1,a0.2.1,true,a0.2.2.2),())else if aX 0 a0.1.length then if 0<=(1:Int)/\(1:Int)<=(a0.1.length:Int)then some (a0.1.getD (0:Int).toNat ([]:List Int),(a0.1.drop (1:Int).toNat,a0.2),())else none else none
def zZ:Entry:=⟨42,[.rw Hq [2,51,96] [4294967295] [9]],[.val .str [] []],λn c=>sj n c.1⟩
theorem CW[Fr][aD.LaidTab prog][aD.LaidErr prog][aT.bG prog](n:Nat):bC prog n zZ:=bW mixed bS func42 (by kernel_rfl) (hi:=H_1) bU (by intro n c;kernel_rfl)
def CO(n:Nat)(a0:List (List Int))(a1:List Int):Option (Int×Unit):=rounds (λL1 (v1:(List (List Int))×(List Int)×ay)=>if decide (v1.2.2.2.1<v1.2.2.1)=true then if aX v1.2.2.2.1 v1.1.length then if decide (v1.2.1=(v1.1.getD v1.2.2.2.1.toNat ([]:List Int)))=true then some (v1.2.2.2.1,())else L1 (v1.1,v1.2.1,v1.2.2.1,i64.wrap (v1.2.2.2.1+1),())else none else some ((-1),())) n (a0,a1,(a0.length:Int),0,())
def RF:Entry:=⟨43,[.val (.sl 9 .str) [],.val .str []],[.val (.int .i64) [] []],λn c=>CO n c.1 c.2.1⟩
theorem acQ[Fr][aD.LaidTab prog][aD.LaidErr prog][aT.bG prog](n:Nat):bC prog n RF:=bW mixed bS func43 (by kernel_rfl) (hi:=⟨0,[],[(0,[0,1,7,8],[])],[],[],[],[],[],[]⟩) bU (by intro n c;kernel_rfl)
def mZ(n:Nat)(a0:Int)(a1:Int)(a2:Int):Option (Bool×Unit):=if decide (a0>=a1)=true then some (decide (a0<=a2),())else some (false,())
def oq:Entry:=⟨33,[.val (.int .i64) [],.val (.int .i64) [],.val (.int .i64) []],[.val .bool [] []],λn c=>mZ n c.1 c.2.1 c.2.2.1⟩
theorem oV[Fr][aD.LaidTab prog][aD.LaidErr prog][aT.bG prog](n:Nat):bC prog n oq:=bW mixed bS func33 (by kernel_rfl) (hi:=H_1) bU (by intro n c;kernel_rfl)
def Gc(n:Nat)(a0:Int):Option (Bool×Unit):=(mZ n a0 0 15).bind λr1=>some (r1.1,())
def RG:Entry:=⟨81,[.val (.int .i64) []],[.val .bool [] []],λn c=>Gc n c.1⟩
def abB:Hint:=⟨0,[],[],[],[(33,some 4,oq)],[],[],[],[]⟩
theorem acR[Fr][aD.LaidTab prog][aD.LaidErr prog][aT.bG prog](n:Nat):bC prog n RG:=bW mixed bS func81 (by kernel_rfl) (hi:=abB) (aI (oV n) bU) (by intro n c;kernel_rfl)
def YN:Go.Shelf.Ren:=⟨fun|156=>86|165=>115|166=>116|169=>117|240=>139|241=>140|276=>155|277=>156|n=>n,fun|31=>40|9=>9|3=>3|4=>4|0=>0|20=>20|72=>130|76=>132|70=>128|37=>29|75=>105|127=>146|164=>168|5=>5|80=>68|n=>n,fun|n=>n⟩
theorem YM:Go.Proofs.Lays.n156 prog YN:={
 mixed:=by kernel_rfl
 f156:=func86.trans (congrArg some (by kernel_rfl))
 f165:=func115.trans (congrArg some (by kernel_rfl))
 f166:=func116.trans (congrArg some (by kernel_rfl))
 f169:=func117.trans (congrArg some (by kernel_rfl))
 f240:=func139.trans (congrArg some (by kernel_rfl))
 f241:=func140.trans (congrArg some (by kernel_rfl))
 f276:=func155.trans (congrArg some (by kernel_rfl))
 f277:=func156.trans (congrArg some (by kernel_rfl))
 t0:=Tryz.underlying0
 a0:=Tryz.isAgg0
 z0:=Tryz.sizeOf0
 v0:=Tryz.zeroValue0
 t3:=Tryz.underlying3
 a3:=Tryz.isAgg3
 z3:=Tryz.sizeOf3
 v3:=Tryz.zeroValue3
 t4:=Tryz.underlying4
 a4:=Tryz.isAgg4
 z4:=Tryz.sizeOf4
 v4:=Tryz.zeroValue4
 t9:=Tryz.underlying9
 a9:=Tryz.isAgg9
 z9:=Tryz.sizeOf9
 v9:=Tryz.zeroValue9
 t20:=Tryz.underlying20
 a20:=Tryz.isAgg20
 z20:=Tryz.sizeOf20
 v20:=Tryz.zeroValue20
 t31:=Tryz.underlying40
 a31:=Tryz.isAgg40
 z31:=Tryz.sizeOf40
 v31:=Tryz.zeroValue40
 t37:=Tryz.underlying29
 a37:=Tryz.isAgg29
 z37:=Tryz.sizeOf29
 v37:=Tryz.zeroValue29
 t70:=Tryz.underlying128
 a70:=Tryz.isAgg128
 z70:=Tryz.sizeOf128
 v70:=Tryz.zeroValue128
 t72:=Tryz.underlying130
 a72:=Tryz.isAgg130
 z72:=Tryz.sizeOf130
 v72:=Tryz.zeroValue130
 t75:=Tryz.underlying105
 a75:=Tryz.isAgg105
 z75:=Tryz.sizeOf105
 v75:=Tryz.zeroValue105
 t76:=Tryz.underlying132
 a76:=Tryz.isAgg132
 z76:=Tryz.sizeOf132
 v76:=Tryz.zeroValue132
 t127:=Tryz.underlying146
 a127:=Tryz.isAgg146
 z127:=Tryz.sizeOf146
 v127:=Tryz.zeroValue146
 t164:=Tryz.underlying168
 a164:=Tryz.isAgg168
 z164:=Tryz.sizeOf168
 v164:=Tryz.zeroValue168 }
theorem Q_:Builder.Extra prog YN:={
 sizeBuilder:=by kernel_rfl
 liesBuilder:=by kernel_rfl
 t5:=Tryz.underlying5
 a5:=Tryz.isAgg5
 z5:=Tryz.sizeOf5
 v5:=Tryz.zeroValue5
 infoByte:=by kernel_rfl
 cellsByte:=by kernel_rfl
 sizeByte:=by kernel_rfl
 neB5:=by decide }
open Go.Proofs Go.RowKit in
theorem strings_Join_none(a:Option Addr)(c:Nat)(sep:ByteArray)(w:World) :
  Calls prog 86 #[.slice a 0 c,.string sep] w λe w'=>e=.returned (.string ⟨#[]⟩)/\w'=w:=Any.strings_Join_none YM Q_ a c sep w
open Go.Proofs Go.RowKit in
theorem strings_Join(bk o c:Nat)(xs:List ByteArray)(sep:ByteArray)(w:World)(hcells:∀(j:Nat) x,xs[j]?=some x->w.cell? ⟨bk,o+j,none⟩=some (.string x))(hbk:bk<w.heap.size)(hN:xs.length<=140737488355328)(hcap:xs.length<=c)(hlen:(Lib.join (xs.map (·.data.toList)) sep.data.toList).length<=140737488355328) :
  Calls prog 86 #[.slice (some ⟨bk,o,none⟩) xs.length c,.string sep] w λe w'=>e=.returned (.string ⟨(Lib.join (xs.map (·.data.toList)) sep.data.toList).toArray⟩)/\Below w.heap.size w w':=Any.strings_Join YM Q_ bk o c xs sep w hcells hbk hN hcap hlen
def K7(n:Nat)(a0:List (List Int))(a1:List Int):Option (List Int×Unit):=pV.zC a0 a1
def Zz:List aH:=[.val (.sl 9 .str) [],.val .str []]
def anO:List eF:=[.val .str [] []]
def KE:Entry:=⟨86,Zz,anO,λn (c:Cont (kin Zz))=>K7 n c.1 c.2.1⟩
theorem SE[Fr][aD.LaidTab prog][aD.LaidErr prog][aT.bG prog](n:Nat):bC prog n KE:=pV.ais strings_Join_none strings_Join (Go.MuLone.run_callFunc_enter func86 (by kernel_rfl) rfl)
def Aa(n:Nat)(a0:Int):Option sJ:=rounds (λL1 (v1:Int×Int×Int×(List (List Int))×(List (List Int))×Unit)=>if decide (v1.2.2.1<v1.2.1)=true then if aX v1.2.2.1 v1.2.2.2.2.1.length then if 0<=v1.2.2.1 then if decide ((i64.wrap ((BitVec.ofInt (IntKind.bits .i64) (v1.1.fdiv (2 ^ min v1.2.2.1.toNat (IntKind.bits .i64))) &&& BitVec.ofInt (IntKind.bits .i64) 1).toNat))=1)=true then if(v1.2.2.2.1.length+[v1.2.2.2.2.1.getD v1.2.2.1.toNat ([]:List Int)].length)*16<=140737488355328 then L1 (v1.1,v1.2.1,i64.wrap (v1.2.2.1+1),v1.2.2.2.1++[v1.2.2.2.2.1.getD v1.2.2.1.toNat ([]:List Int)],v1.2.2.2.2.1,())else none else L1 (v1.1,v1.2.1,i64.wrap (v1.2.2.1+1),v1.2.2.2.1,v1.2.2.2.2.1,())else none else none else if decide ((v1.2.2.2.1.length:Int)=0)=true then some ([110,111,110,101],())else(K7 n v1.2.2.2.1 [32]).bind λr2=>some (r2.1,())) n (a0,([[115,101,101,110],[97,110,115,119,101,114,101,100],[102,108,97,103,103,101,100],[100,101,108,101,116,101,100]].length:Int),0,([]:List (List Int)),[[115,101,101,110],[97,110,115,119,101,114,101,100],[102,108,97,103,103,101,100],[100,101,108,101,116,101,100]],())
def KF:Entry:=⟨50,[.val (.int .i64) []],[.val .str [] []],λn c=>Aa n c.1⟩
theorem SF[Fr][aD.LaidTab prog][aD.LaidErr prog][aT.bG prog](n:Nat):bC prog n KF:=bW mixed bS func50 (by kernel_rfl) (hi:=⟨0,[],[(0,[0,3,7,8,9],[194,226])],[],[(86,some 28,KE)],[],[],[],[]⟩) (aI (SE n) bU) (by intro n c;kernel_rfl)
def F9(n:Nat)(a0:List Int):Option (ay×Unit):=rounds (λL1 (v1:(List Int)×Int×ay×Unit)=>(Gc n v1.2.1).bind λr2=>if r2.1=true then(Aa n v1.2.1).bind λr3=>if decide (r3.1=v1.1)=true then some ((0,v1.2.1,()),())else L1 (v1.1,i64.wrap (v1.2.1+1),v1.2.2.1,())else some ((5,0,()),())) n (a0,0,fI,())
def RH:Entry:=⟨44,[.val .str []],[.val lS [] []],λn c=>F9 n c.1⟩
theorem acS[Fr][aD.LaidTab prog][aD.LaidErr prog][aT.bG prog](n:Nat):bC prog n RH:=bW mixed bS func44 (by kernel_rfl) (hi:=⟨0,[],[(0,[0,2,3],[66])],[],[(81,some 5,RG),(50,some 9,KF)],[],[],[],[]⟩) (aI (acR n) (aI (SF n) bU)) (by intro n c;kernel_rfl)
def jZ(n:Nat)(a0:List bn):Option (Int×Unit):=some ((a0.length:Int),())
def Cw:Entry:=⟨22,[.val (.sl 51 jP) []],[.val (.int .i64) [] []],λn c=>jZ n c.1⟩
theorem GK[Fr][aD.LaidTab prog][aD.LaidErr prog][aT.bG prog](n:Nat):bC prog n Cw:=bW mixed bS func22 (by kernel_rfl) (hi:=H_1) bU (by intro n c;kernel_rfl)
def Ab(n:Nat)(a0:Int):Option (Bool×Unit):=(mZ n a0 2 5).bind λr1=>some (r1.1,())
def F6:Entry:=⟨45,[.val (.int .i64) []],[.val .bool [] []],λn c=>Ab n c.1⟩
theorem Le[Fr][aD.LaidTab prog][aD.LaidErr prog][aT.bG prog](n:Nat):bC prog n F6:=bW mixed bS func45 (by kernel_rfl) (hi:=abB) (aI (oV n) bU) (by intro n c;kernel_rfl)
def amm:Go.Shelf.Ren:=⟨fun|173=>87|246=>118|283=>141|284=>142|285=>143|286=>144|129=>158|317=>157|318=>159|319=>160|320=>161|337=>164|338=>165|n=>n,fun|2=>2|3=>3|9=>9|4=>4|171=>148|0=>0|53=>140|37=>29|5=>5|173=>151|212=>172|51=>160|20=>20|213=>173|46=>136|232=>181|233=>182|n=>n,fun|17=>5|18=>6|19=>7|n=>n⟩
theorem aml:Go.Proofs.LaysM.n173 prog amm:={
 mixed:=by kernel_rfl
 f129:=func158.trans (congrArg some (by kernel_rfl))
 f173:=func87.trans (congrArg some (by kernel_rfl))
 f246:=func118.trans (congrArg some (by kernel_rfl))
 f283:=func141.trans (congrArg some (by kernel_rfl))
 f284:=func142.trans (congrArg some (by kernel_rfl))
 f285:=func143.trans (congrArg some (by kernel_rfl))
 f286:=func144.trans (congrArg some (by kernel_rfl))
 f317:=func157.trans (congrArg some (by kernel_rfl))
 f318:=func159.trans (congrArg some (by kernel_rfl))
 f319:=func160.trans (congrArg some (by kernel_rfl))
 f320:=func161.trans (congrArg some (by kernel_rfl))
 f337:=func164.trans (congrArg some (by kernel_rfl))
 f338:=func165.trans (congrArg some (by kernel_rfl))
 t0:=Tryz.underlying0
 a0:=Tryz.isAgg0
 z0:=Tryz.sizeOf0
 v0:=Tryz.zeroValue0
 t2:=Tryz.underlying2
 a2:=Tryz.isAgg2
 z2:=Tryz.sizeOf2
 v2:=Tryz.zeroValue2
 t3:=Tryz.underlying3
 a3:=Tryz.isAgg3
 z3:=Tryz.sizeOf3
 v3:=Tryz.zeroValue3
 t4:=Tryz.underlying4
 a4:=Tryz.isAgg4
 z4:=Tryz.sizeOf4
 v4:=Tryz.zeroValue4
 t5:=Tryz.underlying5
 a5:=Tryz.isAgg5
 z5:=Tryz.sizeOf5
 v5:=Tryz.zeroValue5
 t9:=Tryz.underlying9
 a9:=Tryz.isAgg9
 z9:=Tryz.sizeOf9
 v9:=Tryz.zeroValue9
 t20:=Tryz.underlying20
 a20:=Tryz.isAgg20
 z20:=Tryz.sizeOf20
 v20:=Tryz.zeroValue20
 t37:=Tryz.underlying29
 a37:=Tryz.isAgg29
 z37:=Tryz.sizeOf29
 v37:=Tryz.zeroValue29
 t46:=Tryz.underlying136
 a46:=Tryz.isAgg136
 z46:=Tryz.sizeOf136
 v46:=Tryz.zeroValue136
 t51:=Tryz.underlying160
 a51:=Tryz.isAgg160
 z51:=Tryz.sizeOf160
 v51:=Tryz.zeroValue160
 t53:=Tryz.underlying140
 a53:=Tryz.isAgg140
 z53:=Tryz.sizeOf140
 v53:=Tryz.zeroValue140
 t171:=Tryz.underlying148
 a171:=Tryz.isAgg148
 z171:=Tryz.sizeOf148
 v171:=Tryz.zeroValue148
 t173:=Tryz.underlying151
 a173:=Tryz.isAgg151
 z173:=Tryz.sizeOf151
 v173:=Tryz.zeroValue151
 t212:=Tryz.underlying172
 a212:=Tryz.isAgg172
 z212:=Tryz.sizeOf172
 v212:=Tryz.zeroValue172
 t213:=Tryz.underlying173
 a213:=Tryz.isAgg173
 z213:=Tryz.sizeOf173
 t232:=Tryz.underlying181
 a232:=Tryz.isAgg181
 z232:=Tryz.sizeOf181
 v232:=Tryz.zeroValue181
 t233:=Tryz.underlying182
 a233:=Tryz.isAgg182
 z233:=Tryz.sizeOf182
 v233:=Tryz.zeroValue182
 g17:=by kernel_rfl
 g18:=by kernel_rfl
 g19:=by kernel_rfl
 i0:=by kernel_rfl
 i2:=by kernel_rfl
 i3:=by kernel_rfl
 i4:=by kernel_rfl
 i5:=by kernel_rfl
 i9:=by kernel_rfl
 i20:=by kernel_rfl
 i37:=by kernel_rfl
 i46:=by kernel_rfl
 i51:=by kernel_rfl
 i53:=by kernel_rfl
 i171:=by kernel_rfl
 i173:=by kernel_rfl
 i212:=by kernel_rfl
 i232:=by kernel_rfl
 i233:=by kernel_rfl
 m17:=by kernel_rfl
 m18:=by kernel_rfl
 m19:=by kernel_rfl }
open Go.Proofs Go.RowKit Go.Sort Go.Lib in
theorem strconv_FormatInt_10(n:Int)(h0 : -9223372036854775808<=n)(h1:n<=9223372036854775807)(w:World)(htab:Lib.TabIs prog w "internal/strconv.uint64pow10" .u64 Lib.pow10Tab) :
  Calls prog 87 #[.int .i64 n,.int .i64 10] w λe w'=>e=.returned (.string ⟨(Lib.itoa n).toArray⟩)/\∃k os,w'=grow (w.drewN k) os:=Any.strconv_FormatInt_10 aml n h0 h1 w htab
open Go.Proofs Go.Shelf Go.RowKit Go.Sort Go.Lib in
theorem UF(n:Int)(h0 : -9223372036854775808<=n)(h1:n<=9223372036854775807)(w:World)(htab:Lib.TabIs prog w "internal/strconv.uint64pow10" .u64 Lib.pow10Tab) :
  Calls prog 51 #[.int .i64 n] w λe w'=>e=.returned (.string ⟨(Lib.itoa n).toArray⟩)/\Below w.heap.size w w':=by
 have e87:∀args w,(callFunc 87 args).run prog w=.ok (.enter 87 args) w:=λargs w=>Go.MuLone.run_callFunc_enter func87 (by kernel_rfl) rfl args w
 go_enter func51,Tryz.ntmps51
 go_wp2_with (go_at_fn 87;refine(strconv_FormatInt_10 n h0 h1 _ htab).mono ?_;rintro e w' ⟨rfl,k,os,rfl⟩)
 go_ret
 exact⟨rfl,⟨rfl,rfl,rfl,by simp[grow,World.drewN],λk hk=>by simp[grow,World.drewN,Array.getElem?_append,hk]⟩⟩
def amk:Go.Shelf.Ren:=⟨fun|174=>82|247=>110|245=>111|287=>133|279=>134|280=>135|281=>136|282=>137|321=>150|322=>151|316=>152|171=>154|205=>153|243=>163|246=>118|283=>141|284=>142|285=>143|286=>144|129=>158|317=>157|318=>159|319=>160|320=>161|337=>164|338=>165|n=>n,fun|9=>9|3=>3|2=>2|75=>105|85=>106|4=>4|167=>139|5=>5|53=>140|175=>141|46=>136|168=>143|37=>29|0=>0|210=>166|21=>21|127=>146|145=>179|143=>177|171=>148|173=>151|212=>172|51=>160|20=>20|213=>173|232=>181|233=>182|80=>68|n=>n,fun|15=>3|16=>4|17=>5|18=>6|19=>7|n=>n⟩
theorem PK:Go.Proofs.LaysC.n174 prog amk:={
 mixed:=by kernel_rfl
 f129:=func158.trans (congrArg some (by kernel_rfl))
 f171:=func154.trans (congrArg some (by kernel_rfl))
 f174:=func82.trans (congrArg some (by kernel_rfl))
 f205:=func153.trans (congrArg some (by kernel_rfl))
 f243:=func163.trans (congrArg some (by kernel_rfl))
 f245:=func111.trans (congrArg some (by kernel_rfl))
 f246:=func118.trans (congrArg some (by kernel_rfl))
 f247:=func110.trans (congrArg some (by kernel_rfl))
 f279:=func134.trans (congrArg some (by kernel_rfl))
 f280:=func135.trans (congrArg some (by kernel_rfl))
 f281:=func136.trans (congrArg some (by kernel_rfl))
 f282:=func137.trans (congrArg some (by kernel_rfl))
 f283:=func141.trans (congrArg some (by kernel_rfl))
 f284:=func142.trans (congrArg some (by kernel_rfl))
 f285:=func143.trans (congrArg some (by kernel_rfl))
 f286:=func144.trans (congrArg some (by kernel_rfl))
 f287:=func133.trans (congrArg some (by kernel_rfl))
 f316:=func152.trans (congrArg some (by kernel_rfl))
 f317:=func157.trans (congrArg some (by kernel_rfl))
 f318:=func159.trans (congrArg some (by kernel_rfl))
 f319:=func160.trans (congrArg some (by kernel_rfl))
 f320:=func161.trans (congrArg some (by kernel_rfl))
 f321:=func150.trans (congrArg some (by kernel_rfl))
 f322:=func151.trans (congrArg some (by kernel_rfl))
 f337:=func164.trans (congrArg some (by kernel_rfl))
 f338:=func165.trans (congrArg some (by kernel_rfl))
 t0:=Tryz.underlying0
 a0:=Tryz.isAgg0
 z0:=Tryz.sizeOf0
 v0:=Tryz.zeroValue0
 t2:=Tryz.underlying2
 a2:=Tryz.isAgg2
 z2:=Tryz.sizeOf2
 v2:=Tryz.zeroValue2
 t3:=Tryz.underlying3
 a3:=Tryz.isAgg3
 z3:=Tryz.sizeOf3
 v3:=Tryz.zeroValue3
 t4:=Tryz.underlying4
 a4:=Tryz.isAgg4
 z4:=Tryz.sizeOf4
 v4:=Tryz.zeroValue4
 t5:=Tryz.underlying5
 a5:=Tryz.isAgg5
 z5:=Tryz.sizeOf5
 v5:=Tryz.zeroValue5
 t9:=Tryz.underlying9
 a9:=Tryz.isAgg9
 z9:=Tryz.sizeOf9
 v9:=Tryz.zeroValue9
 t20:=Tryz.underlying20
 a20:=Tryz.isAgg20
 z20:=Tryz.sizeOf20
 v20:=Tryz.zeroValue20
 t21:=Tryz.underlying21
 a21:=Tryz.isAgg21
 z21:=Tryz.sizeOf21
 v21:=Tryz.zeroValue21
 t37:=Tryz.underlying29
 a37:=Tryz.isAgg29
 z37:=Tryz.sizeOf29
 v37:=Tryz.zeroValue29
 t46:=Tryz.underlying136
 a46:=Tryz.isAgg136
 z46:=Tryz.sizeOf136
 v46:=Tryz.zeroValue136
 t51:=Tryz.underlying160
 a51:=Tryz.isAgg160
 z51:=Tryz.sizeOf160
 v51:=Tryz.zeroValue160
 t53:=Tryz.underlying140
 a53:=Tryz.isAgg140
 z53:=Tryz.sizeOf140
 v53:=Tryz.zeroValue140
 t75:=Tryz.underlying105
 a75:=Tryz.isAgg105
 z75:=Tryz.sizeOf105
 v75:=Tryz.zeroValue105
 t85:=Tryz.underlying106
 a85:=Tryz.isAgg106
 z85:=Tryz.sizeOf106
 v85:=Tryz.zeroValue106
 t127:=Tryz.underlying146
 a127:=Tryz.isAgg146
 z127:=Tryz.sizeOf146
 v127:=Tryz.zeroValue146
 t143:=Tryz.underlying177
 a143:=Tryz.isAgg177
 z143:=Tryz.sizeOf177
 v143:=Tryz.zeroValue177
 t145:=Tryz.underlying179
 a145:=Tryz.isAgg179
 z145:=Tryz.sizeOf179
 v145:=Tryz.zeroValue179
 t167:=Tryz.underlying139
 a167:=Tryz.isAgg139
 z167:=Tryz.sizeOf139
 v167:=Tryz.zeroValue139
 t168:=Tryz.underlying143
 a168:=Tryz.isAgg143
 z168:=Tryz.sizeOf143
 v168:=Tryz.zeroValue143
 t171:=Tryz.underlying148
 a171:=Tryz.isAgg148
 z171:=Tryz.sizeOf148
 v171:=Tryz.zeroValue148
 t173:=Tryz.underlying151
 a173:=Tryz.isAgg151
 z173:=Tryz.sizeOf151
 v173:=Tryz.zeroValue151
 t175:=Tryz.underlying141
 a175:=Tryz.isAgg141
 z175:=Tryz.sizeOf141
 v175:=Tryz.zeroValue141
 t210:=Tryz.underlying166
 a210:=Tryz.isAgg166
 z210:=Tryz.sizeOf166
 v210:=Tryz.zeroValue166
 t212:=Tryz.underlying172
 a212:=Tryz.isAgg172
 z212:=Tryz.sizeOf172
 v212:=Tryz.zeroValue172
 t213:=Tryz.underlying173
 a213:=Tryz.isAgg173
 z213:=Tryz.sizeOf173
 t232:=Tryz.underlying181
 a232:=Tryz.isAgg181
 z232:=Tryz.sizeOf181
 v232:=Tryz.zeroValue181
 t233:=Tryz.underlying182
 a233:=Tryz.isAgg182
 z233:=Tryz.sizeOf182
 v233:=Tryz.zeroValue182
 g15:=by kernel_rfl
 g16:=by kernel_rfl
 g17:=by kernel_rfl
 g18:=by kernel_rfl
 g19:=by kernel_rfl
 t80:=Tryz.underlying68
 a80:=Tryz.isAgg68
 z80:=Tryz.sizeOf68
 v80:=Tryz.zeroValue68
 i0:=by kernel_rfl
 i2:=by kernel_rfl
 i3:=by kernel_rfl
 i4:=by kernel_rfl
 i5:=by kernel_rfl
 i9:=by kernel_rfl
 i20:=by kernel_rfl
 i21:=by kernel_rfl
 i37:=by kernel_rfl
 i46:=by kernel_rfl
 i51:=by kernel_rfl
 i53:=by kernel_rfl
 i75:=by kernel_rfl
 i80:=by kernel_rfl
 i85:=by kernel_rfl
 i127:=by kernel_rfl
 i143:=by kernel_rfl
 i145:=by kernel_rfl
 i167:=by kernel_rfl
 i168:=by kernel_rfl
 i171:=by kernel_rfl
 i173:=by kernel_rfl
 i175:=by kernel_rfl
 i210:=by kernel_rfl
 i212:=by kernel_rfl
 i232:=by kernel_rfl
 i233:=by kernel_rfl
 m15:=by kernel_rfl
 m16:=by kernel_rfl
 m17:=by kernel_rfl
 m18:=by kernel_rfl
 m19:=by kernel_rfl
 c0:=by kernel_rfl
 c2:=by kernel_rfl
 c3:=by kernel_rfl
 c4:=by kernel_rfl
 c5:=by kernel_rfl
 c9:=by kernel_rfl
 c20:=by kernel_rfl
 c21:=by kernel_rfl
 c37:=by kernel_rfl
 c46:=by kernel_rfl
 c51:=by kernel_rfl
 c53:=by kernel_rfl
 c75:=by kernel_rfl
 c80:=by kernel_rfl
 c85:=by kernel_rfl
 c127:=by kernel_rfl
 c143:=by kernel_rfl
 c145:=by kernel_rfl
 c167:=by kernel_rfl
 c168:=by kernel_rfl
 c171:=by kernel_rfl
 c173:=by kernel_rfl
 c175:=by kernel_rfl
 c210:=by kernel_rfl
 c212:=by kernel_rfl
 c213:=by kernel_rfl
 c232:=by kernel_rfl
 c233:=by kernel_rfl }
open Go.Proofs Go.RowKit in
theorem strconv_ParseInt_10_at64_ok(s:ByteArray)(hmax:s.size<=9223372036854775806)(v:Int)(h:Lib.parseIntB 64 s.data.toList=.ok v)(w:World) :
  Calls prog 82 #[.string s,.int .i64 10,.int .i64 64] w λe w'=>e=.returned (.tuple #[.int .i64 v,.nilIface])/\(w'=w\/∃t,w'=Lib.bytesWorld w 5 t):=Any.strconv_ParseInt_10_at64_ok PK s hmax v h w
open Go.Proofs Go.RowKit in
theorem strconv_ParseInt_10_at64_syntax_var(s:ByteArray)(hlim:s.size<=281474976710656)(h:Lib.parseIntB 64 s.data.toList=Go.Lib.NumEnd.syntax)(tp:TypeId)(p:Value)(w:World)(hvar:w.var? prog "strconv.ErrSyntax"=some #[.iface tp p]) :
  Calls prog 82 #[.string s,.int .i64 10,.int .i64 64] w λe w'=>∃N,e=.returned (.tuple #[.int .i64 (0),.iface 143 (.pointer (some ⟨N,0,none⟩))])/\w.heap.size<=N/\w'.heap[N]?=some (.cells #[.string ⟨#[80,97,114,115,101,73,110,116]⟩,.string s,.iface tp p] 166 (0,0))/\Below w.heap.size w w':=Any.strconv_ParseInt_10_at64_syntax_var PK s hlim h tp p w hvar
open Go.Proofs Go.RowKit in
theorem strconv_ParseInt_10_at64_range_var(s:ByteArray)(hlim:s.size<=281474976710656)(h:Lib.parseIntB 64 s.data.toList=.range)(tp:TypeId)(p:Value)(w:World)(hvar:w.var? prog "strconv.ErrRange"=some #[.iface tp p]) :
  Calls prog 82 #[.string s,.int .i64 10,.int .i64 64] w λe w'=>∃N,e=.returned (.tuple #[.int .i64 (Lib.intSat 64 s.data.toList),.iface 143 (.pointer (some ⟨N,0,none⟩))])/\w.heap.size<=N/\w'.heap[N]?=some (.cells #[.string ⟨#[80,97,114,115,101,73,110,116]⟩,.string s,.iface tp p] 166 (0,0))/\Below w.heap.size w w':=Any.strconv_ParseInt_10_at64_range_var PK s hlim h tp p w hvar
open Go.Proofs Go.Shelf Go.RowKit Go.Sort Go.Lib in
theorem aoQ(n a b:Int)(w:World):Calls prog 33 #[.int .i64 n,.int .i64 a,.int .i64 b] w λe w'=>e=.returned (.bool (decide (a<=n)&&decide (n<=b)))/\w'=w:=by
 go_enter func33,Tryz.ntmps33
 go_wp2
 all_goals (go_ret;simp_all<;>omega)
open Go.Proofs Go.Shelf Go.RowKit Go.Sort Go.Lib in
set_option maxHeartbeats 2000000 in
theorem anE(s:ByteArray)(hmax:s.size<=281474976710656)(v:Int)(h:Lib.parseIntB 64 s.data.toList=.ok v)(h0 : -9223372036854775808<=v)(h1:v<=9223372036854775807)(w:World)
  (htab:∀w',Below w.heap.size w w'->Lib.TabIs prog w' "internal/strconv.uint64pow10" .u64 Lib.pow10Tab) :
  Calls prog 46 #[.string s] w λe w'=>e=.returned (.tuple #[.int .i64 v,.bool (decide (0<=v)&&decide (v<=9999)&&(Lib.itoa v==s.data.toList))])/\Below w.heap.size w w':=by
 have UK:∀args w,(callFunc 82 args).run prog w=.ok (.enter 82 args) w:=λargs w=>Go.MuLone.run_callFunc_enter func82 (by kernel_rfl) rfl args w
 have e51:∀args w,(callFunc 51 args).run prog w=.ok (.enter 51 args) w:=λargs w=>Go.MuLone.run_callFunc_enter func51 (by kernel_rfl) rfl args w
 have e33:∀args w,(callFunc 33 args).run prog w=.ok (.enter 33 args) w:=λargs w=>Go.MuLone.run_callFunc_enter func33 (by kernel_rfl) rfl args w
 go_enter func46,Tryz.ntmps46
 go_wp2_with (go_at_fn 82;refine(strconv_ParseInt_10_at64_ok s (by omega) v h _).mono ?_)
 rintro e W1 ⟨rfl,hW⟩
 have hb1:Below w.heap.size w W1:=by
  rcases hW with rfl|⟨t,rfl⟩
  ·exact Below.refl _ _
  ·exact Lib.bytesWorld_below _ _ _
 clear hW
 go_wp2_with (go_at_fn 33;refine(aoQ _ _ _ _).mono ?_;rintro e w' ⟨rfl,rfl⟩)
 ·refine(UF v h0 h1 _ (htab _ hb1)).mono ?_
  rintro e w2 ⟨rfl,hb2⟩
  go_wp2
  go_ret2
  rename_i hv
  refine⟨?_,hb1.trans ⟨hb2.os,hb2.tape,hb2.output,hb2.size,λk hk=>hb2.block k (uu hk hb1.size)⟩⟩
  simp[hv.1,hv.2,FY]
 ·rename_i hv
  go_ret2
  refine⟨?_,hb1⟩
  have:(decide (0<=v)&&decide (v<=9999))=false:=by simpa using hv
  simp[this]
open Go.Proofs Go.Shelf Go.RowKit Go.Sort Go.Lib in
set_option maxHeartbeats 2000000 in
theorem anG(s:ByteArray)(hmax:s.size<=281474976710656)(h:Lib.parseIntB 64 s.data.toList=Lib.NumEnd.syntax)(w:World)(tp:TypeId)(p:Value)(hvar:w.var? prog "strconv.ErrSyntax"=some #[.iface tp p]) :
  Calls prog 46 #[.string s] w λe w'=>e=.returned (.tuple #[.int .i64 0,.bool false])/\Below w.heap.size w w':=by
 have UK:∀args w,(callFunc 82 args).run prog w=.ok (.enter 82 args) w:=λargs w=>Go.MuLone.run_callFunc_enter func82 (by kernel_rfl) rfl args w
 go_enter func46,Tryz.ntmps46
 go_wp2_with (go_at_fn 82;refine(strconv_ParseInt_10_at64_syntax_var s hmax h tp p _ hvar).mono ?_)
 rintro e W1 ⟨N,rfl,_,_,hb1⟩
 go_wp2
 go_ret2
 exact⟨rfl,hb1⟩
open Go.Proofs Go.Shelf Go.RowKit Go.Sort Go.Lib in
set_option maxHeartbeats 2000000 in
theorem anF(s:ByteArray)(hmax:s.size<=281474976710656)(h:Lib.parseIntB 64 s.data.toList=.range)(w:World)(tp:TypeId)(p:Value)(hvar:w.var? prog "strconv.ErrRange"=some #[.iface tp p]) :
  Calls prog 46 #[.string s] w λe w'=>e=.returned (.tuple #[.int .i64 (Lib.intSat 64 s.data.toList),.bool false])/\Below w.heap.size w w':=by
 have UK:∀args w,(callFunc 82 args).run prog w=.ok (.enter 82 args) w:=λargs w=>Go.MuLone.run_callFunc_enter func82 (by kernel_rfl) rfl args w
 go_enter func46,Tryz.ntmps46
 go_wp2_with (go_at_fn 82;refine(strconv_ParseInt_10_at64_range_var s hmax h tp p _ hvar).mono ?_)
 rintro e W1 ⟨N,rfl,_,_,hb1⟩
 go_wp2
 go_ret2
 exact⟨rfl,hb1⟩
def Gh(n:Nat)(a0:List Int):Option (Int×Bool×Unit):=aD.B_ a0
def ZA:List aH:=[.val .str []]
def anP:List eF:=[.val (.int .i64) [] [],.val .bool [] []]
def KG:Entry:=⟨46,ZA,anP,λn (c:Cont (kin ZA))=>Gh n c.1⟩
theorem SG[Fr][aD.LaidTab prog][aD.LaidErr prog][aT.bG prog](n:Nat):bC prog n KG:=aD.anD anE anG anF (Go.MuLone.run_callFunc_enter func46 (by kernel_rfl) rfl)
def wF(n:Nat)(a0:Int):Option (Bool×Unit):=if decide (a0=6)=true then some (true,())else some (decide (a0=7),())
def Cy:Entry:=⟨47,[.val (.int .i64) []],[.val .bool [] []],λn c=>wF n c.1⟩
theorem GL[Fr][aD.LaidTab prog][aD.LaidErr prog][aT.bG prog](n:Nat):bC prog n Cy:=bW mixed bS func47 (by kernel_rfl) (hi:=H_1) bU (by intro n c;kernel_rfl)
def CG(n:Nat)(a0:Int):Option (Bool×Unit):=(mZ n a0 0 65535).bind λr1=>if r1.1=true then(mZ n a0 55296 57343).bind λr2=>some (!r2.1,())else some (false,())
def KH:Entry:=⟨70,[.val (.int .i64) []],[.val .bool [] []],λn c=>CG n c.1⟩
theorem SH[Fr][aD.LaidTab prog][aD.LaidErr prog][aT.bG prog](n:Nat):bC prog n KH:=bW mixed bS func70 (by kernel_rfl) (hi:=⟨0,[],[],[],[(33,some 4,oq),(33,some 7,oq)],[],[],[],[]⟩) (aI (oV n) (aI (oV n) bU)) (by intro n c;kernel_rfl)
def KW(n:Nat)(a0:Int):Option (Bool×Unit):=(mZ n a0 1 5).bind λr1=>some (r1.1,())
def RI:Entry:=⟨138,[.val (.int .i64) []],[.val .bool [] []],λn c=>KW n c.1⟩
theorem acT[Fr][aD.LaidTab prog][aD.LaidErr prog][aT.bG prog](n:Nat):bC prog n RI:=bW mixed bS func138 (by kernel_rfl) (hi:=abB) (aI (oV n) bU) (by intro n c;kernel_rfl)
def F8(n:Nat)(a0:Int)(a1:Int):Option (Bool×Unit):=(CG n a1).bind λr1=>if(!r1.1)=true then some (false,())else(KW n a0).bind λr2=>if(!r2.1)=true then some (false,())else if decide (a0=1)=true then some (decide (a1<=127),())else if decide (a0=2)=true then some (decide (a1<=255),())else if decide (a0=3)=true then if decide (a1<=160)=true then some (true,())else if decide (a1=167)=true then some (true,())else if decide (a1=173)=true then some (true,())else(mZ n a1 1025 1119).bind λr3=>if r3.1=true then if(!decide (a1=1037))=true then if(!decide (a1=1104))=true then if(!decide (a1=1117))=true then some (true,())else some (decide (a1=8470),())else some (decide (a1=8470),())else some (decide (a1=8470),())else some (decide (a1=8470),())else some (true,())
def RJ:Entry:=⟨112,[.val (.int .i64) [],.val (.int .i64) []],[.val .bool [] []],λn c=>F8 n c.1 c.2.1⟩
theorem acU[Fr][aD.LaidTab prog][aD.LaidErr prog][aT.bG prog](n:Nat):bC prog n RJ:=bW mixed bS func112 (by kernel_rfl) (hi:=⟨0,[],[],[],[(70,some 7,KH),(138,some 11,RI),(33,some 39,oq)],[],[],[],[]⟩) (aI (SH n) (aI (acT n) (aI (oV n) bU))) (by intro n c;kernel_rfl)
def yg(n:Nat)(a0:Int):Option (Int×Unit):=if(64:Int)≠0 then some (u8.wrap (i64.wrap ((128:Int)+(a0.tmod 64))),())else none
def F7:Entry:=⟨119,[.val (.int .i64) []],[.val (.int .u8) [] []],λn c=>yg n c.1⟩
theorem Lg[Fr][aD.LaidTab prog][aD.LaidErr prog][aT.bG prog](n:Nat):bC prog n F7:=bW mixed bS func119 (by kernel_rfl) (hi:=H_1) bU (by intro n c;kernel_rfl)
def CB(n:Nat)(a0:Int)(a1:Int):Option sJ:=if decide (a0=5)=true then if(256:Int)≠0 then if(256:Int)≠0 then some ([u8.wrap (i64.wrap (a1.tdiv 256)),u8.wrap (a1.tmod 256)],())else none else none else if decide (a0=4)=true then if decide (a1>=2048)=true then if(4096:Int)≠0 then if(64:Int)≠0 then(yg n (i64.wrap (a1.tdiv 64))).bind λr1=>(yg n a1).bind λr2=>some ([u8.wrap (i64.wrap ((224:Int)+(i64.wrap (a1.tdiv 4096)))),r1.1,r2.1],())else none else none else if decide (a0=4)=true then if decide (a1>=128)=true then if(64:Int)≠0 then(yg n a1).bind λr3=>some ([u8.wrap (i64.wrap ((192:Int)+(i64.wrap (a1.tdiv 64)))),r3.1],())else none else if(!decide (a0=3))=true then some ([u8.wrap a1],())else if decide (a1<=160)=true then some ([u8.wrap a1],())else if decide (a1=173)=true then some ([u8.wrap a1],())else if decide (a1=167)=true then some ([(253:Int)],())else if decide (a1=8470)=true then some ([(240:Int)],())else some ([u8.wrap (i64.wrap (a1-864))],())else if(!decide (a0=3))=true then some ([u8.wrap a1],())else if decide (a1<=160)=true then some ([u8.wrap a1],())else if decide (a1=173)=true then some ([u8.wrap a1],())else if decide (a1=167)=true then some ([(253:Int)],())else if decide (a1=8470)=true then some ([(240:Int)],())else some ([u8.wrap (i64.wrap (a1-864))],())else if decide (a0=4)=true then if decide (a1>=128)=true then if(64:Int)≠0 then(yg n a1).bind λr4=>some ([u8.wrap (i64.wrap ((192:Int)+(i64.wrap (a1.tdiv 64)))),r4.1],())else none else if(!decide (a0=3))=true then some ([u8.wrap a1],())else if decide (a1<=160)=true then some ([u8.wrap a1],())else if decide (a1=173)=true then some ([u8.wrap a1],())else if decide (a1=167)=true then some ([(253:Int)],())else if decide (a1=8470)=true then some ([(240:Int)],())else some ([u8.wrap (i64.wrap (a1-864))],())else if(!decide (a0=3))=true then some ([u8.wrap a1],())else if decide (a1<=160)=true then some ([u8.wrap a1],())else if decide (a1=173)=true then some ([u8.wrap a1],())else if decide (a1=167)=true then some ([(253:Int)],())else if decide (a1=8470)=true then some ([(240:Int)],())else some ([u8.wrap (i64.wrap (a1-864))],())
def KI:Entry:=⟨88,[.val (.int .i64) [],.val (.int .i64) []],[.own (.sl 5 (.int .u8)) [5] [] []],λn c=>CB n c.1 c.2.1⟩
theorem SI[Fr][aD.LaidTab prog][aD.LaidErr prog][aT.bG prog](n:Nat):bC prog n KI:=bW mixed bS func88 (by kernel_rfl) (hi:=⟨0,[],[],[],[(119,some 30,F7),(119,some 33,F7),(119,some 48,F7)],[],[],[],[]⟩) (aI (Lg n) (aI (Lg n) (aI (Lg n) bU))) (by intro n c;kernel_rfl)
def KU(n:Nat)(a0:List Int)(a1:List Int):Option (Bool×Unit):=some (decide (a0=a1),())
def RL:Entry:=⟨113,[.val (.sl 5 (.int .u8)) [],.val (.sl 5 (.int .u8)) []],[.val .bool [] []],λn c=>KU n c.1 c.2.1⟩
theorem acV[Fr][aD.LaidTab prog][aD.LaidErr prog][aT.bG prog](n:Nat):bC prog n RL:=bW mixed bS func113 (by kernel_rfl) (hi:=H_1) bU (by intro n c;kernel_rfl)
def CF(n:Nat)(a0:Int)(a1:List Int):Option ay:=(λ(k1:Unit->Int->(List Int)->Option ay)=>k1 () a0 a1) (λ_ aiF Oa=>(λ(k2:Unit->Int->(List Int)->Int->Int->Option ay)=>if aX 0 Oa.length then k2 () aiF Oa 1 (i64.wrap (Oa.getD (0:Int).toNat 0))else none) (λ_ Ew Oq Ot Jd=>(λ(k4:Unit->Int->(List Int)->Int->Int->Option ay)=>(λ(k86:Unit->Int->(List Int)->Int->Int->Option ay)=>(λ(k83:Unit->Int->(List Int)->Int->Int->Bool->Option ay)=>(λ(k3:Unit->Int->(List Int)->Int->Int->Option ay)=>if decide (Ew=5)=true then k3 () Ew Oq Ot Jd else if decide (Ew=4)=true then(mZ n Jd 192 223).bind λr82=>k83 () Ew Oq Ot Jd r82.1 else k86 () Ew Oq Ot Jd) (λ_ ajq ajr apn ajs=>k4 () ajq ajr 2 ajs)) (λ_ JF Pv Yw JG alD=>if alD=true then k4 () JF Pv 2 JG else(λ(k85:Unit->Int->(List Int)->Int->Int->Option ay)=>(λ(k84:Unit->Int->(List Int)->Int->Int->Bool->Option ay)=>if decide (JF=4)=true then k84 () JF Pv Yw JG (decide (JG>=224))else k85 () JF Pv Yw JG) (λ_ Yx Yy alF Yz alG=>if alG=true then k4 () Yx Yy 3 Yz else k4 () Yx Yy alF Yz)) (λ_ alI alJ alK alL=>k4 () alI alJ alK alL))) (λ_ Pw YA YB Px=>(λ(k88:Unit->Int->(List Int)->Int->Int->Option ay)=>(λ(k87:Unit->Int->(List Int)->Int->Int->Bool->Option ay)=>if decide (Pw=4)=true then k87 () Pw YA YB Px (decide (Px>=224))else k88 () Pw YA YB Px) (λ_ YC YD alO YE alP=>if alP=true then k4 () YC YD 3 YE else k4 () YC YD alO YE)) (λ_ alR alS alT alU=>k4 () alR alS alT alU))) (λ_ ajW XE XF ajX=>(λ(k7:Unit->Int->(List Int)->Int->Int->Option ay)=>(λ(k5:Unit->Int->(List Int)->Int->Int->Bool->Option ay)=>k5 () ajW XE XF ajX (decide (XF>(XE.length:Int)))) (λ_ akq akr aks akt aku=>if aku=true then(λ(k6:Unit->Int->Int->Option ay)=>k6 () 0 0) (λ_ akU akV=>some (akU,akV,()))else k7 () akq akr aks akt)) (λ_ alp alq alr Yq=>(λ(k8:Unit->Int->(List Int)->Int->Int->Int->Option ay)=>k8 () alp alq alr Yq Yq) (λ_ YF alV alW alX alY=>(λ(k10:Unit->Int->(List Int)->Int->Int->Option ay)=>(λ(k9:Unit->Int->(List Int)->Int->Int->Int->Bool->Option ay)=>k9 () YF alV alW alX alY (decide (YF=5))) (λ_ JH EW JI Py YG alZ=>if alZ=true then if aX 1 EW.length then k10 () JH EW JI (i64.wrap ((i64.wrap (Py*256))+(i64.wrap (EW.getD (1:Int).toNat 0))))else none else(λ(k51:Unit->Int->(List Int)->Int->Int->Int->Option ay)=>(λ(k20:Unit->Int->(List Int)->Int->Int->Int->Bool->Option ay)=>if decide (JH=4)=true then k20 () JH EW JI Py YG (decide (JI=2))else k51 () JH EW JI Py YG) (λ_ I6 Er I7 Ob WO aiG=>if aiG=true then if(32:Int)≠0 then if aX 1 Er.length then if(64:Int)≠0 then k10 () I6 Er I7 (i64.wrap ((i64.wrap ((Ob.tmod 32)*64))+((i64.wrap (Er.getD (1:Int).toNat 0)).tmod 64)))else none else none else none else(λ(k36:Unit->Int->(List Int)->Int->Int->Int->Option ay)=>(λ(k21:Unit->Int->(List Int)->Int->Int->Int->Bool->Option ay)=>if decide (I6=4)=true then k21 () I6 Er I7 Ob WO (decide (I7=3))else k36 () I6 Er I7 Ob WO) (λ_ I8 zD Oc I9 WQ aiH=>if aiH=true then if(16:Int)≠0 then if aX 1 zD.length then if(64:Int)≠0 then if aX 2 zD.length then if(64:Int)≠0 then k10 () I8 zD Oc (i64.wrap ((i64.wrap ((i64.wrap ((I9.tmod 16)*4096))+(i64.wrap (((i64.wrap (zD.getD (1:Int).toNat 0)).tmod 64)*64))))+((i64.wrap (zD.getD (2:Int).toNat 0)).tmod 64)))else none else none else none else none else none else(λ(k29:Unit->Int->(List Int)->Int->Int->Int->Option ay)=>(λ(k22:Unit->Int->(List Int)->Int->Int->Int->Bool->Option ay)=>if decide (I8=3)=true then k22 () I8 zD Oc I9 WQ (decide (I9=253))else k29 () I8 zD Oc I9 WQ) (λ_ I_ Od Oe Og WR aiI=>if aiI=true then k10 () I_ Od Oe 167 else(λ(k26:Unit->Int->(List Int)->Int->Int->Int->Option ay)=>(λ(k23:Unit->Int->(List Int)->Int->Int->Int->Bool->Option ay)=>if decide (I_=3)=true then k23 () I_ Od Oe Og WR (decide (Og=240))else k26 () I_ Od Oe Og WR) (λ_ Es Ja Jb Et Oh aiJ=>if aiJ=true then k10 () Es Ja Jb 8470 else(λ(k25:Unit->Int->(List Int)->Int->Int->Int->Option ay)=>(λ(k24:Unit->Int->(List Int)->Int->Int->Int->Bool->Option ay)=>if decide (Es=3)=true then if decide (Et>160)=true then k24 () Es Ja Jb Et Oh (!decide (Et=173))else k25 () Es Ja Jb Et Oh else k25 () Es Ja Jb Et Oh) (λ_ WS WT WU aiK aiL aiM=>if aiM=true then k10 () WS WT WU (i64.wrap (aiK+864))else k10 () WS WT WU aiL)) (λ_ aiN aiO aiP apj aiQ=>k10 () aiN aiO aiP aiQ))) (λ_ Jc Oi Oj Eu Ol=>(λ(k28:Unit->Int->(List Int)->Int->Int->Int->Option ay)=>(λ(k27:Unit->Int->(List Int)->Int->Int->Int->Bool->Option ay)=>if decide (Jc=3)=true then if decide (Eu>160)=true then k27 () Jc Oi Oj Eu Ol (!decide (Eu=173))else k28 () Jc Oi Oj Eu Ol else k28 () Jc Oi Oj Eu Ol) (λ_ WV WW WX aiR aiS aiT=>if aiT=true then k10 () WV WW WX (i64.wrap (aiR+864))else k10 () WV WW WX aiS)) (λ_ aiU aiV aiW apk aiX=>k10 () aiU aiV aiW aiX)))) (λ_ Om WY WZ Oo W9=>(λ(k33:Unit->Int->(List Int)->Int->Int->Int->Option ay)=>(λ(k30:Unit->Int->(List Int)->Int->Int->Int->Bool->Option ay)=>if decide (Om=3)=true then k30 () Om WY WZ Oo W9 (decide (Oo=240))else k33 () Om WY WZ Oo W9) (λ_ Ey Je Jf EA Ou ai0=>if ai0=true then k10 () Ey Je Jf 8470 else(λ(Xc:Unit->Int->(List Int)->Int->Int->Int->Option ay)=>(λ(k31:Unit->Int->(List Int)->Int->Int->Int->Bool->Option ay)=>if decide (Ey=3)=true then if decide (EA>160)=true then k31 () Ey Je Jf EA Ou (!decide (EA=173))else Xc () Ey Je Jf EA Ou else Xc () Ey Je Jf EA Ou) (λ_ W_ Xa Xb ai2 ai3 ai4=>if ai4=true then k10 () W_ Xa Xb (i64.wrap (ai2+864))else k10 () W_ Xa Xb ai3)) (λ_ ai5 ai6 ai7 apl ai8=>k10 () ai5 ai6 ai7 ai8))) (λ_ Jg Ov Ox EB Oy=>(λ(Xg:Unit->Int->(List Int)->Int->Int->Int->Option ay)=>(λ(k34:Unit->Int->(List Int)->Int->Int->Int->Bool->Option ay)=>if decide (Jg=3)=true then if decide (EB>160)=true then k34 () Jg Ov Ox EB Oy (!decide (EB=173))else Xg () Jg Ov Ox EB Oy else Xg () Jg Ov Ox EB Oy) (λ_ Xd Xe Xf aja ajb ajc=>if ajc=true then k10 () Xd Xe Xf (i64.wrap (aja+864))else k10 () Xd Xe Xf ajb)) (λ_ ajd aje ajf apm ajg=>k10 () ajd aje ajf ajg))))) (λ_ Oz Xh Xi OA Xj=>(λ(k44:Unit->Int->(List Int)->Int->Int->Int->Option ay)=>(λ(k37:Unit->Int->(List Int)->Int->Int->Int->Bool->Option ay)=>if decide (Oz=3)=true then k37 () Oz Xh Xi OA Xj (decide (OA=253))else k44 () Oz Xh Xi OA Xj) (λ_ Jh OB OC OD Xk ajj=>if ajj=true then k10 () Jh OB OC 167 else(λ(k41:Unit->Int->(List Int)->Int->Int->Int->Option ay)=>(λ(k38:Unit->Int->(List Int)->Int->Int->Int->Bool->Option ay)=>if decide (Jh=3)=true then k38 () Jh OB OC OD Xk (decide (OD=240))else k41 () Jh OB OC OD Xk) (λ_ EC Ji Jj ED OE ajl=>if ajl=true then k10 () EC Ji Jj 8470 else(λ(Xo:Unit->Int->(List Int)->Int->Int->Int->Option ay)=>(λ(k39:Unit->Int->(List Int)->Int->Int->Int->Bool->Option ay)=>if decide (EC=3)=true then if decide (ED>160)=true then k39 () EC Ji Jj ED OE (!decide (ED=173))else Xo () EC Ji Jj ED OE else Xo () EC Ji Jj ED OE) (λ_ Xl Xm Xn ajn ajo ajp=>if ajp=true then k10 () Xl Xm Xn (i64.wrap (ajn+864))else k10 () Xl Xm Xn ajo)) (λ_ ajt aju ajv apo ajw=>k10 () ajt aju ajv ajw))) (λ_ Jk OG OH EE OI=>(λ(Xt:Unit->Int->(List Int)->Int->Int->Int->Option ay)=>(λ(k42:Unit->Int->(List Int)->Int->Int->Int->Bool->Option ay)=>if decide (Jk=3)=true then if decide (EE>160)=true then k42 () Jk OG OH EE OI (!decide (EE=173))else Xt () Jk OG OH EE OI else Xt () Jk OG OH EE OI) (λ_ Xp Xq Xr ajz ajA ajB=>if ajB=true then k10 () Xp Xq Xr (i64.wrap (ajz+864))else k10 () Xp Xq Xr ajA)) (λ_ ajC ajD ajE apq ajF=>k10 () ajC ajD ajE ajF)))) (λ_ OJ Xu Xv OL Xw=>(λ(k48:Unit->Int->(List Int)->Int->Int->Int->Option ay)=>(λ(k45:Unit->Int->(List Int)->Int->Int->Int->Bool->Option ay)=>if decide (OJ=3)=true then k45 () OJ Xu Xv OL Xw (decide (OL=240))else k48 () OJ Xu Xv OL Xw) (λ_ EF Jl Jm EG OM ajI=>if ajI=true then k10 () EF Jl Jm 8470 else(λ(XA:Unit->Int->(List Int)->Int->Int->Int->Option ay)=>(λ(k46:Unit->Int->(List Int)->Int->Int->Int->Bool->Option ay)=>if decide (EF=3)=true then if decide (EG>160)=true then k46 () EF Jl Jm EG OM (!decide (EG=173))else XA () EF Jl Jm EG OM else XA () EF Jl Jm EG OM) (λ_ Xx Xy Xz ajK ajL ajM=>if ajM=true then k10 () Xx Xy Xz (i64.wrap (ajK+864))else k10 () Xx Xy Xz ajL)) (λ_ ajN ajO ajP apr ajQ=>k10 () ajN ajO ajP ajQ))) (λ_ Jn OO OP EH OQ=>(λ(XG:Unit->Int->(List Int)->Int->Int->Int->Option ay)=>(λ(k49:Unit->Int->(List Int)->Int->Int->Int->Bool->Option ay)=>if decide (Jn=3)=true then if decide (EH>160)=true then k49 () Jn OO OP EH OQ (!decide (EH=173))else XG () Jn OO OP EH OQ else XG () Jn OO OP EH OQ) (λ_ XB XC XD ajT ajU ajV=>if ajV=true then k10 () XB XC XD (i64.wrap (ajT+864))else k10 () XB XC XD ajU)) (λ_ ajY ajZ aj0 aps aj1=>k10 () ajY ajZ aj0 aj1)))))) (λ_ OT XH OU XI XJ=>(λ(k67:Unit->Int->(List Int)->Int->Int->Int->Option ay)=>(λ(k52:Unit->Int->(List Int)->Int->Int->Int->Bool->Option ay)=>if decide (OT=4)=true then k52 () OT XH OU XI XJ (decide (OU=3))else k67 () OT XH OU XI XJ) (λ_ Jo zF OV Jp XK aj4=>if aj4=true then if(16:Int)≠0 then if aX 1 zF.length then if(64:Int)≠0 then if aX 2 zF.length then if(64:Int)≠0 then k10 () Jo zF OV (i64.wrap ((i64.wrap ((i64.wrap ((Jp.tmod 16)*4096))+(i64.wrap (((i64.wrap (zF.getD (1:Int).toNat 0)).tmod 64)*64))))+((i64.wrap (zF.getD (2:Int).toNat 0)).tmod 64)))else none else none else none else none else none else(λ(k60:Unit->Int->(List Int)->Int->Int->Int->Option ay)=>(λ(k53:Unit->Int->(List Int)->Int->Int->Int->Bool->Option ay)=>if decide (Jo=3)=true then k53 () Jo zF OV Jp XK (decide (Jp=253))else k60 () Jo zF OV Jp XK) (λ_ Jq OW OX OY XL aj6=>if aj6=true then k10 () Jq OW OX 167 else(λ(k57:Unit->Int->(List Int)->Int->Int->Int->Option ay)=>(λ(k54:Unit->Int->(List Int)->Int->Int->Int->Bool->Option ay)=>if decide (Jq=3)=true then k54 () Jq OW OX OY XL (decide (OY=240))else k57 () Jq OW OX OY XL) (λ_ EI Jr Js EJ OZ aj8=>if aj8=true then k10 () EI Jr Js 8470 else(λ(XP:Unit->Int->(List Int)->Int->Int->Int->Option ay)=>(λ(k55:Unit->Int->(List Int)->Int->Int->Int->Bool->Option ay)=>if decide (EI=3)=true then if decide (EJ>160)=true then k55 () EI Jr Js EJ OZ (!decide (EJ=173))else XP () EI Jr Js EJ OZ else XP () EI Jr Js EJ OZ) (λ_ XM XN XO aj_ aka akb=>if akb=true then k10 () XM XN XO (i64.wrap (aj_+864))else k10 () XM XN XO aka)) (λ_ akc ake akf apt akg=>k10 () akc ake akf akg))) (λ_ Jt O0 O1 EK O3=>(λ(XU:Unit->Int->(List Int)->Int->Int->Int->Option ay)=>(λ(k58:Unit->Int->(List Int)->Int->Int->Int->Bool->Option ay)=>if decide (Jt=3)=true then if decide (EK>160)=true then k58 () Jt O0 O1 EK O3 (!decide (EK=173))else XU () Jt O0 O1 EK O3 else XU () Jt O0 O1 EK O3) (λ_ XQ XR XT akj akk akl=>if akl=true then k10 () XQ XR XT (i64.wrap (akj+864))else k10 () XQ XR XT akk)) (λ_ akm akn ako apu akp=>k10 () akm akn ako akp)))) (λ_ O4 XV XW O5 XX=>(λ(k64:Unit->Int->(List Int)->Int->Int->Int->Option ay)=>(λ(k61:Unit->Int->(List Int)->Int->Int->Int->Bool->Option ay)=>if decide (O4=3)=true then k61 () O4 XV XW O5 XX (decide (O5=240))else k64 () O4 XV XW O5 XX) (λ_ EL Ju Jv EM O6 akx=>if akx=true then k10 () EL Ju Jv 8470 else(λ(X3:Unit->Int->(List Int)->Int->Int->Int->Option ay)=>(λ(k62:Unit->Int->(List Int)->Int->Int->Int->Bool->Option ay)=>if decide (EL=3)=true then if decide (EM>160)=true then k62 () EL Ju Jv EM O6 (!decide (EM=173))else X3 () EL Ju Jv EM O6 else X3 () EL Ju Jv EM O6) (λ_ XY XZ X0 akz akA akB=>if akB=true then k10 () XY XZ X0 (i64.wrap (akz+864))else k10 () XY XZ X0 akA)) (λ_ akC akD akE apv akF=>k10 () akC akD akE akF))) (λ_ Jw O7 O8 EN O9=>(λ(X7:Unit->Int->(List Int)->Int->Int->Int->Option ay)=>(λ(k65:Unit->Int->(List Int)->Int->Int->Int->Bool->Option ay)=>if decide (Jw=3)=true then if decide (EN>160)=true then k65 () Jw O7 O8 EN O9 (!decide (EN=173))else X7 () Jw O7 O8 EN O9 else X7 () Jw O7 O8 EN O9) (λ_ X4 X5 X6 akI akJ akK=>if akK=true then k10 () X4 X5 X6 (i64.wrap (akI+864))else k10 () X4 X5 X6 akJ)) (λ_ akL akM akN apw akO=>k10 () akL akM akN akO))))) (λ_ O_ X8 X9 Pb X_=>(λ(k75:Unit->Int->(List Int)->Int->Int->Int->Option ay)=>(λ(k68:Unit->Int->(List Int)->Int->Int->Int->Bool->Option ay)=>if decide (O_=3)=true then k68 () O_ X8 X9 Pb X_ (decide (Pb=253))else k75 () O_ X8 X9 Pb X_) (λ_ Jy Pd Pe Pf Ya akR=>if akR=true then k10 () Jy Pd Pe 167 else(λ(k72:Unit->Int->(List Int)->Int->Int->Int->Option ay)=>(λ(k69:Unit->Int->(List Int)->Int->Int->Int->Bool->Option ay)=>if decide (Jy=3)=true then k69 () Jy Pd Pe Pf Ya (decide (Pf=240))else k72 () Jy Pd Pe Pf Ya) (λ_ EO Jz JA EP Pg akT=>if akT=true then k10 () EO Jz JA 8470 else(λ(Ye:Unit->Int->(List Int)->Int->Int->Int->Option ay)=>(λ(k70:Unit->Int->(List Int)->Int->Int->Int->Bool->Option ay)=>if decide (EO=3)=true then if decide (EP>160)=true then k70 () EO Jz JA EP Pg (!decide (EP=173))else Ye () EO Jz JA EP Pg else Ye () EO Jz JA EP Pg) (λ_ Yb Yc Yd akX akY akZ=>if akZ=true then k10 () Yb Yc Yd (i64.wrap (akX+864))else k10 () Yb Yc Yd akY)) (λ_ ak0 ak1 ak2 apx ak3=>k10 () ak0 ak1 ak2 ak3))) (λ_ JB Ph Pj ER Pk=>(λ(Yi:Unit->Int->(List Int)->Int->Int->Int->Option ay)=>(λ(k73:Unit->Int->(List Int)->Int->Int->Int->Bool->Option ay)=>if decide (JB=3)=true then if decide (ER>160)=true then k73 () JB Ph Pj ER Pk (!decide (ER=173))else Yi () JB Ph Pj ER Pk else Yi () JB Ph Pj ER Pk) (λ_ Yf Yg Yh ak6 ak7 ak8=>if ak8=true then k10 () Yf Yg Yh (i64.wrap (ak6+864))else k10 () Yf Yg Yh ak7)) (λ_ ak9 ak_ ala apy alb=>k10 () ak9 ak_ ala alb)))) (λ_ Pm Yj Yk Pn Yl=>(λ(k79:Unit->Int->(List Int)->Int->Int->Int->Option ay)=>(λ(k76:Unit->Int->(List Int)->Int->Int->Int->Bool->Option ay)=>if decide (Pm=3)=true then k76 () Pm Yj Yk Pn Yl (decide (Pn=240))else k79 () Pm Yj Yk Pn Yl) (λ_ ES JC JD ET Po ale=>if ale=true then k10 () ES JC JD 8470 else(λ(Yp:Unit->Int->(List Int)->Int->Int->Int->Option ay)=>(λ(k77:Unit->Int->(List Int)->Int->Int->Int->Bool->Option ay)=>if decide (ES=3)=true then if decide (ET>160)=true then k77 () ES JC JD ET Po (!decide (ET=173))else Yp () ES JC JD ET Po else Yp () ES JC JD ET Po) (λ_ Ym Yn Yo alg alh ali=>if ali=true then k10 () Ym Yn Yo (i64.wrap (alg+864))else k10 () Ym Yn Yo alh)) (λ_ alj alk alm apz aln=>k10 () alj alk alm aln))) (λ_ JE Pp Pq EU Pt=>(λ(Yv:Unit->Int->(List Int)->Int->Int->Int->Option ay)=>(λ(k80:Unit->Int->(List Int)->Int->Int->Int->Bool->Option ay)=>if decide (JE=3)=true then if decide (EU>160)=true then k80 () JE Pp Pq EU Pt (!decide (EU=173))else Yv () JE Pp Pq EU Pt else Yv () JE Pp Pq EU Pt) (λ_ Yr Yt Yu alu alv alx=>if alx=true then k10 () Yr Yt Yu (i64.wrap (alu+864))else k10 () Yr Yt Yu alv)) (λ_ aly alz alA apA alB=>k10 () aly alz alA alB))))))) (λ_ WM WN Ep I5=>(λ(k18:Unit->Int->Int->Option ay)=>(λ(k16:Unit->Int->Int->Bool->Option ay)=>(λ(k12:Unit->Int->Int->Option ay)=>(F8 n WM I5).bind λje=>if(!je.1)=true then k12 () Ep I5 else(CB n WM I5).bind λzO=>if 0<=Ep/\Ep<=(WN.length:Int)then(KU n zO.1 (WN.take Ep.toNat)).bind λiQ=>k16 () Ep I5 (!iQ.1)else none) (λ_ aph api=>(λ(k13:Unit->Int->Int->Option ay)=>k13 () 0 0) (λ_ aiu aiv=>some (aiu,aiv,())))) (λ_ aiw aix aiy=>if aiy=true then(λ(k17:Unit->Int->Int->Option ay)=>k17 () 0 0) (λ_ aiz aiA=>some (aiz,aiA,()))else k18 () aiw aix)) (λ_ aiB aiC=>(λ(k19:Unit->Int->Int->Option ay)=>k19 () aiC aiB) (λ_ aiD aiE=>some (aiD,aiE,())))))))))
def RO:Entry:=⟨83,[.val (.int .i64) [],.val (.sl 5 (.int .u8)) []],[.val (.int .i64) [] [],.val (.int .i64) [] []],λn c=>CF n c.1 c.2.1⟩
theorem acX[Fr][aD.LaidTab prog][aD.LaidErr prog][aT.bG prog](n:Nat):bC prog n RO:=bW mixed bS func83 (by kernel_rfl) (hi:=⟨0,[],[],[],[(112,some 114,RJ),(88,some 119,KI),(113,some 123,RL),(33,some 21,oq)],[],[],[],[]⟩) (aI (acU n) (aI (SI n) (aI (acV n) (aI (oV n) bU)))) (by intro n c;kernel_rfl)
def KV(n:Nat)(a0:Int)(a1:List Int):Option ((List Int)×Bool×Unit):=rounds (λL1 (v1:Int×(List Int)×sJ)=>if decide ((v1.2.1.length:Int)>0)=true then(CF n v1.1 v1.2.1).bind λr2=>if decide (r2.2.1=0)=true then some (([]:List Int),false,())else if(v1.2.2.1.length+[r2.1].length)*8<=140737488355328 then if 0<=r2.2.1/\r2.2.1<=(v1.2.1.length:Int)then L1 (v1.1,v1.2.1.drop r2.2.1.toNat,v1.2.2.1++[r2.1],())else none else none else some (v1.2.2.1,true,())) n (a0,a1,([]:List Int),())
def RP:Entry:=⟨48,[.val (.int .i64) [],.val (.sl 5 (.int .u8)) []],[.own (.sl 2 (.int .i64)) [2] [] [],.val .bool [] []],λn c=>KV n c.1 c.2.1⟩
theorem acY[Fr][aD.LaidTab prog][aD.LaidErr prog][aT.bG prog](n:Nat):bC prog n RP:=bW mixed bS func48 (by kernel_rfl) (hi:=⟨0,[],[(0,[0,1,6],[290])],[],[(83,some 16,RO)],[],[],[],[]⟩) (aI (acX n) bU) (by intro n c;kernel_rfl)
def amh:Go.Shelf.Ren:=⟨fun|145=>84|220=>114|219=>109|217=>129|225=>130|224=>131|267=>132|266=>148|314=>149|n=>n,fun|9=>9|4=>4|59=>110|3=>3|5=>5|46=>136|146=>161|51=>160|n=>n,fun|1=>0|n=>n⟩
theorem amg:Go.Proofs.Lays.n145 prog amh:={
 mixed:=by kernel_rfl
 f145:=func84.trans (congrArg some (by kernel_rfl))
 f217:=func129.trans (congrArg some (by kernel_rfl))
 f219:=func109.trans (congrArg some (by kernel_rfl))
 f220:=func114.trans (congrArg some (by kernel_rfl))
 f224:=func131.trans (congrArg some (by kernel_rfl))
 f225:=func130.trans (congrArg some (by kernel_rfl))
 f266:=func148.trans (congrArg some (by kernel_rfl))
 f267:=func132.trans (congrArg some (by kernel_rfl))
 f314:=func149.trans (congrArg some (by kernel_rfl))
 t3:=Tryz.underlying3
 a3:=Tryz.isAgg3
 z3:=Tryz.sizeOf3
 v3:=Tryz.zeroValue3
 t4:=Tryz.underlying4
 a4:=Tryz.isAgg4
 z4:=Tryz.sizeOf4
 v4:=Tryz.zeroValue4
 t5:=Tryz.underlying5
 a5:=Tryz.isAgg5
 z5:=Tryz.sizeOf5
 v5:=Tryz.zeroValue5
 t9:=Tryz.underlying9
 a9:=Tryz.isAgg9
 z9:=Tryz.sizeOf9
 v9:=Tryz.zeroValue9
 t46:=Tryz.underlying136
 a46:=Tryz.isAgg136
 z46:=Tryz.sizeOf136
 v46:=Tryz.zeroValue136
 t51:=Tryz.underlying160
 a51:=Tryz.isAgg160
 z51:=Tryz.sizeOf160
 v51:=Tryz.zeroValue160
 t59:=Tryz.underlying110
 a59:=Tryz.isAgg110
 z59:=Tryz.sizeOf110
 v59:=Tryz.zeroValue110
 t146:=Tryz.underlying161
 a146:=Tryz.isAgg161
 z146:=Tryz.sizeOf161
 v146:=Tryz.zeroValue161
 g1:=by kernel_rfl }
open Go.Proofs Go.RowKit Go.Lib in
theorem strings_Cut(s sep:ByteArray)(m:Int)(w:World)(hs:s.size<4294967281)(hm:w.cell? ⟨0,0,none⟩=some (.int .i64 m)) :
  Calls prog 84 #[.string s,.string sep] w λe w'=>e=.returned (.tuple #[.string ⟨(Lib.cut s.data.toList sep.data.toList).1.toArray⟩,.string ⟨(Lib.cut s.data.toList sep.data.toList).2.1.toArray⟩,.bool (Lib.cut s.data.toList sep.data.toList).2.2])/\∃n,w'=w.drewN n:=Any.strings_Cut amg s sep m w hs hm
def GI(n:Nat)(a0:List Int)(a1:List Int):Option (List Int×List Int×Bool×Unit):=aT.AR a0 a1
def ZB:List aH:=[.val .str [],.val .str []]
def anQ:List eF:=[.val .str [] [],.val .str [] [],.val .bool [] []]
def RQ:Entry:=⟨84,ZB,anQ,λn (c:Cont (kin ZB))=>GI n c.1 c.2.1⟩
theorem acZ[Fr][aD.LaidTab prog][aD.LaidErr prog][aT.bG prog](n:Nat):bC prog n RQ:=aT.aeC strings_Cut (Go.MuLone.run_callFunc_enter func84 (by kernel_rfl) rfl)
def r_(n:Nat)(a0:List Int):Option (Int×Bool×Unit):=if decide (a0=[42])=true then some (0,true,())else(Gh n a0).bind λr1=>if r1.2.1=true then some (r1.1,decide (r1.1>0),())else some (r1.1,false,())
def KJ:Entry:=⟨85,[.val .str []],[.val (.int .i64) [] [],.val .bool [] []],λn c=>r_ n c.1⟩
theorem SK[Fr][aD.LaidTab prog][aD.LaidErr prog][aT.bG prog](n:Nat):bC prog n KJ:=bW mixed bS func85 (by kernel_rfl) (hi:=⟨0,[],[],[],[(46,some 10,KG)],[],[],[],[]⟩) (aI (SG n) bU) (by intro n c;kernel_rfl)
def KX(n:Nat)(a0:List ay):Option (Int×Unit):=some ((a0.length:Int),())
def RS:Entry:=⟨71,[.val (.sl 96 lS) []],[.val (.int .i64) [] []],λn c=>KX n c.1⟩
theorem ac0[Fr][aD.LaidTab prog][aD.LaidErr prog][aT.bG prog](n:Nat):bC prog n RS:=bW mixed bS func71 (by kernel_rfl) (hi:=H_1) bU (by intro n c;kernel_rfl)
def z8(n:Nat)(a0:List ay):Option (Int×Unit):=(KX n a0).bind λr1=>(mZ n r1.1 1 8).bind λr2=>if(!r2.1)=true then some (2,())else rounds (λL3 (v3:(List ay)×ay)=>if decide (v3.2.2.1<v3.2.1)=true then if aX v3.2.2.1 v3.1.length then(mZ n ((v3.1.getD v3.2.2.1.toNat fI).1) 0 999).bind λr4=>if(!r4.1)=true then some (3,())else(mZ n (((v3.1.getD v3.2.2.1.toNat fI).2).1) 0 999).bind λr5=>if(!r5.1)=true then some (3,())else L3 (v3.1,v3.2.1,i64.wrap (v3.2.2.1+1),())else none else some (0,())) n (a0,(a0.length:Int),0,())
def KL:Entry:=⟨37,[.val (.sl 96 lS) []],[.val (.int .i64) [] []],λn c=>z8 n c.1⟩
theorem SL[Fr][aD.LaidTab prog][aD.LaidErr prog][aT.bG prog](n:Nat):bC prog n KL:=bW mixed bS func37 (by kernel_rfl) (hi:=⟨0,[],[(0,[9,10,11],[])],[],[(71,some 6,RS),(33,some 7,oq),(33,some 17,oq),(33,some 22,oq)],[],[],[],[]⟩) (aI (ac0 n) (aI (oV n) (aI (oV n) (aI (oV n) bU)))) (by intro n c;kernel_rfl)
def Gd(n:Nat)(a0:Int):Option (List Int×Unit):=aD.AU a0
def ZC:List aH:=[.val (.int .i64) []]
def anR:List eF:=[.val .str [] []]
def KM:Entry:=⟨51,ZC,anR,λn (c:Cont (kin ZC))=>Gd n c.1⟩
theorem SN[Fr][aD.LaidTab prog][aD.LaidErr prog][aT.bG prog](n:Nat):bC prog n KM:=aD.aeG UF (Go.MuLone.run_callFunc_enter func51 (by kernel_rfl) rfl)
def CE(n:Nat)(a0:Int):Option sJ:=if decide (a0=0)=true then some ([42],())else(Gd n a0).bind λr1=>some (r1.1,())
def KN:Entry:=⟨89,[.val (.int .i64) []],[.val .str [] []],λn c=>CE n c.1⟩
theorem SQ[Fr][aD.LaidTab prog][aD.LaidErr prog][aT.bG prog](n:Nat):bC prog n KN:=bW mixed bS func89 (by kernel_rfl) (hi:=⟨0,[],[],[],[(51,some 6,KM)],[],[],[],[]⟩) (aI (SN n) bU) (by intro n c;kernel_rfl)
def Ac(n:Nat)(a0:List ay):Option sJ:=rounds (λL1 (v1:(List ay)×Int×Int×(List (List Int))×Unit)=>if decide (v1.2.2.1<v1.2.1)=true then if aX v1.2.2.1 v1.1.length then(CE n ((v1.1.getD v1.2.2.1.toNat fI).1)).bind λr2=>if(!decide (((v1.1.getD v1.2.2.1.toNat fI).1)=(((v1.1.getD v1.2.2.1.toNat fI).2).1)))=true then(CE n (((v1.1.getD v1.2.2.1.toNat fI).2).1)).bind λr3=>if [58].length+r3.1.length<=9223372036854775807 then if r2.1.length+([58]++r3.1).length<=9223372036854775807 then if(v1.2.2.2.1.length+[r2.1++([58]++r3.1)].length)*16<=140737488355328 then L1 (v1.1,v1.2.1,i64.wrap (v1.2.2.1+1),v1.2.2.2.1++[r2.1++([58]++r3.1)],())else none else none else none else if(v1.2.2.2.1.length+[r2.1].length)*16<=140737488355328 then L1 (v1.1,v1.2.1,i64.wrap (v1.2.2.1+1),v1.2.2.2.1++[r2.1],())else none else none else(K7 n v1.2.2.2.1 [44]).bind λr4=>some (r4.1,())) n (a0,(a0.length:Int),0,([]:List (List Int)),())
def KO:Entry:=⟨53,[.val (.sl 96 lS) []],[.val .str [] []],λn c=>Ac n c.1⟩
theorem SS[Fr][aD.LaidTab prog][aD.LaidErr prog][aT.bG prog](n:Nat):bC prog n KO:=bW mixed bS func53 (by kernel_rfl) (hi:=⟨0,[],[(0,[3,8,9,10],[226])],[],[(89,some 16,KN),(89,some 25,KN),(86,some 34,KE)],[],[],[],[]⟩) (aI (SQ n) (aI (SQ n) (aI (SE n) bU))) (by intro n c;kernel_rfl)
def CJ(n:Nat)(a0:List Int):Option ((List ay)×Bool×Unit):=(Af n a0 [44] 9).bind λr1=>rounds (λL2 (v2:(List Int)×(List (List Int))×Int×Int×(List ay)×Unit)=>if decide (v2.2.2.2.1<v2.2.2.1)=true then if aX v2.2.2.2.1 v2.2.1.length then(GI n (v2.2.1.getD v2.2.2.2.1.toNat ([]:List Int)) [58]).bind λr3=>if(!r3.2.2.1)=true then(r_ n r3.1).bind λr4=>(r_ n r3.1).bind λr5=>if(!r4.2.1)=true then some (([]:List ay),false,())else if(!r5.2.1)=true then some (([]:List ay),false,())else if(v2.2.2.2.2.1.length+[(r4.1,r5.1,())].length)*16<=140737488355328 then L2 (v2.1,v2.2.1,v2.2.2.1,i64.wrap (v2.2.2.2.1+1),v2.2.2.2.2.1++[(r4.1,r5.1,())],())else none else(r_ n r3.1).bind λr6=>(r_ n r3.2.1).bind λr7=>if(!r6.2.1)=true then some (([]:List ay),false,())else if(!r7.2.1)=true then some (([]:List ay),false,())else if(v2.2.2.2.2.1.length+[(r6.1,r7.1,())].length)*16<=140737488355328 then L2 (v2.1,v2.2.1,v2.2.2.1,i64.wrap (v2.2.2.2.1+1),v2.2.2.2.2.1++[(r6.1,r7.1,())],())else none else none else(z8 n v2.2.2.2.2.1).bind λr8=>if decide (r8.1=0)=true then(Ac n v2.2.2.2.2.1).bind λr9=>some (v2.2.2.2.2.1,decide (r9.1=v2.1),())else some (v2.2.2.2.2.1,false,())) n (a0,r1.1,(r1.1.length:Int),0,([]:List ay),())
def RU:Entry:=⟨49,[.val .str []],[.own (.sl 96 lS) [96] [] [],.val .bool [] []],λn c=>CJ n c.1⟩
theorem ac1[Fr][aD.LaidTab prog][aD.LaidErr prog][aT.bG prog](n:Nat):bC prog n RU:=bW mixed bS func49 (by kernel_rfl) (hi:=⟨0,[],[(0,[0,4,16,17,18],[450])],[],[(19,some 16,KD),(84,some 24,RQ),(85,some 33,KJ),(85,some 38,KJ),(37,some 56,KL),(53,some 60,KO)],[],[],[],[]⟩) (aI (SC n) (aI (acZ n) (aI (SK n) (aI (SK n) (aI (SL n) (aI (SS n) bU)))))) (by intro n c;kernel_rfl)
def uW:Nat->wW->Option (Int×wW×Unit)
 |0,_=>none
 |n+1,a0=>(if a0.2.2.1=true then some (0,(a0.1,a0.2.1,true,a0.2.2.2),())else(if decide ((a0.2.1.length:Int)>12)=true then some (0,(a0.1,a0.2.1,true,a0.2.2.2),())else((sj n a0).bind λr1=>((CO n [[97,108,108],[102,108,97,103],[115,105,110,99,101],[98,101,102,111,114,101],[108,97,114,103,101,114],[115,117,98,106,101,99,116],[98,111,100,121],[117,105,100],[110,111,116],[97,110,100],[111,114]] r1.1).bind λr2=>(if decide ((i64.wrap (r2.1+1))=2)=true then((sj n r1.2.1).bind λr3=>((F9 n r3.1).bind λr4=>(if r3.2.1.2.2.1=true then(if(r3.2.1.2.1.length+[(i64.wrap (r2.1+1),r4.1.2.1,([]:List Int),([]:List ay),0,0,())].length)*80<=140737488355328 then((jZ n (r3.2.1.2.1++[(i64.wrap (r2.1+1),r4.1.2.1,([]:List Int),([]:List ay),0,0,())])).bind λr5=>some (i64.wrap (r5.1-1),(r3.2.1.1,r3.2.1.2.1++[(i64.wrap (r2.1+1),r4.1.2.1,([]:List Int),([]:List ay),0,0,())],true,r3.2.1.2.2.2),()))else none)else(if(!(decide (r4.1.1=0)))=true then(if(r3.2.1.2.1.length+[(i64.wrap (r2.1+1),r4.1.2.1,([]:List Int),([]:List ay),0,0,())].length)*80<=140737488355328 then((jZ n (r3.2.1.2.1++[(i64.wrap (r2.1+1),r4.1.2.1,([]:List Int),([]:List ay),0,0,())])).bind λr6=>some (i64.wrap (r6.1-1),(r3.2.1.1,r3.2.1.2.1++[(i64.wrap (r2.1+1),r4.1.2.1,([]:List Int),([]:List ay),0,0,())],true,r3.2.1.2.2.2),()))else none)else(if(r3.2.1.2.1.length+[(i64.wrap (r2.1+1),r4.1.2.1,([]:List Int),([]:List ay),0,0,())].length)*80<=140737488355328 then((jZ n (r3.2.1.2.1++[(i64.wrap (r2.1+1),r4.1.2.1,([]:List Int),([]:List ay),0,0,())])).bind λr7=>some (i64.wrap (r7.1-1),(r3.2.1.1,r3.2.1.2.1++[(i64.wrap (r2.1+1),r4.1.2.1,([]:List Int),([]:List ay),0,0,())],decide (r2.1<0),r3.2.1.2.2.2),()))else none)))))else((Ab n (i64.wrap (r2.1+1))).bind λr8=>(if r8.1=true then((sj n r1.2.1).bind λr9=>((Gh n r9.1).bind λkH=>(if r9.2.1.2.2.1=true then(if(r9.2.1.2.1.length+[(i64.wrap (r2.1+1),kH.1,([]:List Int),([]:List ay),0,0,())].length)*80<=140737488355328 then((jZ n (r9.2.1.2.1++[(i64.wrap (r2.1+1),kH.1,([]:List Int),([]:List ay),0,0,())])).bind λje=>some (i64.wrap (je.1-1),(r9.2.1.1,r9.2.1.2.1++[(i64.wrap (r2.1+1),kH.1,([]:List Int),([]:List ay),0,0,())],true,r9.2.1.2.2.2),()))else none)else(if(!kH.2.1)=true then(if(r9.2.1.2.1.length+[(i64.wrap (r2.1+1),kH.1,([]:List Int),([]:List ay),0,0,())].length)*80<=140737488355328 then((jZ n (r9.2.1.2.1++[(i64.wrap (r2.1+1),kH.1,([]:List Int),([]:List ay),0,0,())])).bind λlI=>some (i64.wrap (lI.1-1),(r9.2.1.1,r9.2.1.2.1++[(i64.wrap (r2.1+1),kH.1,([]:List Int),([]:List ay),0,0,())],true,r9.2.1.2.2.2),()))else none)else(if(r9.2.1.2.1.length+[(i64.wrap (r2.1+1),kH.1,([]:List Int),([]:List ay),0,0,())].length)*80<=140737488355328 then((jZ n (r9.2.1.2.1++[(i64.wrap (r2.1+1),kH.1,([]:List Int),([]:List ay),0,0,())])).bind λoL=>some (i64.wrap (oL.1-1),(r9.2.1.1,r9.2.1.2.1++[(i64.wrap (r2.1+1),kH.1,([]:List Int),([]:List ay),0,0,())],decide (r2.1<0),r9.2.1.2.2.2),()))else none)))))else((wF n (i64.wrap (r2.1+1))).bind λzO=>(if zO.1=true then((sj n r1.2.1).bind λiQ=>((KV n 4 iQ.1).bind λr16=>(if iQ.2.1.2.2.1=true then(if(iQ.2.1.2.1.length+[(i64.wrap (r2.1+1),0,r16.1,([]:List ay),0,0,())].length)*80<=140737488355328 then((jZ n (iQ.2.1.2.1++[(i64.wrap (r2.1+1),0,r16.1,([]:List ay),0,0,())])).bind λrQ=>some (i64.wrap (rQ.1-1),(iQ.2.1.1,iQ.2.1.2.1++[(i64.wrap (r2.1+1),0,r16.1,([]:List ay),0,0,())],true,iQ.2.1.2.2.2),()))else none)else(if(!r16.2.1)=true then(if(iQ.2.1.2.1.length+[(i64.wrap (r2.1+1),0,r16.1,([]:List ay),0,0,())].length)*80<=140737488355328 then((jZ n (iQ.2.1.2.1++[(i64.wrap (r2.1+1),0,r16.1,([]:List ay),0,0,())])).bind λFy=>some (i64.wrap (Fy.1-1),(iQ.2.1.1,iQ.2.1.2.1++[(i64.wrap (r2.1+1),0,r16.1,([]:List ay),0,0,())],true,iQ.2.1.2.2.2),()))else none)else(if(iQ.2.1.2.1.length+[(i64.wrap (r2.1+1),0,r16.1,([]:List ay),0,0,())].length)*80<=140737488355328 then((jZ n (iQ.2.1.2.1++[(i64.wrap (r2.1+1),0,r16.1,([]:List ay),0,0,())])).bind λrR=>some (i64.wrap (rR.1-1),(iQ.2.1.1,iQ.2.1.2.1++[(i64.wrap (r2.1+1),0,r16.1,([]:List ay),0,0,())],decide (r2.1<0),iQ.2.1.2.2.2),()))else none)))))else(if decide ((i64.wrap (r2.1+1))=8)=true then((sj n r1.2.1).bind λlJ=>((CJ n lJ.1).bind λlK=>(if lJ.2.1.2.2.1=true then(if(lJ.2.1.2.1.length+[(i64.wrap (r2.1+1),0,([]:List Int),lK.1,0,0,())].length)*80<=140737488355328 then((jZ n (lJ.2.1.2.1++[(i64.wrap (r2.1+1),0,([]:List Int),lK.1,0,0,())])).bind λFz=>some (i64.wrap (Fz.1-1),(lJ.2.1.1,lJ.2.1.2.1++[(i64.wrap (r2.1+1),0,([]:List Int),lK.1,0,0,())],true,lJ.2.1.2.2.2),()))else none)else(if(!lK.2.1)=true then(if(lJ.2.1.2.1.length+[(i64.wrap (r2.1+1),0,([]:List Int),lK.1,0,0,())].length)*80<=140737488355328 then((jZ n (lJ.2.1.2.1++[(i64.wrap (r2.1+1),0,([]:List Int),lK.1,0,0,())])).bind λJ2=>some (i64.wrap (J2.1-1),(lJ.2.1.1,lJ.2.1.2.1++[(i64.wrap (r2.1+1),0,([]:List Int),lK.1,0,0,())],true,lJ.2.1.2.2.2),()))else none)else(if(lJ.2.1.2.1.length+[(i64.wrap (r2.1+1),0,([]:List Int),lK.1,0,0,())].length)*80<=140737488355328 then((jZ n (lJ.2.1.2.1++[(i64.wrap (r2.1+1),0,([]:List Int),lK.1,0,0,())])).bind λQh=>some (i64.wrap (Qh.1-1),(lJ.2.1.1,lJ.2.1.2.1++[(i64.wrap (r2.1+1),0,([]:List Int),lK.1,0,0,())],decide (r2.1<0),lJ.2.1.2.2.2),()))else none)))))else(if decide ((i64.wrap (r2.1+1))=9)=true then((uW n r1.2.1).bind λjw=>(if jw.2.1.2.2.1=true then(if(jw.2.1.2.1.length+[(i64.wrap (r2.1+1),0,([]:List Int),([]:List ay),jw.1,0,())].length)*80<=140737488355328 then((jZ n (jw.2.1.2.1++[(i64.wrap (r2.1+1),0,([]:List Int),([]:List ay),jw.1,0,())])).bind λFB=>some (i64.wrap (FB.1-1),(jw.2.1.1,jw.2.1.2.1++[(i64.wrap (r2.1+1),0,([]:List Int),([]:List ay),jw.1,0,())],true,jw.2.1.2.2.2),()))else none)else(if(jw.2.1.2.1.length+[(i64.wrap (r2.1+1),0,([]:List Int),([]:List ay),jw.1,0,())].length)*80<=140737488355328 then((jZ n (jw.2.1.2.1++[(i64.wrap (r2.1+1),0,([]:List Int),([]:List ay),jw.1,0,())])).bind λrU=>some (i64.wrap (rU.1-1),(jw.2.1.1,jw.2.1.2.1++[(i64.wrap (r2.1+1),0,([]:List Int),([]:List ay),jw.1,0,())],decide (r2.1<0),jw.2.1.2.2.2),()))else none)))else(if decide ((i64.wrap (r2.1+1))>9)=true then((uW n r1.2.1).bind λtV=>((uW n tV.2.1).bind λjy=>(if jy.2.1.2.2.1=true then(if(jy.2.1.2.1.length+[(i64.wrap (r2.1+1),0,([]:List Int),([]:List ay),tV.1,jy.1,())].length)*80<=140737488355328 then((jZ n (jy.2.1.2.1++[(i64.wrap (r2.1+1),0,([]:List Int),([]:List ay),tV.1,jy.1,())])).bind λFC=>some (i64.wrap (FC.1-1),(jy.2.1.1,jy.2.1.2.1++[(i64.wrap (r2.1+1),0,([]:List Int),([]:List ay),tV.1,jy.1,())],true,jy.2.1.2.2.2),()))else none)else(if(jy.2.1.2.1.length+[(i64.wrap (r2.1+1),0,([]:List Int),([]:List ay),tV.1,jy.1,())].length)*80<=140737488355328 then((jZ n (jy.2.1.2.1++[(i64.wrap (r2.1+1),0,([]:List Int),([]:List ay),tV.1,jy.1,())])).bind λrV=>some (i64.wrap (rV.1-1),(jy.2.1.1,jy.2.1.2.1++[(i64.wrap (r2.1+1),0,([]:List Int),([]:List ay),tV.1,jy.1,())],decide (r2.1<0),jy.2.1.2.2.2),()))else none))))else(if r1.2.1.2.2.1=true then(if(r1.2.1.2.1.length+[(i64.wrap (r2.1+1),0,([]:List Int),([]:List ay),0,0,())].length)*80<=140737488355328 then((jZ n (r1.2.1.2.1++[(i64.wrap (r2.1+1),0,([]:List Int),([]:List ay),0,0,())])).bind λr32=>some (i64.wrap (r32.1-1),(r1.2.1.1,r1.2.1.2.1++[(i64.wrap (r2.1+1),0,([]:List Int),([]:List ay),0,0,())],true,r1.2.1.2.2.2),()))else none)else(if(r1.2.1.2.1.length+[(i64.wrap (r2.1+1),0,([]:List Int),([]:List ay),0,0,())].length)*80<=140737488355328 then((jZ n (r1.2.1.2.1++[(i64.wrap (r2.1+1),0,([]:List Int),([]:List ay),0,0,())])).bind λr33=>some (i64.wrap (r33.1-1),(r1.2.1.1,r1.2.1.2.1++[(i64.wrap (r2.1+1),0,([]:List Int),([]:List ay),0,0,())],decide (r2.1<0),r1.2.1.2.2.2),()))else none))))))))))))))
def JX:List aH:=[.rw Hq [2,51,96] [2,51,96,4294967295] [2,9,51,96]]
def Z9:List eF:=[.val (.int .i64) [] []]
def yc:Entry:=⟨20,JX,Z9,λn (c:Cont (kin JX))=>uW n c.1⟩
def Sz:Hint:=⟨0,[115,116],[],[],[(42,some 25,zZ),(43,some 28,RF),(42,some 37,zZ),(44,some 38,RH),(22,some 125,Cw),(45,some 48,F6),(42,some 51,zZ),(46,some 52,KG),(47,some 59,Cy),(42,some 62,zZ),(48,some 64,RP),(42,some 74,zZ),(49,some 75,RU),(20,some 84,yc),(20,some 91,yc),(20,some 94,yc)],[],[],[],[]⟩
theorem aa3:∀n (c:Cont (kin JX)),vK T Sz Tryz.f20 JX Z9 n c=yc.F (n+1) c:=by intro n c;kernel_rfl
theorem GM[Fr][aD.LaidTab prog][aD.LaidErr prog][aT.bG prog]:∀(n:Nat),bC prog n yc
 |0=>Kt λc=>rfl
 |n+1=>J5 mixed bS (E:=yc) func20 (by kernel_rfl) (hi:=Sz) (aI (CW n) (aI (acQ n) (aI (CW n) (aI (acS n) (aI (GK n) (aI (Le n) (aI (CW n) (aI (SG n) (aI (GL n) (aI (CW n) (aI (acY n) (aI (CW n) (aI (ac1 n) (aI (GM n) (aI (GM n) (aI (GM n) bU)))))))))))))))) (aa3 n)
def Gb(n:Nat)(a0:bn):Option (Bool×Unit):=(Ab n a0.1).bind λr1=>if r1.1=true then(wF n a0.1).bind λr2=>if r2.1=true then if decide (a0.1=8)=true then if decide (a0.1>=10)=true then if decide (a0.1>=10)=true then some (true,())else some (decide (a0.2.2.2.2.2.1=0),())else if decide (a0.1=9)=true then if decide (a0.1>=10)=true then some (true,())else some (decide (a0.2.2.2.2.2.1=0),())else if decide (a0.2.2.2.2.1=0)=true then if decide (a0.1>=10)=true then some (true,())else some (decide (a0.2.2.2.2.2.1=0),())else some (false,())else if decide ((a0.2.2.2.1.length:Int)=0)=true then if decide (a0.1>=10)=true then if decide (a0.1>=10)=true then some (true,())else some (decide (a0.2.2.2.2.2.1=0),())else if decide (a0.1=9)=true then if decide (a0.1>=10)=true then some (true,())else some (decide (a0.2.2.2.2.2.1=0),())else if decide (a0.2.2.2.2.1=0)=true then if decide (a0.1>=10)=true then some (true,())else some (decide (a0.2.2.2.2.2.1=0),())else some (false,())else some (false,())else if decide ((a0.2.2.1.length:Int)=0)=true then if decide (a0.1=8)=true then if decide (a0.1>=10)=true then if decide (a0.1>=10)=true then some (true,())else some (decide (a0.2.2.2.2.2.1=0),())else if decide (a0.1=9)=true then if decide (a0.1>=10)=true then some (true,())else some (decide (a0.2.2.2.2.2.1=0),())else if decide (a0.2.2.2.2.1=0)=true then if decide (a0.1>=10)=true then some (true,())else some (decide (a0.2.2.2.2.2.1=0),())else some (false,())else if decide ((a0.2.2.2.1.length:Int)=0)=true then if decide (a0.1>=10)=true then if decide (a0.1>=10)=true then some (true,())else some (decide (a0.2.2.2.2.2.1=0),())else if decide (a0.1=9)=true then if decide (a0.1>=10)=true then some (true,())else some (decide (a0.2.2.2.2.2.1=0),())else if decide (a0.2.2.2.2.1=0)=true then if decide (a0.1>=10)=true then some (true,())else some (decide (a0.2.2.2.2.2.1=0),())else some (false,())else some (false,())else some (false,())else if decide (a0.2.1=0)=true then(wF n a0.1).bind λr3=>if r3.1=true then if decide (a0.1=8)=true then if decide (a0.1>=10)=true then if decide (a0.1>=10)=true then some (true,())else some (decide (a0.2.2.2.2.2.1=0),())else if decide (a0.1=9)=true then if decide (a0.1>=10)=true then some (true,())else some (decide (a0.2.2.2.2.2.1=0),())else if decide (a0.2.2.2.2.1=0)=true then if decide (a0.1>=10)=true then some (true,())else some (decide (a0.2.2.2.2.2.1=0),())else some (false,())else if decide ((a0.2.2.2.1.length:Int)=0)=true then if decide (a0.1>=10)=true then if decide (a0.1>=10)=true then some (true,())else some (decide (a0.2.2.2.2.2.1=0),())else if decide (a0.1=9)=true then if decide (a0.1>=10)=true then some (true,())else some (decide (a0.2.2.2.2.2.1=0),())else if decide (a0.2.2.2.2.1=0)=true then if decide (a0.1>=10)=true then some (true,())else some (decide (a0.2.2.2.2.2.1=0),())else some (false,())else some (false,())else if decide ((a0.2.2.1.length:Int)=0)=true then if decide (a0.1=8)=true then if decide (a0.1>=10)=true then if decide (a0.1>=10)=true then some (true,())else some (decide (a0.2.2.2.2.2.1=0),())else if decide (a0.1=9)=true then if decide (a0.1>=10)=true then some (true,())else some (decide (a0.2.2.2.2.2.1=0),())else if decide (a0.2.2.2.2.1=0)=true then if decide (a0.1>=10)=true then some (true,())else some (decide (a0.2.2.2.2.2.1=0),())else some (false,())else if decide ((a0.2.2.2.1.length:Int)=0)=true then if decide (a0.1>=10)=true then if decide (a0.1>=10)=true then some (true,())else some (decide (a0.2.2.2.2.2.1=0),())else if decide (a0.1=9)=true then if decide (a0.1>=10)=true then some (true,())else some (decide (a0.2.2.2.2.2.1=0),())else if decide (a0.2.2.2.2.1=0)=true then if decide (a0.1>=10)=true then some (true,())else some (decide (a0.2.2.2.2.2.1=0),())else some (false,())else some (false,())else some (false,())else some (false,())
def RX:Entry:=⟨34,[.val jP []],[.val .bool [] []],λn c=>Gb n c.1⟩
theorem ac3[Fr][aD.LaidTab prog][aD.LaidErr prog][aT.bG prog](n:Nat):bC prog n RX:=bW mixed bS func34 (by kernel_rfl) (hi:=⟨0,[],[],[],[(45,some 9,F6),(47,some 18,Cy)],[],[],[],[]⟩) (aI (Le n) (aI (GL n) bU)) (by intro n c;kernel_rfl)
def Gg(n:Nat)(a0:Int):Option (Bool×Unit):=(mZ n a0 0 9999).bind λr1=>some (r1.1,())
def RY:Entry:=⟨66,[.val (.int .i64) []],[.val .bool [] []],λn c=>Gg n c.1⟩
theorem ac4[Fr][aD.LaidTab prog][aD.LaidErr prog][aT.bG prog](n:Nat):bC prog n RY:=bW mixed bS func66 (by kernel_rfl) (hi:=abB) (aI (oV n) bU) (by intro n c;kernel_rfl)
def Ga(n:Nat)(a0:bn):Option (Bool×Unit):=if decide (a0.1=2)=true then if decide (a0.2.1=1)=true then some (true,())else if decide (a0.2.1=2)=true then some (true,())else if decide (a0.2.1=4)=true then some (true,())else some (decide (a0.2.1=8),())else if decide (a0.1=3)=true then if decide (a0.1=3)=true then(Gg n a0.2.1).bind λr1=>some (r1.1,())else if decide (a0.1=5)=true then(mZ n a0.2.1 0 400).bind λr2=>some (r2.1,())else some (true,())else if decide (a0.1=4)=true then(Gg n a0.2.1).bind λr3=>some (r3.1,())else if decide (a0.1=5)=true then(mZ n a0.2.1 0 400).bind λr4=>some (r4.1,())else some (true,())
def RZ:Entry:=⟨35,[.val jP []],[.val .bool [] []],λn c=>Ga n c.1⟩
theorem ac5[Fr][aD.LaidTab prog][aD.LaidErr prog][aT.bG prog](n:Nat):bC prog n RZ:=bW mixed bS func35 (by kernel_rfl) (hi:=⟨0,[],[],[],[(66,some 30,RY),(33,some 35,oq)],[],[],[],[]⟩) (aI (ac4 n) (aI (oV n) bU)) (by intro n c;kernel_rfl)
def KY(n:Nat)(a0:List Int):Option (Int×Unit):=some ((a0.length:Int),())
def R3:Entry:=⟨67,[.val (.sl 2 (.int .i64)) []],[.val (.int .i64) [] []],λn c=>KY n c.1⟩
theorem ac6[Fr][aD.LaidTab prog][aD.LaidErr prog][aT.bG prog](n:Nat):bC prog n R3:=bW mixed bS func67 (by kernel_rfl) (hi:=H_1) bU (by intro n c;kernel_rfl)
def Cz(n:Nat)(a0:Int):Option (Bool×Unit):=(CG n a0).bind λr1=>if(!r1.1)=true then some (true,())else if decide (a0<33)=true then some (true,())else some (decide (a0=127),())
def R4:Entry:=⟨69,[.val (.int .i64) []],[.val .bool [] []],λn c=>Cz n c.1⟩
theorem ac7[Fr][aD.LaidTab prog][aD.LaidErr prog][aT.bG prog](n:Nat):bC prog n R4:=bW mixed bS func69 (by kernel_rfl) (hi:=⟨0,[],[],[],[(70,some 4,KH)],[],[],[],[]⟩) (aI (SH n) bU) (by intro n c;kernel_rfl)
def K3(n:Nat)(a0:List Int):Option (Int×Unit):=rounds (λL1 (v1:(List Int)×ay)=>if decide (v1.2.2.1<v1.2.1)=true then if aX v1.2.2.1 v1.1.length then(Cz n (v1.1.getD v1.2.2.1.toNat 0)).bind λr2=>if r2.1=true then some (v1.2.2.1,())else L1 (v1.1,v1.2.1,i64.wrap (v1.2.2.1+1),())else none else some ((-1),())) n (a0,(a0.length:Int),0,())
def R5:Entry:=⟨101,[.val (.sl 2 (.int .i64)) [],.fn 69 []],[.val (.int .i64) [] []],λn c=>K3 n c.1⟩
theorem ac8[Fr][aD.LaidTab prog][aD.LaidErr prog][aT.bG prog](n:Nat):bC prog n R5:=bW mixed bS func101 (by kernel_rfl) (hi:=⟨0,[],[(0,[0,1,7,8],[])],[],[(69,some 16,R4)],[],[],[],[]⟩) (aI (ac7 n) bU) (by intro n c;kernel_rfl)
def Gw(n:Nat)(a0:List Int):Option (Bool×Unit):=(K3 n a0).bind λr1=>some (decide (r1.1>=0),())
def R6:Entry:=⟨68,[.val (.sl 2 (.int .i64)) [],.fn 69 []],[.val .bool [] []],λn c=>Gw n c.1⟩
theorem ac9[Fr][aD.LaidTab prog][aD.LaidErr prog][aT.bG prog](n:Nat):bC prog n R6:=bW mixed bS func68 (by kernel_rfl) (hi:=⟨0,[],[],[],[(101,some 7,R5)],[],[],[],[]⟩) (aI (ac8 n) bU) (by intro n c;kernel_rfl)
def F_(n:Nat)(a0:bn):Option (Bool×Unit):=(wF n a0.1).bind λr1=>if(!r1.1)=true then some (true,())else(KY n a0.2.2.1).bind λr2=>(mZ n r2.1 1 20).bind λr3=>if r3.1=true then(Gw n a0.2.2.1).bind λr4=>some (!r4.1,())else some (false,())
def R7:Entry:=⟨36,[.val jP []],[.val .bool [] []],λn c=>F_ n c.1⟩
theorem ac_[Fr][aD.LaidTab prog][aD.LaidErr prog][aT.bG prog](n:Nat):bC prog n R7:=bW mixed bS func36 (by kernel_rfl) (hi:=⟨0,[],[],[],[(47,some 5,Cy),(67,some 9,R3),(33,some 10,oq),(68,some 14,R6)],[],[],[],[]⟩) (aI (GL n) (aI (ac6 n) (aI (oV n) (aI (ac9 n) bU)))) (by intro n c;kernel_rfl)
def z_(n:Nat)(a0:List bn):Option (Int×Unit):=(jZ n a0).bind λr1=>(mZ n r1.1 1 12).bind λr2=>if(!r2.1)=true then some (2,())else rounds (λL3 (v3:(List bn)×(List bn)×Int×Dh)=>if decide (v3.2.2.2.1<v3.2.2.1)=true then if aX v3.2.2.2.1 v3.2.1.length then(mZ n ((v3.2.1.getD v3.2.2.2.1.toNat aJ).1) 1 11).bind λr4=>if(!r4.1)=true then some (1,())else(Gb n (v3.2.1.getD v3.2.2.2.1.toNat aJ)).bind λr5=>if(!r5.1)=true then some (1,())else(Ga n (v3.2.1.getD v3.2.2.2.1.toNat aJ)).bind λr6=>if(!r6.1)=true then some (3,())else(F_ n (v3.2.1.getD v3.2.2.2.1.toNat aJ)).bind λr7=>if(!r7.1)=true then some (3,())else if decide (((v3.2.1.getD v3.2.2.2.1.toNat aJ).1)=8)=true then(z8 n (((((v3.2.1.getD v3.2.2.2.1.toNat aJ).2).2).2).1)).bind λr8=>if(!decide (r8.1=0))=true then some (r8.1,())else if decide (((v3.2.1.getD v3.2.2.2.1.toNat aJ).1)=9)=true then if decide (v3.2.2.2.1=0)=true then some (1,())else if(!decide (((((((v3.2.1.getD v3.2.2.2.1.toNat aJ).2).2).2).2).1)=(i64.wrap (v3.2.2.2.1-1))))=true then some (1,())else if aX (i64.wrap (v3.2.2.2.1-1)) v3.2.2.2.2.1.length then if(v3.2.2.2.2.1.length+[i64.wrap ((1:Int)+(v3.2.2.2.2.1.getD (i64.wrap (v3.2.2.2.1-1)).toNat 0))].length)*8<=140737488355328 then L3 (v3.1,v3.2.1,v3.2.2.1,i64.wrap (v3.2.2.2.1+1),v3.2.2.2.2.1++[i64.wrap ((1:Int)+(v3.2.2.2.2.1.getD (i64.wrap (v3.2.2.2.1-1)).toNat 0))],())else none else none else if decide (((v3.2.1.getD v3.2.2.2.1.toNat aJ).1)>9)=true then if decide (v3.2.2.2.1<2)=true then some (1,())else if(!decide ((((((((v3.2.1.getD v3.2.2.2.1.toNat aJ).2).2).2).2).2).1)=(i64.wrap (v3.2.2.2.1-1))))=true then some (1,())else if decide (((((((v3.2.1.getD v3.2.2.2.1.toNat aJ).2).2).2).2).1)<0)=true then some (1,())else if aX (i64.wrap (v3.2.2.2.1-1)) v3.2.2.2.2.1.length then if(!decide (((((((v3.2.1.getD v3.2.2.2.1.toNat aJ).2).2).2).2).1)=(i64.wrap ((i64.wrap (v3.2.2.2.1-1))-(v3.2.2.2.2.1.getD (i64.wrap (v3.2.2.2.1-1)).toNat 0)))))=true then some (1,())else if aX (i64.wrap (v3.2.2.2.1-1)) v3.2.2.2.2.1.length then if aX ((((((v3.2.1.getD v3.2.2.2.1.toNat aJ).2).2).2).2).1) v3.2.2.2.2.1.length then if(v3.2.2.2.2.1.length+[i64.wrap ((1:Int)+(i64.wrap ((v3.2.2.2.2.1.getD (i64.wrap (v3.2.2.2.1-1)).toNat 0)+(v3.2.2.2.2.1.getD ((((((v3.2.1.getD v3.2.2.2.1.toNat aJ).2).2).2).2).1).toNat 0))))].length)*8<=140737488355328 then L3 (v3.1,v3.2.1,v3.2.2.1,i64.wrap (v3.2.2.2.1+1),v3.2.2.2.2.1++[i64.wrap ((1:Int)+(i64.wrap ((v3.2.2.2.2.1.getD (i64.wrap (v3.2.2.2.1-1)).toNat 0)+(v3.2.2.2.2.1.getD ((((((v3.2.1.getD v3.2.2.2.1.toNat aJ).2).2).2).2).1).toNat 0))))],())else none else none else none else none else if(v3.2.2.2.2.1.length+[(1:Int)].length)*8<=140737488355328 then L3 (v3.1,v3.2.1,v3.2.2.1,i64.wrap (v3.2.2.2.1+1),v3.2.2.2.2.1++[(1:Int)],())else none else if decide (((v3.2.1.getD v3.2.2.2.1.toNat aJ).1)=9)=true then if decide (v3.2.2.2.1=0)=true then some (1,())else if(!decide (((((((v3.2.1.getD v3.2.2.2.1.toNat aJ).2).2).2).2).1)=(i64.wrap (v3.2.2.2.1-1))))=true then some (1,())else if aX (i64.wrap (v3.2.2.2.1-1)) v3.2.2.2.2.1.length then if(v3.2.2.2.2.1.length+[i64.wrap ((1:Int)+(v3.2.2.2.2.1.getD (i64.wrap (v3.2.2.2.1-1)).toNat 0))].length)*8<=140737488355328 then L3 (v3.1,v3.2.1,v3.2.2.1,i64.wrap (v3.2.2.2.1+1),v3.2.2.2.2.1++[i64.wrap ((1:Int)+(v3.2.2.2.2.1.getD (i64.wrap (v3.2.2.2.1-1)).toNat 0))],())else none else none else if decide (((v3.2.1.getD v3.2.2.2.1.toNat aJ).1)>9)=true then if decide (v3.2.2.2.1<2)=true then some (1,())else if(!decide ((((((((v3.2.1.getD v3.2.2.2.1.toNat aJ).2).2).2).2).2).1)=(i64.wrap (v3.2.2.2.1-1))))=true then some (1,())else if decide (((((((v3.2.1.getD v3.2.2.2.1.toNat aJ).2).2).2).2).1)<0)=true then some (1,())else if aX (i64.wrap (v3.2.2.2.1-1)) v3.2.2.2.2.1.length then if(!decide (((((((v3.2.1.getD v3.2.2.2.1.toNat aJ).2).2).2).2).1)=(i64.wrap ((i64.wrap (v3.2.2.2.1-1))-(v3.2.2.2.2.1.getD (i64.wrap (v3.2.2.2.1-1)).toNat 0)))))=true then some (1,())else if aX (i64.wrap (v3.2.2.2.1-1)) v3.2.2.2.2.1.length then if aX ((((((v3.2.1.getD v3.2.2.2.1.toNat aJ).2).2).2).2).1) v3.2.2.2.2.1.length then if(v3.2.2.2.2.1.length+[i64.wrap ((1:Int)+(i64.wrap ((v3.2.2.2.2.1.getD (i64.wrap (v3.2.2.2.1-1)).toNat 0)+(v3.2.2.2.2.1.getD ((((((v3.2.1.getD v3.2.2.2.1.toNat aJ).2).2).2).2).1).toNat 0))))].length)*8<=140737488355328 then L3 (v3.1,v3.2.1,v3.2.2.1,i64.wrap (v3.2.2.2.1+1),v3.2.2.2.2.1++[i64.wrap ((1:Int)+(i64.wrap ((v3.2.2.2.2.1.getD (i64.wrap (v3.2.2.2.1-1)).toNat 0)+(v3.2.2.2.2.1.getD ((((((v3.2.1.getD v3.2.2.2.1.toNat aJ).2).2).2).2).1).toNat 0))))],())else none else none else none else none else if(v3.2.2.2.2.1.length+[(1:Int)].length)*8<=140737488355328 then L3 (v3.1,v3.2.1,v3.2.2.1,i64.wrap (v3.2.2.2.1+1),v3.2.2.2.2.1++[(1:Int)],())else none else none else if aX (i64.wrap ((v3.1.length:Int)-1)) v3.2.2.2.2.1.length then(jZ n v3.1).bind λr9=>if(!decide ((v3.2.2.2.2.1.getD (i64.wrap ((v3.1.length:Int)-1)).toNat 0)=r9.1))=true then some (1,())else some (0,())else none) n (a0,a0,(a0.length:Int),0,([]:List Int),())
def R8:Entry:=⟨15,[.val (.sl 51 jP) []],[.val (.int .i64) [] []],λn c=>z_ n c.1⟩
theorem ada[Fr][aD.LaidTab prog][aD.LaidErr prog][aT.bG prog](n:Nat):bC prog n R8:=bW mixed bS func15 (by kernel_rfl) (hi:=⟨0,[],[(0,[0,3,14,15,16],[418])],[],[(22,some 10,Cw),(33,some 11,oq),(33,some 25,oq),(34,some 29,RX),(35,some 34,RZ),(36,some 38,R7),(37,some 46,KL),(22,some 126,Cw)],[],[],[],[]⟩) (aI (GK n) (aI (oV n) (aI (oV n) (aI (ac3 n) (aI (ac5 n) (aI (ac_ n) (aI (SL n) (aI (GK n) bU)))))))) (by intro n c;kernel_rfl)
def Gf(n:Nat)(a0:Int)(a1:List Int):Option sJ:=rounds (λL1 (v1:Int×(List Int)×Int×Dh)=>if decide (v1.2.2.2.1<v1.2.2.1)=true then if aX v1.2.2.2.1 v1.2.1.length then(CB n v1.1 (v1.2.1.getD v1.2.2.2.1.toNat 0)).bind λr2=>if(v1.2.2.2.2.1.length+r2.1.length)*1<=140737488355328 then L1 (v1.1,v1.2.1,v1.2.2.1,i64.wrap (v1.2.2.2.1+1),v1.2.2.2.2.1++r2.1,())else none else none else some (v1.2.2.2.2.1,())) n (a0,a1,(a1.length:Int),0,([]:List Int),())
def R_:Entry:=⟨52,[.val (.int .i64) [],.val (.sl 2 (.int .i64)) []],[.own (.sl 5 (.int .u8)) [5] [] []],λn c=>Gf n c.1 c.2.1⟩
theorem ade[Fr][aD.LaidTab prog][aD.LaidErr prog][aT.bG prog](n:Nat):bC prog n R_:=bW mixed bS func52 (by kernel_rfl) (hi:=⟨0,[],[(0,[0,5,9,10,11],[258])],[],[(88,some 18,KI)],[],[],[],[]⟩) (aI (SI n) bU) (by intro n c;kernel_rfl)
def um:Nat->(List bn)->Int->Option sJ
 |0,_,_=>none
 |n+1,a0,a1=>(if aX a1 a0.length then(if aX (i64.wrap (((a0.getD a1.toNat aJ).1)-1)) [[97,108,108],[102,108,97,103],[115,105,110,99,101],[98,101,102,111,114,101],[108,97,114,103,101,114],[115,117,98,106,101,99,116],[98,111,100,121],[117,105,100],[110,111,116],[97,110,100],[111,114]].length then(if decide (((a0.getD a1.toNat aJ).1)=2)=true then((Aa n (((a0.getD a1.toNat aJ).2).1)).bind λr1=>(if [32].length+r1.1.length<=9223372036854775807 then(if([[97,108,108],[102,108,97,103],[115,105,110,99,101],[98,101,102,111,114,101],[108,97,114,103,101,114],[115,117,98,106,101,99,116],[98,111,100,121],[117,105,100],[110,111,116],[97,110,100],[111,114]].getD (i64.wrap (((a0.getD a1.toNat aJ).1)-1)).toNat ([]:List Int)).length+([32]++r1.1).length<=9223372036854775807 then some (([[97,108,108],[102,108,97,103],[115,105,110,99,101],[98,101,102,111,114,101],[108,97,114,103,101,114],[115,117,98,106,101,99,116],[98,111,100,121],[117,105,100],[110,111,116],[97,110,100],[111,114]].getD (i64.wrap (((a0.getD a1.toNat aJ).1)-1)).toNat ([]:List Int))++([32]++r1.1),())else none)else none))else((Ab n ((a0.getD a1.toNat aJ).1)).bind λr2=>(if r2.1=true then((Gd n (((a0.getD a1.toNat aJ).2).1)).bind λr3=>(if [32].length+r3.1.length<=9223372036854775807 then(if([[97,108,108],[102,108,97,103],[115,105,110,99,101],[98,101,102,111,114,101],[108,97,114,103,101,114],[115,117,98,106,101,99,116],[98,111,100,121],[117,105,100],[110,111,116],[97,110,100],[111,114]].getD (i64.wrap (((a0.getD a1.toNat aJ).1)-1)).toNat ([]:List Int)).length+([32]++r3.1).length<=9223372036854775807 then some (([[97,108,108],[102,108,97,103],[115,105,110,99,101],[98,101,102,111,114,101],[108,97,114,103,101,114],[115,117,98,106,101,99,116],[98,111,100,121],[117,105,100],[110,111,116],[97,110,100],[111,114]].getD (i64.wrap (((a0.getD a1.toNat aJ).1)-1)).toNat ([]:List Int))++([32]++r3.1),())else none)else none))else((wF n ((a0.getD a1.toNat aJ).1)).bind λr4=>(if r4.1=true then((Gf n 4 ((((a0.getD a1.toNat aJ).2).2).1)).bind λr5=>(if [32].length+r5.1.length<=9223372036854775807 then(if([[97,108,108],[102,108,97,103],[115,105,110,99,101],[98,101,102,111,114,101],[108,97,114,103,101,114],[115,117,98,106,101,99,116],[98,111,100,121],[117,105,100],[110,111,116],[97,110,100],[111,114]].getD (i64.wrap (((a0.getD a1.toNat aJ).1)-1)).toNat ([]:List Int)).length+([32]++r5.1).length<=9223372036854775807 then some (([[97,108,108],[102,108,97,103],[115,105,110,99,101],[98,101,102,111,114,101],[108,97,114,103,101,114],[115,117,98,106,101,99,116],[98,111,100,121],[117,105,100],[110,111,116],[97,110,100],[111,114]].getD (i64.wrap (((a0.getD a1.toNat aJ).1)-1)).toNat ([]:List Int))++([32]++r5.1),())else none)else none))else(if decide (((a0.getD a1.toNat aJ).1)=8)=true then((Ac n (((((a0.getD a1.toNat aJ).2).2).2).1)).bind λr6=>(if [32].length+r6.1.length<=9223372036854775807 then(if([[97,108,108],[102,108,97,103],[115,105,110,99,101],[98,101,102,111,114,101],[108,97,114,103,101,114],[115,117,98,106,101,99,116],[98,111,100,121],[117,105,100],[110,111,116],[97,110,100],[111,114]].getD (i64.wrap (((a0.getD a1.toNat aJ).1)-1)).toNat ([]:List Int)).length+([32]++r6.1).length<=9223372036854775807 then some (([[97,108,108],[102,108,97,103],[115,105,110,99,101],[98,101,102,111,114,101],[108,97,114,103,101,114],[115,117,98,106,101,99,116],[98,111,100,121],[117,105,100],[110,111,116],[97,110,100],[111,114]].getD (i64.wrap (((a0.getD a1.toNat aJ).1)-1)).toNat ([]:List Int))++([32]++r6.1),())else none)else none))else(if decide (((a0.getD a1.toNat aJ).1)=9)=true then((um n a0 ((((((a0.getD a1.toNat aJ).2).2).2).2).1)).bind λr7=>(if [32].length+r7.1.length<=9223372036854775807 then(if([[97,108,108],[102,108,97,103],[115,105,110,99,101],[98,101,102,111,114,101],[108,97,114,103,101,114],[115,117,98,106,101,99,116],[98,111,100,121],[117,105,100],[110,111,116],[97,110,100],[111,114]].getD (i64.wrap (((a0.getD a1.toNat aJ).1)-1)).toNat ([]:List Int)).length+([32]++r7.1).length<=9223372036854775807 then some (([[97,108,108],[102,108,97,103],[115,105,110,99,101],[98,101,102,111,114,101],[108,97,114,103,101,114],[115,117,98,106,101,99,116],[98,111,100,121],[117,105,100],[110,111,116],[97,110,100],[111,114]].getD (i64.wrap (((a0.getD a1.toNat aJ).1)-1)).toNat ([]:List Int))++([32]++r7.1),())else none)else none))else(if decide (((a0.getD a1.toNat aJ).1)>9)=true then((um n a0 ((((((a0.getD a1.toNat aJ).2).2).2).2).1)).bind λr8=>(if [32].length+r8.1.length<=9223372036854775807 then(if([32]++r8.1).length+[32].length<=9223372036854775807 then((um n a0 (((((((a0.getD a1.toNat aJ).2).2).2).2).2).1)).bind λr9=>(if(([32]++r8.1)++[32]).length+r9.1.length<=9223372036854775807 then(if([[97,108,108],[102,108,97,103],[115,105,110,99,101],[98,101,102,111,114,101],[108,97,114,103,101,114],[115,117,98,106,101,99,116],[98,111,100,121],[117,105,100],[110,111,116],[97,110,100],[111,114]].getD (i64.wrap (((a0.getD a1.toNat aJ).1)-1)).toNat ([]:List Int)).length+((([32]++r8.1)++[32])++r9.1).length<=9223372036854775807 then some (([[97,108,108],[102,108,97,103],[115,105,110,99,101],[98,101,102,111,114,101],[108,97,114,103,101,114],[115,117,98,106,101,99,116],[98,111,100,121],[117,105,100],[110,111,116],[97,110,100],[111,114]].getD (i64.wrap (((a0.getD a1.toNat aJ).1)-1)).toNat ([]:List Int))++((([32]++r8.1)++[32])++r9.1),())else none)else none))else none)else none))else some ([[97,108,108],[102,108,97,103],[115,105,110,99,101],[98,101,102,111,114,101],[108,97,114,103,101,114],[115,117,98,106,101,99,116],[98,111,100,121],[117,105,100],[110,111,116],[97,110,100],[111,114]].getD (i64.wrap (((a0.getD a1.toNat aJ).1)-1)).toNat ([]:List Int),())))))))))else none)else none)
def JY:List aH:=[.val (.sl 51 jP) [],.val (.int .i64) []]
def Z_:List eF:=[.val .str [] []]
def yf:Entry:=⟨21,JY,Z_,λn (c:Cont (kin JY))=>um n c.1 c.2.1⟩
def SA:Hint:=⟨0,[],[],[],[(50,some 24,KF),(45,some 30,F6),(51,some 34,KM),(47,some 40,Cy),(52,some 44,R_),(53,some 55,KO),(21,some 66,yf),(21,some 77,yf),(21,some 83,yf)],[],[],[],[]⟩
theorem aa4:∀n (c:Cont (kin JY)),vK T SA Tryz.f21 JY Z_ n c=yf.F (n+1) c:=by intro n c;kernel_rfl
theorem GN[Fr][aD.LaidTab prog][aD.LaidErr prog][aT.bG prog]:∀(n:Nat),bC prog n yf
 |0=>Kt λc=>rfl
 |n+1=>J5 mixed bS (E:=yf) func21 (by kernel_rfl) (hi:=SA) (aI (SF n) (aI (Le n) (aI (SN n) (aI (GL n) (aI (ade n) (aI (SS n) (aI (GN n) (aI (GN n) (aI (GN n) bU))))))))) (aa4 n)
def wE(n:Nat)(a0:List Int):Option (uz×Unit):=(Af n a0 [32] 49).bind λr1=>(uW n (r1.1,([]:List bn),false,())).bind λr2=>if r2.2.1.2.2.1=true then some ((5,([]:List bn),()),())else if decide ((r2.2.1.1.length:Int)>0)=true then some ((5,([]:List bn),()),())else(z_ n r2.2.1.2.1).bind λr3=>if(!decide (r3.1=0))=true then some ((5,([]:List bn),()),())else(jZ n r2.2.1.2.1).bind λr4=>(um n r2.2.1.2.1 (i64.wrap (r4.1-1))).bind λr5=>if(!decide (r5.1=a0))=true then some ((5,([]:List bn),()),())else some ((0,r2.2.1.2.1,()),())
def KP:Entry:=⟨6,[.val .str []],[.own wV [2,51,96] [] []],λn c=>wE n c.1⟩
theorem SV[Fr][aD.LaidTab prog][aD.LaidErr prog][aT.bG prog](n:Nat):bC prog n KP:=bW mixed bS func6 (by kernel_rfl) (hi:=⟨0,[51],[],[],[(19,some 6,KD),(20,some 11,yc),(15,some 29,R8),(22,some 41,Cw),(21,some 43,yf)],[],[],[],[]⟩) (aI (SC n) (aI (GM n) (aI (ada n) (aI (GK n) (aI (GN n) bU))))) (by intro n c;kernel_rfl)
def Gi(n:Nat)(a0:List Int)(a1:List Int):Option (Bool×Unit):=if(!decide ((a0.length:Int)=(a1.length:Int)))=true then some (false,())else rounds (λL1 (v1:(List Int)×Hr)=>if decide (v1.2.2.1<(v1.1.length:Int))=true then if aX v1.2.2.1 v1.1.length then if aX v1.2.2.1 v1.2.1.length then if(!decide ((v1.1.getD v1.2.2.1.toNat 0)=(v1.2.1.getD v1.2.2.1.toNat 0)))=true then some (false,())else L1 (v1.1,v1.2.1,i64.wrap (v1.2.2.1+1),())else none else none else some (true,())) n (a0,a1,0,())
def ZE:List aH:=[.val (.sl 2 (.int .i64)) [],.val (.sl 2 (.int .i64)) []]
def anT:List eF:=[.val .bool [] []]
def Sb:Entry:=⟨90,ZE,anT,λn (c:Cont (kin ZE))=>Gi n c.1 c.2.1⟩
def acf:Hint:=⟨0,[],[(0,[0,1,5],[])],[],[],[],[],[],[]⟩
theorem adg[Fr][aD.LaidTab prog][aD.LaidErr prog][aT.bG prog](n:Nat):bC prog n Sb:=bW mixed bS func90 (by kernel_rfl) (hi:=acf) bU (by intro n c;kernel_rfl)
def Gj(n:Nat)(a0:ay)(a1:ay):Option (Bool×Unit):=if(!decide (a0.1=a1.1))=true then some (false,())else if(!decide (a0.2.1=a1.2.1))=true then some (false,())else some (true,())
def ZF:List aH:=[.val lS [],.val lS []]
def anU:List eF:=[.val .bool [] []]
def Sc:Entry:=⟨120,ZF,anU,λn (c:Cont (kin ZF))=>Gj n c.1 c.2.1⟩
theorem adh[Fr][aD.LaidTab prog][aD.LaidErr prog][aT.bG prog](n:Nat):bC prog n Sc:=bW mixed bS func120 (by kernel_rfl) (hi:=H_1) bU (by intro n c;kernel_rfl)
def Gl(n:Nat)(a0:List ay)(a1:List ay):Option (Bool×Unit):=if(!decide ((a0.length:Int)=(a1.length:Int)))=true then some (false,())else rounds (λL1 (v1:(List ay)×(List ay)×Int×Unit)=>if decide (v1.2.2.1<(v1.1.length:Int))=true then if aX v1.2.2.1 v1.1.length then if aX v1.2.2.1 v1.2.1.length then(Gj n (v1.1.getD v1.2.2.1.toNat fI) (v1.2.1.getD v1.2.2.1.toNat fI)).bind λr2=>if(!r2.1)=true then some (false,())else L1 (v1.1,v1.2.1,i64.wrap (v1.2.2.1+1),())else none else none else some (true,())) n (a0,a1,0,())
def ZG:List aH:=[.val (.sl 96 lS) [],.val (.sl 96 lS) []]
def anV:List eF:=[.val .bool [] []]
def Sd:Entry:=⟨91,ZG,anV,λn (c:Cont (kin ZG))=>Gl n c.1 c.2.1⟩
theorem adi[Fr][aD.LaidTab prog][aD.LaidErr prog][aT.bG prog](n:Nat):bC prog n Sd:=bW mixed bS func91 (by kernel_rfl) (hi:=⟨0,[],[(0,[0,1,5],[])],[],[(120,some 25,Sc)],[],[],[],[]⟩) (aI (adh n) bU) (by intro n c;kernel_rfl)
def Gm(n:Nat)(a0:bn)(a1:bn):Option (Bool×Unit):=if(!decide (a0.1=a1.1))=true then some (false,())else if(!decide (a0.2.1=a1.2.1))=true then some (false,())else(Gi n a0.2.2.1 a1.2.2.1).bind λr1=>if(!r1.1)=true then some (false,())else(Gl n a0.2.2.2.1 a1.2.2.2.1).bind λr2=>if(!r2.1)=true then some (false,())else if(!decide (a0.2.2.2.2.1=a1.2.2.2.2.1))=true then some (false,())else if(!decide (a0.2.2.2.2.2.1=a1.2.2.2.2.2.1))=true then some (false,())else some (true,())
def ZH:List aH:=[.val jP [],.val jP []]
def anW:List eF:=[.val .bool [] []]
def Sg:Entry:=⟨54,ZH,anW,λn (c:Cont (kin ZH))=>Gm n c.1 c.2.1⟩
theorem adj[Fr][aD.LaidTab prog][aD.LaidErr prog][aT.bG prog](n:Nat):bC prog n Sg:=bW mixed bS func54 (by kernel_rfl) (hi:=⟨0,[],[],[],[(90,some 19,Sb),(91,some 25,Sd)],[],[],[],[]⟩) (aI (adg n) (aI (adi n) bU)) (by intro n c;kernel_rfl)
def Gn(n:Nat)(a0:List bn)(a1:List bn):Option (Bool×Unit):=if(!decide ((a0.length:Int)=(a1.length:Int)))=true then some (false,())else rounds (λL1 (v1:(List bn)×(List bn)×Int×Unit)=>if decide (v1.2.2.1<(v1.1.length:Int))=true then if aX v1.2.2.1 v1.1.length then if aX v1.2.2.1 v1.2.1.length then(Gm n (v1.1.getD v1.2.2.1.toNat aJ) (v1.2.1.getD v1.2.2.1.toNat aJ)).bind λr2=>if(!r2.1)=true then some (false,())else L1 (v1.1,v1.2.1,i64.wrap (v1.2.2.1+1),())else none else none else some (true,())) n (a0,a1,0,())
def ZI:List aH:=[.val (.sl 51 jP) [],.val (.sl 51 jP) []]
def anX:List eF:=[.val .bool [] []]
def Si:Entry:=⟨23,ZI,anX,λn (c:Cont (kin ZI))=>Gn n c.1 c.2.1⟩
theorem adk[Fr][aD.LaidTab prog][aD.LaidErr prog][aT.bG prog](n:Nat):bC prog n Si:=bW mixed bS func23 (by kernel_rfl) (hi:=⟨0,[],[(0,[0,1,5],[])],[],[(54,some 25,Sg)],[],[],[],[]⟩) (aI (adj n) bU) (by intro n c;kernel_rfl)
def CK(n:Nat)(a0:uz)(a1:uz):Option (Bool×Unit):=if(!decide (a0.1=a1.1))=true then some (false,())else(Gn n a0.2.1 a1.2.1).bind λr1=>if(!r1.1)=true then some (false,())else some (true,())
def ZJ:List aH:=[.val wV [],.val wV []]
def anY:List eF:=[.val .bool [] []]
def KS:Entry:=⟨7,ZJ,anY,λn (c:Cont (kin ZJ))=>CK n c.1 c.2.1⟩
theorem S9[Fr][aD.LaidTab prog][aD.LaidErr prog][aT.bG prog](n:Nat):bC prog n KS:=bW mixed bS func7 (by kernel_rfl) (hi:=⟨0,[],[],[],[(23,some 14,Si)],[],[],[],[]⟩) (aI (adk n) bU) (by intro n c;kernel_rfl)
def Gs(n:Nat)(a0:List Int)(a1:Int):Option Dh:=rounds (λL1 (v1:Int×Dh)=>if decide (v1.2.1<(v1.2.2.1.length:Int))=true then if aX v1.2.1 v1.2.2.1.length then L1 (i64.wrap (v1.1+1),i64.wrap (v1.2.1+1),v1.2.2.1.set v1.2.1.toNat v1.1,())else none else some (v1.1,v1.2.2.1,())) n (a1,0,a0,())
def ZO:List aH:=[.dH (.sl 2 (.int .i64)) [2] [2],.val (.int .i64) []]
def an3:List eF:=[.val (.int .i64) [] []]
def Sm:Entry:=⟨55,ZO,an3,λn (c:Cont (kin ZO))=>Gs n c.1 c.2.1⟩
def acr:Hint:=⟨0,[],[(0,[0,1,5],[0])],[],[],[],[],[],[]⟩
theorem ado[Fr][aD.LaidTab prog][aD.LaidErr prog][aT.bG prog](n:Nat):bC prog n Sm:=bW mixed bS func55 (by kernel_rfl) (hi:=acr) bU (by intro n c;kernel_rfl)
def Gt(n:Nat)(a0:List ay)(a1:Int):Option (Int×(List ay)×Unit):=rounds (λL1 (v1:Int×Int×(List ay)×Unit)=>if decide (v1.2.1<(v1.2.2.1.length:Int))=true then if aX v1.2.1 v1.2.2.1.length then if aX v1.2.1 (gI v1.2.2.1 v1.2.1.toNat fI λz1=>(v1.1,z1.2)).length then L1 (i64.wrap ((i64.wrap (v1.1+1))+1),i64.wrap (v1.2.1+1),(gI (gI v1.2.2.1 v1.2.1.toNat fI λz1=>(v1.1,z1.2)) v1.2.1.toNat fI λz1=>(z1.1,i64.wrap (v1.1+1),z1.2.2)),())else none else none else some (v1.1,v1.2.2.1,())) n (a1,0,a0,())
def ZP:List aH:=[.dH (.sl 96 lS) [96] [96],.val (.int .i64) []]
def an4:List eF:=[.val (.int .i64) [] []]
def Sn:Entry:=⟨56,ZP,an4,λn (c:Cont (kin ZP))=>Gt n c.1 c.2.1⟩
theorem adp[Fr][aD.LaidTab prog][aD.LaidErr prog][aT.bG prog](n:Nat):bC prog n Sn:=bW mixed bS func56 (by kernel_rfl) (hi:=acr) bU (by intro n c;kernel_rfl)
def Gu(n:Nat)(a0:List bn)(a1:Int):Option uz:=rounds (λL1 (v1:Int×uz)=>if decide (v1.2.1<(v1.2.2.1.length:Int))=true then if aX v1.2.1 v1.2.2.1.length then if aX v1.2.1 (gI v1.2.2.1 v1.2.1.toNat aJ λz1=>(v1.1,z1.2)).length then if aX v1.2.1 (gI (gI v1.2.2.1 v1.2.1.toNat aJ λz1=>(v1.1,z1.2)) v1.2.1.toNat aJ λz1=>(z1.1,i64.wrap (v1.1+1),z1.2.2)).length then(Gs n (((((gI (gI v1.2.2.1 v1.2.1.toNat aJ λz1=>(v1.1,z1.2)) v1.2.1.toNat aJ λz1=>(z1.1,i64.wrap (v1.1+1),z1.2.2)).getD v1.2.1.toNat aJ).2).2).1) (i64.wrap ((i64.wrap (v1.1+1))+1))).bind λr2=>if aX v1.2.1 (gI (gI (gI v1.2.2.1 v1.2.1.toNat aJ λz1=>(v1.1,z1.2)) v1.2.1.toNat aJ λz1=>(z1.1,i64.wrap (v1.1+1),z1.2.2)) v1.2.1.toNat aJ λz1=>(z1.1,z1.2.1,r2.2.1,z1.2.2.2)).length then(Gt n ((((((gI (gI (gI v1.2.2.1 v1.2.1.toNat aJ λz1=>(v1.1,z1.2)) v1.2.1.toNat aJ λz1=>(z1.1,i64.wrap (v1.1+1),z1.2.2)) v1.2.1.toNat aJ λz1=>(z1.1,z1.2.1,r2.2.1,z1.2.2.2)).getD v1.2.1.toNat aJ).2).2).2).1) r2.1).bind λr3=>if aX v1.2.1 (gI (gI (gI (gI v1.2.2.1 v1.2.1.toNat aJ λz1=>(v1.1,z1.2)) v1.2.1.toNat aJ λz1=>(z1.1,i64.wrap (v1.1+1),z1.2.2)) v1.2.1.toNat aJ λz1=>(z1.1,z1.2.1,r2.2.1,z1.2.2.2)) v1.2.1.toNat aJ λz1=>(z1.1,z1.2.1,z1.2.2.1,r3.2.1,z1.2.2.2.2)).length then if aX v1.2.1 (gI (gI (gI (gI (gI v1.2.2.1 v1.2.1.toNat aJ λz1=>(v1.1,z1.2)) v1.2.1.toNat aJ λz1=>(z1.1,i64.wrap (v1.1+1),z1.2.2)) v1.2.1.toNat aJ λz1=>(z1.1,z1.2.1,r2.2.1,z1.2.2.2)) v1.2.1.toNat aJ λz1=>(z1.1,z1.2.1,z1.2.2.1,r3.2.1,z1.2.2.2.2)) v1.2.1.toNat aJ λz1=>(z1.1,z1.2.1,z1.2.2.1,z1.2.2.2.1,r3.1,z1.2.2.2.2.2)).length then L1 (i64.wrap ((i64.wrap (r3.1+1))+1),i64.wrap (v1.2.1+1),(gI (gI (gI (gI (gI (gI v1.2.2.1 v1.2.1.toNat aJ λz1=>(v1.1,z1.2)) v1.2.1.toNat aJ λz1=>(z1.1,i64.wrap (v1.1+1),z1.2.2)) v1.2.1.toNat aJ λz1=>(z1.1,z1.2.1,r2.2.1,z1.2.2.2)) v1.2.1.toNat aJ λz1=>(z1.1,z1.2.1,z1.2.2.1,r3.2.1,z1.2.2.2.2)) v1.2.1.toNat aJ λz1=>(z1.1,z1.2.1,z1.2.2.1,z1.2.2.2.1,r3.1,z1.2.2.2.2.2)) v1.2.1.toNat aJ λz1=>(z1.1,z1.2.1,z1.2.2.1,z1.2.2.2.1,z1.2.2.2.2.1,i64.wrap (r3.1+1),z1.2.2.2.2.2.2)),())else none else none else none else none else none else none else some (v1.1,v1.2.2.1,())) n (a1,0,a0,())
def ZQ:List aH:=[.dH (.sl 51 jP) [2,51,96] [2,51,96,4294967295],.val (.int .i64) []]
def an5:List eF:=[.val (.int .i64) [] []]
def Sq:Entry:=⟨24,ZQ,an5,λn (c:Cont (kin ZQ))=>Gu n c.1 c.2.1⟩
theorem adq[Fr][aD.LaidTab prog][aD.LaidErr prog][aT.bG prog](n:Nat):bC prog n Sq:=bW mixed bS func24 (by kernel_rfl) (hi:=⟨0,[30,37],[(0,[0,1,5],[0])],[],[(55,some 32,Sm),(56,some 39,Sn)],[],[],[],[]⟩) (aI (ado n) (aI (adp n) bU)) (by intro n c;kernel_rfl)
def Gv(n:Nat)(a0:uz)(a1:Int):Option (Int×uz×Unit):=(Gu n a0.2.1 a1).bind λr1=>some (r1.1,(a0.1,r1.2.1,a0.2.2),())
def ZR:List aH:=[.dH wV [2,51,96] [2,51,96,4294967295],.val (.int .i64) []]
def an6:List eF:=[.val (.int .i64) [] []]
def Sr:Entry:=⟨8,ZR,an6,λn (c:Cont (kin ZR))=>Gv n c.1 c.2.1⟩
theorem adr[Fr][aD.LaidTab prog][aD.LaidErr prog][aT.bG prog](n:Nat):bC prog n Sr:=bW mixed bS func8 (by kernel_rfl) (hi:=⟨0,[],[],[],[(24,some 8,Sq)],[],[],[],[]⟩) (aI (adq n) bU) (by intro n c;kernel_rfl)
def Gp(n:Nat)(a0:List Int)(a1:Int):Option (Int×Unit):=rounds (λL1 (v1:(List Int)×ay)=>if decide (v1.2.2.1<(v1.1.length:Int))=true then if aX v1.2.2.1 v1.1.length then if(!decide ((v1.1.getD v1.2.2.1.toNat 0)=v1.2.1))=true then some ((-1),())else L1 (v1.1,i64.wrap (v1.2.1+1),i64.wrap (v1.2.2.1+1),())else none else some (v1.2.1,())) n (a0,a1,0,())
def ZK:List aH:=[.val (.sl 2 (.int .i64)) [],.val (.int .i64) []]
def anZ:List eF:=[.val (.int .i64) [] []]
def Sj:Entry:=⟨57,ZK,anZ,λn (c:Cont (kin ZK))=>Gp n c.1 c.2.1⟩
theorem adl[Fr][aD.LaidTab prog][aD.LaidErr prog][aT.bG prog](n:Nat):bC prog n Sj:=bW mixed bS func57 (by kernel_rfl) (hi:=acf) bU (by intro n c;kernel_rfl)
def Gq(n:Nat)(a0:List ay)(a1:Int):Option (Int×Unit):=rounds (λL1 (v1:(List ay)×ay)=>if decide (v1.2.2.1<(v1.1.length:Int))=true then if aX v1.2.2.1 v1.1.length then if(!decide (((v1.1.getD v1.2.2.1.toNat fI).1)=v1.2.1))=true then some ((-1),())else if aX v1.2.2.1 v1.1.length then if(!decide ((((v1.1.getD v1.2.2.1.toNat fI).2).1)=(i64.wrap (v1.2.1+1))))=true then some ((-1),())else L1 (v1.1,i64.wrap ((i64.wrap (v1.2.1+1))+1),i64.wrap (v1.2.2.1+1),())else none else none else some (v1.2.1,())) n (a0,a1,0,())
def ZL:List aH:=[.val (.sl 96 lS) [],.val (.int .i64) []]
def an0:List eF:=[.val (.int .i64) [] []]
def Sk:Entry:=⟨58,ZL,an0,λn (c:Cont (kin ZL))=>Gq n c.1 c.2.1⟩
theorem adm[Fr][aD.LaidTab prog][aD.LaidErr prog][aT.bG prog](n:Nat):bC prog n Sk:=bW mixed bS func58 (by kernel_rfl) (hi:=acf) bU (by intro n c;kernel_rfl)
def Gr(n:Nat)(a0:List bn)(a1:Int):Option (Int×Unit):=rounds (λL1 (v1:(List bn)×ay)=>if decide (v1.2.2.1<(v1.1.length:Int))=true then if aX v1.2.2.1 v1.1.length then if(!decide (((v1.1.getD v1.2.2.1.toNat aJ).1)=v1.2.1))=true then some ((-1),())else if aX v1.2.2.1 v1.1.length then if(!decide ((((v1.1.getD v1.2.2.1.toNat aJ).2).1)=(i64.wrap (v1.2.1+1))))=true then some ((-1),())else if aX v1.2.2.1 v1.1.length then(Gp n ((((v1.1.getD v1.2.2.1.toNat aJ).2).2).1) (i64.wrap ((i64.wrap (v1.2.1+1))+1))).bind λr2=>if decide (r2.1<0)=true then some ((-1),())else if aX v1.2.2.1 v1.1.length then(Gq n (((((v1.1.getD v1.2.2.1.toNat aJ).2).2).2).1) r2.1).bind λr3=>if decide (r3.1<0)=true then some ((-1),())else if aX v1.2.2.1 v1.1.length then if(!decide (((((((v1.1.getD v1.2.2.1.toNat aJ).2).2).2).2).1)=r3.1))=true then some ((-1),())else if aX v1.2.2.1 v1.1.length then if(!decide ((((((((v1.1.getD v1.2.2.1.toNat aJ).2).2).2).2).2).1)=(i64.wrap (r3.1+1))))=true then some ((-1),())else L1 (v1.1,i64.wrap ((i64.wrap (r3.1+1))+1),i64.wrap (v1.2.2.1+1),())else none else none else none else none else none else none else some (v1.2.1,())) n (a0,a1,0,())
def ZM:List aH:=[.val (.sl 51 jP) [],.val (.int .i64) []]
def an1:List eF:=[.val (.int .i64) [] []]
def Sl:Entry:=⟨25,ZM,an1,λn (c:Cont (kin ZM))=>Gr n c.1 c.2.1⟩
theorem adn[Fr][aD.LaidTab prog][aD.LaidErr prog][aT.bG prog](n:Nat):bC prog n Sl:=bW mixed bS func25 (by kernel_rfl) (hi:=⟨0,[],[(0,[0,1,5],[])],[],[(57,some 36,Sj),(58,some 45,Sk)],[],[],[],[]⟩) (aI (adl n) (aI (adm n) bU)) (by intro n c;kernel_rfl)
def CL(n:Nat)(a0:uz)(a1:Int):Option (Int×Unit):=(Gr n a0.2.1 a1).bind λr1=>if decide (r1.1<0)=true then some ((-1),())else some (r1.1,())
def ZN:List aH:=[.val wV [],.val (.int .i64) []]
def an2:List eF:=[.val (.int .i64) [] []]
def KT:Entry:=⟨9,ZN,an2,λn (c:Cont (kin ZN))=>CL n c.1 c.2.1⟩
theorem S_[Fr][aD.LaidTab prog][aD.LaidErr prog][aT.bG prog](n:Nat):bC prog n KT:=bW mixed bS func9 (by kernel_rfl) (hi:=⟨0,[],[],[],[(25,some 8,Sl)],[],[],[],[]⟩) (aI (adn n) bU) (by intro n c;kernel_rfl)
def KZ(n:Nat)(a0:List Int):Option (Bool×Unit):=if decide ((a0.length:Int)>1048576)=true then some (true,())else(Ad n a0).bind λr1=>(wE n a0).bind λr2=>(CK n r2.1 r1.1).bind λr3=>if(!r3.1)=true then some (false,())else(Gv n r2.1 1).bind λr4=>(CL n r4.2.1 1).bind λr5=>if decide (r5.1<0)=true then some (false,())else if(!decide (r5.1=r4.1))=true then some (false,())else(wE n a0).bind λr6=>(CK n r6.1 r1.1).bind λr7=>if(!r7.1)=true then some (false,())else(CL n r4.2.1 1).bind λr8=>if decide (r8.1<0)=true then some (false,())else if(!decide (r8.1=r4.1))=true then some (false,())else some (true,())
def BX:List aH:=[.val .str []]
def anS:List eF:=[.val .bool [] []]
def Sa:Entry:=⟨3,BX,anS,λn (c:Cont (kin BX))=>KZ n c.1⟩
theorem adf[Fr][aD.LaidTab prog][aD.LaidErr prog][aT.bG prog](n:Nat):bC prog n Sa:=bW mixed bS func3 (by kernel_rfl) (hi:=⟨0,[19],[],[],[(5,some 12,RB),(6,some 14,KP),(7,some 17,KS),(8,some 21,Sr),(9,some 24,KT),(6,some 31,KP),(7,some 34,KS),(9,some 38,KT)],[],[],[],[]⟩) (aI (acP n) (aI (SV n) (aI (S9 n) (aI (adr n) (aI (S_ n) (aI (SV n) (aI (S9 n) (aI (S_ n) bU)))))))) (by intro n c;kernel_rfl)
end Go.Proofs.YtgppmpedglhhfaaGreatDoor.q9

/- What the functions of this law compute, as plain functions, and that the reading comes to them. No condition. -/
import Derived.Test.YtgppmpedglhhfaaGreatDoorSepLib
import Derived.Test.YtgppmpedglhhfaaGreatDoorProg
import Derived.KernelRfl
set_option linter.unusedVariables false
set_option linter.unusedSimpArgs false
namespace Go.Proofs.YtgppmpedglhhfaaGreatDoor.nL
open Go IntKind Go.Proofs.Tryz Go.Proofs.YtgppmpedglhhfaaGreatDoor Ow
abbrev ZG:K:=(.st (.pair .str .unit))
abbrev mE:Type:=(List Int)×Unit
abbrev ZH:K:=(.st (.pair .str (.pair (.int .u64) .unit)))
abbrev au:Type:=(List Int)×Int×Unit
abbrev Lr:K:=(.st (.pair (.int .i64) (.pair .str .unit)))
abbrev CS:Type:=Int×mE
abbrev ZI:K:=(.st (.pair (.int .u8) (.pair (.int .u8) .unit)))
abbrev aB:Type:=Int×Int×Unit
abbrev nO:K:=(.st (.pair (.int .i64) (.pair (.int .i64) .unit)))
abbrev wU:K:=(.st (.pair (.sl 5 (.int .u8)) (.pair (.int .i64) .unit)))
abbrev ZJ:K:=(.st (.pair (.int .i64) (.pair (.int .i64) (.pair .bool (.pair (.int .u8) .unit)))))
abbrev iL:K:=(.st (.pair (.int .i64) (.pair (.int .i64) (.pair (.sl 2 (.int .i64)) (.pair (.sl 96 nO) (.pair (.int .i64) (.pair (.int .i64) .unit)))))))
abbrev aa:Type:=Int×Int×(List Int)×(List (aB))×aB
abbrev Ls:K:=(.st (.pair (.int .i64) (.pair (.sl 51 iL) .unit)))
abbrev QZ:Type:=Int×(List (aa))×Unit
abbrev Lt:K:=(.st (.pair (.sl 9 .str) (.pair (.sl 51 iL) (.pair .bool .unit))))
abbrev yw:Type:=(List (List Int))×(List (aa))×Bool×Unit
abbrev Gv:K:=(.st (.pair (.sl 9 .str) (.pair (.int .i64) (.pair (.sl 51 iL) (.pair .bool .unit)))))
abbrev uy:Type:=(List (List Int))×Int×(List (aa))×Bool×Unit
abbrev aA:aa:=(0,0,([]:List Int),([]:List aB),0,0,())
abbrev fJ:aB:=(0,0,())
def Xt:yu:={ ty:=[(2,(.int .i64)),(3,(.int .i64)),(4,.bool),(5,(.int .u8)),(6,(.int .u8)),(7,ZJ),(8,ZJ),(9,.str),(10,.str),(11,.str),(12,(.int .u64)),(13,ZH),(14,ZH),(21,(.int .i32)),(22,(.sl 51 iL)),(23,Ls),(24,Ls),(29,(.sl 5 (.int .u8))),(32,Lr),(33,Lr),(40,(.sl 9 .str)),(44,Lt),(45,Lt),(48,(.sl 2 (.int .i64))),(49,(.sl 96 nO)),(50,iL),(51,iL),(63,Gv),(64,Gv),(70,nO),(71,nO),(85,wU),(86,wU),(95,nO),(96,nO),(115,(.sl 48 (.sl 2 (.int .i64)))),(136,(.int .u64)),(139,(.int .i64)),(140,(.int .u64)),(157,ZI),(158,ZI),(160,(.int .u32)),(178,ZG),(179,ZG),(189,(.int .u8)),(190,(.int .u8)),(192,(.int .i32)),(193,(.int .i32))],bytes:=[(2,8),(3,8),(4,1),(5,1),(6,1),(7,24),(8,24),(9,16),(10,16),(11,16),(12,8),(13,24),(14,24),(21,4),(22,24),(23,32),(24,32),(29,24),(32,24),(33,24),(40,24),(44,56),(45,56),(48,24),(49,24),(50,80),(51,80),(63,64),(64,64),(70,16),(71,16),(85,32),(86,32),(95,16),(96,16),(115,24),(136,8),(139,8),(140,8),(157,2),(158,2),(160,4),(178,16),(179,16),(189,1),(190,1),(192,4),(193,4)],ptr:=[15,16,17,43,53,66,89,128,143,146,177],eqs:=[96] }
def T:bK:=Xt.tab
theorem bR:BX prog Xt=true:=by kernel_rfl
theorem mixed:prog.follows .mixedOrders=true:=by kernel_rfl
def Qn(n:Nat)(a0:List Int):Option (Bool×Unit):=some (decide ((a0.length:Int)>1048576),())
def ahv:List aM:=[.val (.sl 5 (.int .u8)) []]
def axX:List gJ:=[.val .bool [] []]
def YH:Entry:=⟨10,ahv,axX,λn (c:Cont (kin ahv))=>Qn n c.1⟩
def akG:Hint:=⟨0,[],[],[],[],[],[],[],[]⟩
theorem alz[Fr][aI.LaidTab prog][aI.LaidErr prog][aS.bJ prog](n:Nat):bg prog n YH:=bX mixed bR func10 (by kernel_rfl) (hi:=akG) bT (by intro n c;kernel_rfl)
def F9(n:Nat)(a0:List Int):Option (au×Unit):=some ((a0,0,()),())
def PN:Entry:=⟨26,[.val (.sl 5 (.int .u8)) []],[.ptr 86 wU [] [0]],λn c=>F9 n c.1⟩
theorem YU[Fr][aI.LaidTab prog][aI.LaidErr prog][aS.bJ prog](n:Nat):bg prog n PN:=bX mixed bR func26 (by kernel_rfl) (hi:=akG) bT (by intro n c;kernel_rfl)
def iT(n:Nat)(a0:au)(a1:Int):Option (Int×au×Unit):=if decide (a1<1)=true then some (0,(a0.1,i64.wrap (a0.2.1+1),a0.2.2),())else if decide ((a0.1.length:Int)=0)=true then if a1≠0 then some ((i64.wrap ((i64.wrap ((i64.wrap (a0.2.1+1))-1))*7)).tmod a1,(a0.1,i64.wrap (a0.2.1+1),a0.2.2),())else none else if(a0.1.length:Int)≠0 then if aZ ((i64.wrap ((i64.wrap (a0.2.1+1))-1)).tmod (a0.1.length:Int)) a0.1.length then if(a0.1.length:Int)≠0 then if decide (a1>200)=true then if(a0.1.length:Int)≠0 then if aZ ((i64.wrap ((i64.wrap ((i64.wrap (a0.2.1+1))-1))+1)).tmod (a0.1.length:Int)) a0.1.length then if a1≠0 then some ((i64.wrap ((i64.wrap ((i64.wrap ((i64.wrap ((i64.wrap (a0.1.getD ((i64.wrap ((i64.wrap (a0.2.1+1))-1)).tmod (a0.1.length:Int)).toNat 0))+(i64.wrap ((i64.wrap ((i64.wrap ((i64.wrap (a0.2.1+1))-1)).tdiv (a0.1.length:Int)))*37))))*251))+(i64.wrap ((i64.wrap (a0.1.getD ((i64.wrap ((i64.wrap ((i64.wrap (a0.2.1+1))-1))+1)).tmod (a0.1.length:Int)).toNat 0))*13))))+(i64.wrap ((i64.wrap (a0.2.1+1))-1)))).tmod a1,(a0.1,i64.wrap (a0.2.1+1),a0.2.2),())else none else none else none else if a1≠0 then some ((i64.wrap ((i64.wrap (a0.1.getD ((i64.wrap ((i64.wrap (a0.2.1+1))-1)).tmod (a0.1.length:Int)).toNat 0))+(i64.wrap ((i64.wrap ((i64.wrap ((i64.wrap (a0.2.1+1))-1)).tdiv (a0.1.length:Int)))*37)))).tmod a1,(a0.1,i64.wrap (a0.2.1+1),a0.2.2),())else none else none else none else none
def pR:Entry:=⟨29,[.rw wU [] [4294967295] [],.val (.int .i64) []],[.val (.int .i64) [] []],λn c=>iT n c.1 c.2.1⟩
theorem qE[Fr][aI.LaidTab prog][aI.LaidErr prog][aS.bJ prog](n:Nat):bg prog n pR:=bX mixed bR func29 (by kernel_rfl) (hi:=akG) bT (by intro n c;kernel_rfl)
def mh(n:Nat)(a0:au)(a1:List Int):Option (Int×au×Unit):=(iT n a0 (a1.length:Int)).bind λr1=>if aZ r1.1 a1.length then some (a1.getD r1.1.toNat (0:Int),r1.2.1,())else none
def tY:Entry:=⟨30,[.rw wU [] [4294967295] [],.val (.sl 2 (.int .i64)) []],[.val (.int .i64) [] []],λn c=>mh n c.1 c.2.1⟩
theorem vv[Fr][aI.LaidTab prog][aI.LaidErr prog][aS.bJ prog](n:Nat):bg prog n tY:=bX mixed bR func30 (by kernel_rfl) (hi:=⟨0,[],[],[],[(29,some 9,pR)],[],[],[],[]⟩) (aH (qE n) bT) (by intro n c;kernel_rfl)
def nK(n:Nat)(a0:Int):Option (Bool×Unit):=if decide (a0=10)=true then some (true,())else some (decide (a0=11),())
def FP:Entry:=⟨76,[.val (.int .i64) []],[.val .bool [] []],λn c=>nK n c.1⟩
theorem K3[Fr][aI.LaidTab prog][aI.LaidErr prog][aS.bJ prog](n:Nat):bg prog n FP:=bX mixed bR func76 (by kernel_rfl) (hi:=akG) bT (by intro n c;kernel_rfl)
def rZ(n:Nat)(a0:au):Option ((List aB)×au×Unit):=(iT n a0 3).bind λr1=>rounds (λL2 (v2:Int×au×(List aB)×Unit)=>if decide (v2.1>0)=true then(iT n v2.2.1 6).bind λr3=>(iT n r3.2.1 6).bind λr4=>(mh n r4.2.1 [i64.wrap ((1:Int)+r3.1),i64.wrap ((1:Int)+r4.1),0,999]).bind λr5=>(iT n r5.2.1 6).bind λr6=>(mh n r6.2.1 [r5.1,i64.wrap ((1:Int)+r6.1),0]).bind λr7=>if(v2.2.2.1.length+[(r5.1,r7.1,())].length)*16<=140737488355328 then L2 (i64.wrap (v2.1-1),r7.2.1,v2.2.2.1++[(r5.1,r7.1,())],())else none else some (v2.2.2.1,v2.2.1,())) n (i64.wrap ((1:Int)+r1.1),r1.2.1,([]:List aB),())
def X3:Entry:=⟨92,[.rw wU [] [4294967295] []],[.own (.sl 96 nO) [96] [] []],λn c=>rZ n c.1⟩
theorem K_4[Fr][aI.LaidTab prog][aI.LaidErr prog][aS.bJ prog](n:Nat):bg prog n X3:=bX mixed bR func92 (by kernel_rfl) (hi:=⟨0,[],[(0,[0,3,4],[0,194])],[],[(29,some 8,pR),(29,some 16,pR),(29,some 19,pR),(30,some 22,tY),(29,some 28,pR),(30,some 31,tY)],[],[],[],[]⟩) (aH (qE n) (aH (qE n) (aH (qE n) (aH (vv n) (aH (qE n) (aH (vv n) bT)))))) (by intro n c;kernel_rfl)
def q9:Nat->au->(List aa)->Int->Option ((List aa)×au×Unit)
 |0,_,_,_=>none
 |n+1,a0,a1,a2=>((λ(k1:Unit->Int->au->(List aa)->Option ((List aa)×au×Unit))=>(k1 () a2 a0 a1)) (λ_ Uq Iy atU=>((λ(k3:Unit->Int->au->(List aa)->aa->Option ((List aa)×au×Unit))=>((mh n Iy [(1:Int),2,3,4,5,6,7,8,7,6]).bind λr2=>(k3 () Uq r2.2.1 atU (r2.1,0,([]:List Int),([]:List aB),0,0,())))) (λ_ Nj UR aft UT=>((λ(aqW:Unit->Int->au->(List aa)->aa->Option ((List aa)×au×Unit))=>((λ(k6:Unit->Int->au->(List aa)->aa->Option ((List aa)×au×Unit))=>((λ(k4:Unit->Int->Bool->au->(List aa)->aa->Option ((List aa)×au×Unit))=>(k4 () Nj (decide (Nj>0)) UR aft UT)) (λ_ NB NC Jf ND afz=>(if NC=true then((mh n Jf [(9:Int),10,11,10,2]).bind λr5=>(k6 () NB r5.2.1 ND (r5.1,afz.2)))else(aqW () NB Jf ND afz))))) (λ_ VB VD avb afS=>((λ(Vj:Unit->Int->au->(List aa)->aa->Option ((List aa)×au×Unit))=>((λ(k10:Unit->Int->au->aa->(List aa)->Option ((List aa)×au×Unit))=>((λ(k7:Unit->Int->Bool->au->(List aa)->aa->Option ((List aa)×au×Unit))=>(k7 () VB (decide (afS.1>=9)) VD avb afS)) (λ_ Jy VO Ol Jz af4=>(if VO=true then((λ(k9:Unit->Int->au->aa->(List aa)->Option ((List aa)×au×Unit))=>((q9 n Ol Jz (i64.wrap (Jy-1))).bind λr8=>(k9 () Jy r8.2.1 af4 r8.1))) (λ_ EN BF wm EO=>(k10 () EN BF (wm.1,wm.2.1,wm.2.2.1,wm.2.2.2.1,i64.wrap ((EO.length:Int)-1),wm.2.2.2.2.2) EO)))else(Vj () Jy Ol Jz af4))))) (λ_ MK ML y8 D6=>((λ(UM:Unit->au->aa->(List aa)->Option ((List aa)×au×Unit))=>((λ(k15:Unit->au->aa->(List aa)->Option ((List aa)×au×Unit))=>((λ(k12:Unit->Int->Bool->au->aa->(List aa)->Option ((List aa)×au×Unit))=>((nK n y8.1).bind λiC=>(k12 () MK iC.1 ML y8 D6))) (λ_ adm adn ado adp adq=>(if adn=true then((λ(k14:Unit->au->aa->(List aa)->Option ((List aa)×au×Unit))=>((q9 n ado adq (i64.wrap (adm-1))).bind λjK=>(k14 () jK.2.1 adp jK.1))) (λ_ asi D8 adX=>(k15 () asi (D8.1,D8.2.1,D8.2.2.1,D8.2.2.2.1,D8.2.2.2.2.1,i64.wrap ((adX.length:Int)-1),D8.2.2.2.2.2.2) adX)))else(UM () ado adp adq))))) (λ_ asH aeb asI=>((λ(UI:Unit->au->aa->(List aa)->Option ((List aa)×au×Unit))=>((λ(UF:Unit->au->aa->(List aa)->Option ((List aa)×au×Unit))=>((λ(k27:Unit->au->aa->(List aa)->Option ((List aa)×au×Unit))=>((λ(k19:Unit->au->aa->(List aa)->Option ((List aa)×au×Unit))=>((λ(k16:Unit->Int->au->aa->(List aa)->Option ((List aa)×au×Unit))=>(k16 () aeb.1 asH aeb asI)) (λ_ MO Ue Uf asZ=>((λ(k17:Unit->Int->Bool->au->aa->(List aa)->Option ((List aa)×au×Unit))=>(k17 () MO (decide (MO=2)) Ue Uf asZ)) (λ_ MQ Ug aeH Uh aeI=>(if Ug=true then((mh n aeH [(1:Int),2,4,8]).bind λuV=>(k19 () uV.2.1 (Uh.1,uV.1,Uh.2.2) aeI))else((λ(k22:Unit->Int->Bool->au->aa->(List aa)->Option ((List aa)×au×Unit))=>((λ(k21:Unit->Int->Bool->au->aa->(List aa)->Option ((List aa)×au×Unit))=>(k21 () MQ (decide (MQ=3)) aeH Uh aeI)) (λ_ y9 vX Ea Bi Iz=>(if vX=true then(k22 () y9 vX Ea Bi Iz)else((λ(Nc:Unit->Int->Bool->au->aa->(List aa)->Option ((List aa)×au×Unit))=>(Nc () y9 (decide (y9=4)) Ea Bi Iz)) (λ_ I1 Nf Ng UL Nh=>(if Nf=true then(k22 () I1 Nf Ng UL Nh)else(k22 () I1 (decide (I1=5)) Ng UL Nh)))))))) (λ_ Bj IA Eb Bl IB=>(if IA=true then((iT n Eb 40).bind λBQ=>(k19 () BQ.2.1 (Bl.1,BQ.1,Bl.2.2) IB))else((λ(k25:Unit->Int->Bool->au->aa->(List aa)->Option ((List aa)×au×Unit))=>((λ(k24:Unit->Int->Bool->au->aa->(List aa)->Option ((List aa)×au×Unit))=>(k24 () Bj (decide (Bj=6)) Eb Bl IB)) (λ_ Ec IG II MX MZ=>(if IG=true then(k25 () Ec IG II MX MZ)else(k25 () Ec (decide (Ec=7)) II MX MZ))))) (λ_ Uu Uv M0 IJ M3=>(if Uv=true then((iT n M0 4).bind λxK=>(if aZ xK.1 [[(97:Int)],[(104:Int),69],[(1078:Int)],[(228:Int)]].length then(k27 () xK.2.1 (IJ.1,IJ.2.1,[[(97:Int)],[(104:Int),69],[(1078:Int)],[(228:Int)]].getD xK.1.toNat ([]:List Int),IJ.2.2.2) M3)else none))else((λ(UB:Unit->Bool->au->aa->(List aa)->Option ((List aa)×au×Unit))=>(UB () (decide (Uu=8)) M0 IJ M3)) (λ_ IP IQ y_ Ed=>(if IP=true then((rZ n IQ).bind λzy=>(UF () zy.2.1 (y_.1,y_.2.1,y_.2.2.1,zy.1,y_.2.2.2.2) Ed))else(UI () IQ y_ Ed)))))))))))))))) (λ_ Uo MS afg=>((λ(k20:Unit->au->(List aa)->Option ((List aa)×au×Unit))=>(if(afg.length+[MS].length)*80<=140737488355328 then(k20 () Uo (afg++[MS]))else none)) (λ_ D_ Bh=>some (Bh,D_,())))))) (λ_ M5 IL IM=>((λ(k28:Unit->au->(List aa)->Option ((List aa)×au×Unit))=>(if(IM.length+[IL].length)*80<=140737488355328 then(k28 () M5 (IM++[IL]))else none)) (λ_ Uz UA=>some (UA,Uz,())))))) (λ_ M9 IX IY=>((λ(M_:Unit->au->(List aa)->Option ((List aa)×au×Unit))=>(if(IY.length+[IX].length)*80<=140737488355328 then(M_ () M9 (IY++[IX]))else none)) (λ_ UG UH=>some (UH,UG,())))))) (λ_ Ee Ef Eg=>((λ(UK:Unit->au->(List aa)->Option ((List aa)×au×Unit))=>(if(Eg.length+[Ef].length)*80<=140737488355328 then(UK () Ee (Eg++[Ef]))else none)) (λ_ Na Nb=>some (Nb,Na,())))))))) (λ_ I4 I5 Ni=>((λ(Vf:Unit->au->aa->(List aa)->Option ((List aa)×au×Unit))=>((λ(Va:Unit->au->aa->(List aa)->Option ((List aa)×au×Unit))=>((λ(U4:Unit->au->aa->(List aa)->Option ((List aa)×au×Unit))=>((λ(I9:Unit->au->aa->(List aa)->Option ((List aa)×au×Unit))=>((λ(UO:Unit->Int->au->aa->(List aa)->Option ((List aa)×au×Unit))=>(UO () I5.1 I4 I5 Ni)) (λ_ Bn I6 I7 I8=>((λ(UQ:Unit->Int->Bool->au->aa->(List aa)->Option ((List aa)×au×Unit))=>(UQ () Bn (decide (Bn=2)) I6 I7 I8)) (λ_ za Eh Bo xz Ei=>(if Eh=true then((mh n Bo [(1:Int),2,4,8]).bind λr39=>(I9 () r39.2.1 (xz.1,r39.1,xz.2.2) Ei))else((λ(En:Unit->Int->Bool->au->aa->(List aa)->Option ((List aa)×au×Unit))=>((λ(UZ:Unit->Int->Bool->au->aa->(List aa)->Option ((List aa)×au×Unit))=>(UZ () za (decide (za=3)) Bo xz Ei)) (λ_ Em Jb Jc Nn Np=>(if Jb=true then(En () Em Jb Jc Nn Np)else((λ(NK:Unit->Int->Bool->au->aa->(List aa)->Option ((List aa)×au×Unit))=>(NK () Em (decide (Em=4)) Jc Nn Np)) (λ_ Ji NL NM Vi NP=>(if NL=true then(En () Ji NL NM Vi NP)else(En () Ji (decide (Ji=5)) NM Vi NP)))))))) (λ_ Nq U0 Nr Ns Nt=>(if U0=true then((iT n Nr 40).bind λr44=>(I9 () r44.2.1 (Ns.1,r44.1,Ns.2.2) Nt))else((λ(Nu:Unit->Int->Bool->au->aa->(List aa)->Option ((List aa)×au×Unit))=>((λ(U3:Unit->Int->Bool->au->aa->(List aa)->Option ((List aa)×au×Unit))=>(U3 () Nq (decide (Nq=6)) Nr Ns Nt)) (λ_ xA Bp Bq zb Eo=>(if Bp=true then(Nu () xA Bp Bq zb Eo)else(Nu () xA (decide (xA=7)) Bq zb Eo))))) (λ_ Nv Nw Jd Ep Ny=>(if Nw=true then((iT n Jd 4).bind λWN=>(if aZ WN.1 [[(97:Int)],[(104:Int),69],[(1078:Int)],[(228:Int)]].length then(U4 () WN.2.1 (Ep.1,Ep.2.1,[[(97:Int)],[(104:Int),69],[(1078:Int)],[(228:Int)]].getD WN.1.toNat ([]:List Int),Ep.2.2.2) Ny)else none))else((λ(NF:Unit->Bool->au->aa->(List aa)->Option ((List aa)×au×Unit))=>(NF () (decide (Nv=8)) Jd Ep Ny)) (λ_ U7 NG Br U8=>(if U7=true then((rZ n NG).bind λr51=>(Va () r51.2.1 (Br.1,Br.2.1,Br.2.2.1,r51.1,Br.2.2.2.2) U8))else(Vf () NG Br U8)))))))))))))))) (λ_ UU Nk Nl=>((λ(UW:Unit->au->(List aa)->Option ((List aa)×au×Unit))=>(if(Nl.length+[Nk].length)*80<=140737488355328 then(UW () UU (Nl++[Nk]))else none)) (λ_ Ej I_=>some (I_,Ej,())))))) (λ_ Er Es Et=>((λ(U6:Unit->au->(List aa)->Option ((List aa)×au×Unit))=>(if(Et.length+[Es].length)*80<=140737488355328 then(U6 () Er (Et++[Es]))else none)) (λ_ Nz NA=>some (NA,Nz,())))))) (λ_ Eu vY Ew=>((λ(Vb:Unit->au->(List aa)->Option ((List aa)×au×Unit))=>(if(Ew.length+[vY].length)*80<=140737488355328 then(Vb () Eu (Ew++[vY]))else none)) (λ_ Ey Jg=>some (Jg,Ey,())))))) (λ_ Bt Bu Bv=>((λ(Vh:Unit->au->(List aa)->Option ((List aa)×au×Unit))=>(if(Bv.length+[Bu].length)*80<=140737488355328 then(Vh () Bt (Bv++[Bu]))else none)) (λ_ NI NJ=>some (NJ,NI,())))))))))) (λ_ EA Jj Jk ze=>((λ(VT:Unit->au->(List aa)->aa->Option ((List aa)×au×Unit))=>((λ(Vs:Unit->au->aa->(List aa)->Option ((List aa)×au×Unit))=>((λ(NQ:Unit->Int->Bool->au->(List aa)->aa->Option ((List aa)×au×Unit))=>((nK n ze.1).bind λr58=>(NQ () EA r58.1 Jj Jk ze))) (λ_ Vl Vm NR Vn NS=>(if Vm=true then((λ(Vq:Unit->au->aa->(List aa)->Option ((List aa)×au×Unit))=>((q9 n NR Vn (i64.wrap (Vl-1))).bind λr60=>(Vq () r60.2.1 NS r60.1))) (λ_ Bw uH Bz=>(Vs () Bw (uH.1,uH.2.1,uH.2.2.1,uH.2.2.2.1,uH.2.2.2.2.1,i64.wrap ((Bz.length:Int)-1),uH.2.2.2.2.2.2) Bz)))else(VT () NR Vn NS))))) (λ_ NT Jm NU=>((λ(VP:Unit->au->aa->(List aa)->Option ((List aa)×au×Unit))=>((λ(Oh:Unit->au->aa->(List aa)->Option ((List aa)×au×Unit))=>((λ(Oc:Unit->au->aa->(List aa)->Option ((List aa)×au×Unit))=>((λ(Jo:Unit->au->aa->(List aa)->Option ((List aa)×au×Unit))=>((λ(NV:Unit->Int->au->aa->(List aa)->Option ((List aa)×au×Unit))=>(NV () Jm.1 NT Jm NU)) (λ_ NW Vt Vu afM=>((λ(Vv:Unit->Int->Bool->au->aa->(List aa)->Option ((List aa)×au×Unit))=>(Vv () NW (decide (NW=2)) Vt Vu afM)) (λ_ BA Jn EB xB EC=>(if Jn=true then((mh n EB [(1:Int),2,4,8]).bind λr65=>(Jo () r65.2.1 (xB.1,r65.1,xB.2.2) EC))else((λ(Jr:Unit->Int->Bool->au->aa->(List aa)->Option ((List aa)×au×Unit))=>((λ(VA:Unit->Int->Bool->au->aa->(List aa)->Option ((List aa)×au×Unit))=>(VA () BA (decide (BA=3)) EB xB EC)) (λ_ zf ED EE EF Jq=>(if ED=true then(Jr () zf ED EE EF Jq)else((λ(k82:Unit->Int->Bool->au->aa->(List aa)->Option ((List aa)×au×Unit))=>(k82 () zf (decide (zf=4)) EE EF Jq)) (λ_ VS af5 af6 af7 af8=>(if af5=true then(Jr () VS af5 af6 af7 af8)else(Jr () VS (decide (VS=5)) af6 af7 af8)))))))) (λ_ zh EG BB xC EH=>(if EG=true then((iT n BB 40).bind λr70=>(Jo () r70.2.1 (xC.1,r70.1,xC.2.2) EH))else((λ(Ob:Unit->Int->Bool->au->aa->(List aa)->Option ((List aa)×au×Unit))=>((λ(N8:Unit->Int->Bool->au->aa->(List aa)->Option ((List aa)×au×Unit))=>(N8 () zh (decide (zh=6)) BB xC EH)) (λ_ Js N9 N_ VE Oa=>(if N9=true then(Ob () Js N9 N_ VE Oa)else(Ob () Js (decide (Js=7)) N_ VE Oa))))) (λ_ EI Jt EJ vZ EK=>(if Jt=true then((iT n EJ 4).bind λWO=>(if aZ WO.1 [[(97:Int)],[(104:Int),69],[(1078:Int)],[(228:Int)]].length then(Oc () WO.2.1 (vZ.1,vZ.2.1,[[(97:Int)],[(104:Int),69],[(1078:Int)],[(228:Int)]].getD WO.1.toNat ([]:List Int),vZ.2.2.2) EK)else none))else((λ(VI:Unit->Bool->au->aa->(List aa)->Option ((List aa)×au×Unit))=>(VI () (decide (EI=8)) EJ vZ EK)) (λ_ BC BD v_ zi=>(if BC=true then((rZ n BD).bind λr77=>(Oh () r77.2.1 (v_.1,v_.2.1,v_.2.2.1,r77.1,v_.2.2.2.2) zi))else(VP () BD v_ zi)))))))))))))))) (λ_ Vx NY NZ=>((λ(Vy:Unit->au->(List aa)->Option ((List aa)×au×Unit))=>(if(NZ.length+[NY].length)*80<=140737488355328 then(Vy () Vx (NZ++[NY]))else none)) (λ_ Jp N7=>some (N7,Jp,())))))) (λ_ VF Od Oe=>((λ(VG:Unit->au->(List aa)->Option ((List aa)×au×Unit))=>(if(Oe.length+[Od].length)*80<=140737488355328 then(VG () VF (Oe++[Od]))else none)) (λ_ Ju Og=>some (Og,Ju,())))))) (λ_ VK Oi Oj=>((λ(VL:Unit->au->(List aa)->Option ((List aa)×au×Unit))=>(if(Oj.length+[Oi].length)*80<=140737488355328 then(VL () VK (Oj++[Oi]))else none)) (λ_ EL Jv=>some (Jv,EL,())))))) (λ_ Om JA JB=>((λ(Oo:Unit->au->(List aa)->Option ((List aa)×au×Unit))=>(if(JB.length+[JA].length)*80<=140737488355328 then(Oo () Om (JB++[JA]))else none)) (λ_ VQ VR=>some (VR,VQ,())))))))) (λ_ EM JC JD=>((λ(aqQ:Unit->au->(List aa)->aa->Option ((List aa)×au×Unit))=>((λ(k99:Unit->au->(List aa)->aa->Option ((List aa)×au×Unit))=>((λ(k95:Unit->au->(List aa)->aa->Option ((List aa)×au×Unit))=>((λ(Oz:Unit->au->(List aa)->aa->Option ((List aa)×au×Unit))=>((λ(VU:Unit->Int->au->(List aa)->aa->Option ((List aa)×au×Unit))=>(VU () JD.1 EM JC JD)) (λ_ JE Ot VV Ou=>((λ(VW:Unit->Int->Bool->au->(List aa)->aa->Option ((List aa)×au×Unit))=>(VW () JE (decide (JE=2)) Ot VV Ou)) (λ_ Ov VX Ox Oy VY=>(if VX=true then((mh n Ox [(1:Int),2,4,8]).bind λr86=>(Oz () r86.2.1 Oy (VY.1,r86.1,VY.2.2)))else((λ(V8:Unit->Int->Bool->au->(List aa)->aa->Option ((List aa)×au×Unit))=>((λ(k89:Unit->Int->Bool->au->(List aa)->aa->Option ((List aa)×au×Unit))=>(k89 () Ov (decide (Ov=3)) Ox Oy VY)) (λ_ V7 agb agc agd age=>(if agb=true then(V8 () V7 agb agc agd age)else((λ(aqV:Unit->Int->Bool->au->(List aa)->aa->Option ((List aa)×au×Unit))=>(aqV () V7 (decide (V7=4)) agc agd age)) (λ_ TL acF acG acH acI=>(if acF=true then(V8 () TL acF acG acH acI)else(V8 () TL (decide (TL=5)) acG acH acI)))))))) (λ_ agh avJ agi agj V9=>(if avJ=true then((iT n agi 40).bind λr91=>(Oz () r91.2.1 agj (V9.1,r91.1,V9.2.2)))else((λ(k93:Unit->Int->Bool->au->(List aa)->aa->Option ((List aa)×au×Unit))=>((λ(k92:Unit->Int->Bool->au->(List aa)->aa->Option ((List aa)×au×Unit))=>(k92 () agh (decide (agh=6)) agi agj V9)) (λ_ V_ agk agl agm agn=>(if agk=true then(k93 () V_ agk agl agm agn)else(k93 () V_ (decide (V_=7)) agl agm agn))))) (λ_ avL avM agq agr OC=>(if avM=true then((iT n agq 4).bind λWQ=>(if aZ WQ.1 [[(97:Int)],[(104:Int),69],[(1078:Int)],[(228:Int)]].length then(k95 () WQ.2.1 agr (OC.1,OC.2.1,[[(97:Int)],[(104:Int),69],[(1078:Int)],[(228:Int)]].getD WQ.1.toNat ([]:List Int),OC.2.2.2))else none))else((λ(k97:Unit->Bool->au->(List aa)->aa->Option ((List aa)×au×Unit))=>(k97 () (decide (avL=8)) agq agr OC)) (λ_ avT agu agv JG=>(if avT=true then((rZ n agu).bind λr98=>(k99 () r98.2.1 agv (JG.1,JG.2.1,JG.2.2.1,r98.1,JG.2.2.2.2)))else(aqQ () agu agv JG)))))))))))))))) (λ_ OA JF OB=>((λ(V4:Unit->au->(List aa)->Option ((List aa)×au×Unit))=>(if(JF.length+[OB].length)*80<=140737488355328 then(V4 () OA (JF++[OB]))else none)) (λ_ V5 V6=>some (V6,V5,())))))) (λ_ avO ags agt=>((λ(k96:Unit->au->(List aa)->Option ((List aa)×au×Unit))=>(if(ags.length+[agt].length)*80<=140737488355328 then(k96 () avO (ags++[agt]))else none)) (λ_ avQ avR=>some (avR,avQ,())))))) (λ_ avV agw agx=>((λ(aqN:Unit->au->(List aa)->Option ((List aa)×au×Unit))=>(if(agw.length+[agx].length)*80<=140737488355328 then(aqN () avV (agw++[agx]))else none)) (λ_ aqO aqP=>some (aqP,aqO,())))))) (λ_ aqR acD acE=>((λ(aqS:Unit->au->(List aa)->Option ((List aa)×au×Unit))=>(if(acD.length+[acE].length)*80<=140737488355328 then(aqS () aqR (acD++[acE]))else none)) (λ_ aqT aqU=>some (aqU,aqT,())))))))))))) (λ_ aqX aqY aqZ acJ=>((λ(asy:Unit->Int->au->(List aa)->aa->Option ((List aa)×au×Unit))=>((λ(aq5:Unit->Int->au->aa->(List aa)->Option ((List aa)×au×Unit))=>((λ(aq0:Unit->Int->Bool->au->(List aa)->aa->Option ((List aa)×au×Unit))=>(aq0 () aqX (decide (acJ.1>=9)) aqY aqZ acJ)) (λ_ TM aq1 acK acL acM=>(if aq1=true then((λ(aq2:Unit->Int->au->aa->(List aa)->Option ((List aa)×au×Unit))=>((q9 n acK acL (i64.wrap (TM-1))).bind λahw=>(aq2 () TM ahw.2.1 acM ahw.1))) (λ_ aq3 aq4 Ip acN=>(aq5 () aq3 aq4 (Ip.1,Ip.2.1,Ip.2.2.1,Ip.2.2.2.1,i64.wrap ((acN.length:Int)-1),Ip.2.2.2.2.2) acN)))else(asy () TM acK acL acM))))) (λ_ aq6 aq7 acO aq8=>((λ(arR:Unit->au->aa->(List aa)->Option ((List aa)×au×Unit))=>((λ(ard:Unit->au->aa->(List aa)->Option ((List aa)×au×Unit))=>((λ(aq9:Unit->Int->Bool->au->aa->(List aa)->Option ((List aa)×au×Unit))=>((nK n acO.1).bind λaxy=>(aq9 () aq6 axy.1 aq7 acO aq8))) (λ_ aq_ ara acP acQ acR=>(if ara=true then((λ(arb:Unit->au->aa->(List aa)->Option ((List aa)×au×Unit))=>((q9 n acP acR (i64.wrap (aq_-1))).bind λahx=>(arb () ahx.2.1 acQ ahx.1))) (λ_ arc D7 acS=>(ard () arc (D7.1,D7.2.1,D7.2.2.1,D7.2.2.2.1,D7.2.2.2.2.1,i64.wrap ((acS.length:Int)-1),D7.2.2.2.2.2.2) acS)))else(arR () acP acQ acR))))) (λ_ arf acT arh=>((λ(arL:Unit->au->aa->(List aa)->Option ((List aa)×au×Unit))=>((λ(arG:Unit->au->aa->(List aa)->Option ((List aa)×au×Unit))=>((λ(arz:Unit->au->aa->(List aa)->Option ((List aa)×au×Unit))=>((λ(acY:Unit->au->aa->(List aa)->Option ((List aa)×au×Unit))=>((λ(ari:Unit->Int->au->aa->(List aa)->Option ((List aa)×au×Unit))=>(ari () acT.1 arf acT arh)) (λ_ acU arj ark arl=>((λ(arn:Unit->Int->Bool->au->aa->(List aa)->Option ((List aa)×au×Unit))=>(arn () acU (decide (acU=2)) arj ark arl)) (λ_ acV aro acW TN acX=>(if aro=true then((mh n acW [(1:Int),2,4,8]).bind λahy=>(acY () ahy.2.1 (TN.1,ahy.1,TN.2.2) acX))else((λ(TQ:Unit->Int->Bool->au->aa->(List aa)->Option ((List aa)×au×Unit))=>((λ(aru:Unit->Int->Bool->au->aa->(List aa)->Option ((List aa)×au×Unit))=>(aru () acV (decide (acV=3)) acW TN acX)) (λ_ TP ac1 ac2 ac3 ac4=>(if ac1=true then(TQ () TP ac1 ac2 ac3 ac4)else((λ(arQ:Unit->Int->Bool->au->aa->(List aa)->Option ((List aa)×au×Unit))=>(arQ () TP (decide (TP=4)) ac2 ac3 ac4)) (λ_ TT adt adu adv adw=>(if adt=true then(TQ () TT adt adu adv adw)else(TQ () TT (decide (TT=5)) adu adv adw)))))))) (λ_ ac5 arv ac6 TR ac7=>(if arv=true then((iT n ac6 40).bind λahz=>(acY () ahz.2.1 (TR.1,ahz.1,TR.2.2) ac7))else((λ(adb:Unit->Int->Bool->au->aa->(List aa)->Option ((List aa)×au×Unit))=>((λ(arw:Unit->Int->Bool->au->aa->(List aa)->Option ((List aa)×au×Unit))=>(arw () ac5 (decide (ac5=6)) ac6 TR ac7)) (λ_ TS ac8 ac9 ac_ ada=>(if ac8=true then(adb () TS ac8 ac9 ac_ ada)else(adb () TS (decide (TS=7)) ac9 ac_ ada))))) (λ_ arx ary ade MM adf=>(if ary=true then((iT n ade 4).bind λWI=>(if aZ WI.1 [[(97:Int)],[(104:Int),69],[(1078:Int)],[(228:Int)]].length then(arz () WI.2.1 (MM.1,MM.2.1,[[(97:Int)],[(104:Int),69],[(1078:Int)],[(228:Int)]].getD WI.1.toNat ([]:List Int),MM.2.2.2) adf)else none))else((λ(arE:Unit->Bool->au->aa->(List aa)->Option ((List aa)×au×Unit))=>(arE () (decide (arx=8)) ade MM adf)) (λ_ arF adi Iq adj=>(if arF=true then((rZ n adi).bind λahA=>(arG () ahA.2.1 (Iq.1,Iq.2.1,Iq.2.2.1,ahA.1,Iq.2.2.2.2) adj))else(arL () adi Iq adj)))))))))))))))) (λ_ arp acZ ac0=>((λ(arq:Unit->au->(List aa)->Option ((List aa)×au×Unit))=>(if(ac0.length+[acZ].length)*80<=140737488355328 then(arq () arp (ac0++[acZ]))else none)) (λ_ ars art=>some (art,ars,())))))) (λ_ arA adg adh=>((λ(arB:Unit->au->(List aa)->Option ((List aa)×au×Unit))=>(if(adh.length+[adg].length)*80<=140737488355328 then(arB () arA (adh++[adg]))else none)) (λ_ arC arD=>some (arD,arC,())))))) (λ_ arH adk adl=>((λ(arI:Unit->au->(List aa)->Option ((List aa)×au×Unit))=>(if(adl.length+[adk].length)*80<=140737488355328 then(arI () arH (adl++[adk]))else none)) (λ_ arJ arK=>some (arK,arJ,())))))) (λ_ arM adr ads=>((λ(arN:Unit->au->(List aa)->Option ((List aa)×au×Unit))=>(if(ads.length+[adr].length)*80<=140737488355328 then(arN () arM (ads++[adr]))else none)) (λ_ arO arP=>some (arP,arO,())))))))) (λ_ arS adx arT=>((λ(asr:Unit->au->aa->(List aa)->Option ((List aa)×au×Unit))=>((λ(asj:Unit->au->aa->(List aa)->Option ((List aa)×au×Unit))=>((λ(asa:Unit->au->aa->(List aa)->Option ((List aa)×au×Unit))=>((λ(adC:Unit->au->aa->(List aa)->Option ((List aa)×au×Unit))=>((λ(arU:Unit->Int->au->aa->(List aa)->Option ((List aa)×au×Unit))=>(arU () adx.1 arS adx arT)) (λ_ ady arV arW arX=>((λ(arY:Unit->Int->Bool->au->aa->(List aa)->Option ((List aa)×au×Unit))=>(arY () ady (decide (ady=2)) arV arW arX)) (λ_ adz arZ adA TU adB=>(if arZ=true then((mh n adA [(1:Int),2,4,8]).bind λahB=>(adC () ahB.2.1 (TU.1,ahB.1,TU.2.2) adB))else((λ(TW:Unit->Int->Bool->au->aa->(List aa)->Option ((List aa)×au×Unit))=>((λ(ar6:Unit->Int->Bool->au->aa->(List aa)->Option ((List aa)×au×Unit))=>(ar6 () adz (decide (adz=3)) adA TU adB)) (λ_ TV adF adG adH adI=>(if adF=true then(TW () TV adF adG adH adI)else((λ(asx:Unit->Int->Bool->au->aa->(List aa)->Option ((List aa)×au×Unit))=>(asx () TV (decide (TV=4)) adG adH adI)) (λ_ T9 ad3 ad4 ad5 ad6=>(if ad3=true then(TW () T9 ad3 ad4 ad5 ad6)else(TW () T9 (decide (T9=5)) ad4 ad5 ad6)))))))) (λ_ adJ ar7 adK TY adL=>(if ar7=true then((iT n adK 40).bind λahC=>(adC () ahC.2.1 (TY.1,ahC.1,TY.2.2) adL))else((λ(adQ:Unit->Int->Bool->au->aa->(List aa)->Option ((List aa)×au×Unit))=>((λ(ar8:Unit->Int->Bool->au->aa->(List aa)->Option ((List aa)×au×Unit))=>(ar8 () adJ (decide (adJ=6)) adK TY adL)) (λ_ TZ adM adN adO adP=>(if adM=true then(adQ () TZ adM adN adO adP)else(adQ () TZ (decide (TZ=7)) adN adO adP))))) (λ_ ar9 ar_ adR MN adS=>(if ar_=true then((iT n adR 4).bind λWJ=>(if aZ WJ.1 [[(97:Int)],[(104:Int),69],[(1078:Int)],[(228:Int)]].length then(asa () WJ.2.1 (MN.1,MN.2.1,[[(97:Int)],[(104:Int),69],[(1078:Int)],[(228:Int)]].getD WJ.1.toNat ([]:List Int),MN.2.2.2) adS)else none))else((λ(asg:Unit->Bool->au->aa->(List aa)->Option ((List aa)×au×Unit))=>(asg () (decide (ar9=8)) adR MN adS)) (λ_ ash adV Ir adW=>(if ash=true then((rZ n adV).bind λahD=>(asj () ahD.2.1 (Ir.1,Ir.2.1,Ir.2.2.1,ahD.1,Ir.2.2.2.2) adW))else(asr () adV Ir adW)))))))))))))))) (λ_ ar0 adD adE=>((λ(ar1:Unit->au->(List aa)->Option ((List aa)×au×Unit))=>(if(adE.length+[adD].length)*80<=140737488355328 then(ar1 () ar0 (adE++[adD]))else none)) (λ_ ar2 ar3=>some (ar3,ar2,())))))) (λ_ asb adT adU=>((λ(asc:Unit->au->(List aa)->Option ((List aa)×au×Unit))=>(if(adU.length+[adT].length)*80<=140737488355328 then(asc () asb (adU++[adT]))else none)) (λ_ ase asf=>some (asf,ase,())))))) (λ_ asl adY adZ=>((λ(asn:Unit->au->(List aa)->Option ((List aa)×au×Unit))=>(if(adZ.length+[adY].length)*80<=140737488355328 then(asn () asl (adZ++[adY]))else none)) (λ_ aso asq=>some (asq,aso,())))))) (λ_ ast ad1 ad2=>((λ(asu:Unit->au->(List aa)->Option ((List aa)×au×Unit))=>(if(ad2.length+[ad1].length)*80<=140737488355328 then(asu () ast (ad2++[ad1]))else none)) (λ_ asv asw=>some (asw,asv,())))))))))) (λ_ asz asA asB ad7=>((λ(atj:Unit->au->(List aa)->aa->Option ((List aa)×au×Unit))=>((λ(asJ:Unit->au->aa->(List aa)->Option ((List aa)×au×Unit))=>((λ(asC:Unit->Int->Bool->au->(List aa)->aa->Option ((List aa)×au×Unit))=>((nK n ad7.1).bind λaxz=>(asC () asz axz.1 asA asB ad7))) (λ_ asD asE ad8 ad9 ad_=>(if asE=true then((λ(asF:Unit->au->aa->(List aa)->Option ((List aa)×au×Unit))=>((q9 n ad8 ad9 (i64.wrap (asD-1))).bind λahE=>(asF () ahE.2.1 ad_ ahE.1))) (λ_ asG D9 aea=>(asJ () asG (D9.1,D9.2.1,D9.2.2.1,D9.2.2.2.1,D9.2.2.2.2.1,i64.wrap ((aea.length:Int)-1),D9.2.2.2.2.2.2) aea)))else(atj () ad8 ad9 ad_))))) (λ_ asK aec asL=>((λ(atd:Unit->au->aa->(List aa)->Option ((List aa)×au×Unit))=>((λ(as9:Unit->au->aa->(List aa)->Option ((List aa)×au×Unit))=>((λ(as2:Unit->au->aa->(List aa)->Option ((List aa)×au×Unit))=>((λ(aeh:Unit->au->aa->(List aa)->Option ((List aa)×au×Unit))=>((λ(asM:Unit->Int->au->aa->(List aa)->Option ((List aa)×au×Unit))=>(asM () aec.1 asK aec asL)) (λ_ aed asN asO asP=>((λ(asQ:Unit->Int->Bool->au->aa->(List aa)->Option ((List aa)×au×Unit))=>(asQ () aed (decide (aed=2)) asN asO asP)) (λ_ aee asR aef T_ aeg=>(if asR=true then((mh n aef [(1:Int),2,4,8]).bind λahF=>(aeh () ahF.2.1 (T_.1,ahF.1,T_.2.2) aeg))else((λ(Ub:Unit->Int->Bool->au->aa->(List aa)->Option ((List aa)×au×Unit))=>((λ(asW:Unit->Int->Bool->au->aa->(List aa)->Option ((List aa)×au×Unit))=>(asW () aee (decide (aee=3)) aef T_ aeg)) (λ_ Ua aek ael aem aen=>(if aek=true then(Ub () Ua aek ael aem aen)else((λ(ati:Unit->Int->Bool->au->aa->(List aa)->Option ((List aa)×au×Unit))=>(ati () Ua (decide (Ua=4)) ael aem aen)) (λ_ Ui aeJ aeK aeL aeM=>(if aeJ=true then(Ub () Ui aeJ aeK aeL aeM)else(Ub () Ui (decide (Ui=5)) aeK aeL aeM)))))))) (λ_ aeo asX aep Uc aer=>(if asX=true then((iT n aep 40).bind λahG=>(aeh () ahG.2.1 (Uc.1,ahG.1,Uc.2.2) aer))else((λ(aew:Unit->Int->Bool->au->aa->(List aa)->Option ((List aa)×au×Unit))=>((λ(asY:Unit->Int->Bool->au->aa->(List aa)->Option ((List aa)×au×Unit))=>(asY () aeo (decide (aeo=6)) aep Uc aer)) (λ_ Ud aes aet aeu aev=>(if aes=true then(aew () Ud aes aet aeu aev)else(aew () Ud (decide (Ud=7)) aet aeu aev))))) (λ_ as0 as1 aex MP aey=>(if as1=true then((iT n aex 4).bind λWK=>(if aZ WK.1 [[(97:Int)],[(104:Int),69],[(1078:Int)],[(228:Int)]].length then(as2 () WK.2.1 (MP.1,MP.2.1,[[(97:Int)],[(104:Int),69],[(1078:Int)],[(228:Int)]].getD WK.1.toNat ([]:List Int),MP.2.2.2) aey)else none))else((λ(as7:Unit->Bool->au->aa->(List aa)->Option ((List aa)×au×Unit))=>(as7 () (decide (as0=8)) aex MP aey)) (λ_ as8 aeB Iu aeC=>(if as8=true then((rZ n aeB).bind λahH=>(as9 () ahH.2.1 (Iu.1,Iu.2.1,Iu.2.2.1,ahH.1,Iu.2.2.2.2) aeC))else(atd () aeB Iu aeC)))))))))))))))) (λ_ asS aei aej=>((λ(asT:Unit->au->(List aa)->Option ((List aa)×au×Unit))=>(if(aej.length+[aei].length)*80<=140737488355328 then(asT () asS (aej++[aei]))else none)) (λ_ asU asV=>some (asV,asU,())))))) (λ_ as3 aez aeA=>((λ(as4:Unit->au->(List aa)->Option ((List aa)×au×Unit))=>(if(aeA.length+[aez].length)*80<=140737488355328 then(as4 () as3 (aeA++[aez]))else none)) (λ_ as5 as6=>some (as6,as5,())))))) (λ_ as_ aeD aeE=>((λ(ata:Unit->au->(List aa)->Option ((List aa)×au×Unit))=>(if(aeE.length+[aeD].length)*80<=140737488355328 then(ata () as_ (aeE++[aeD]))else none)) (λ_ atb atc=>some (atc,atb,())))))) (λ_ ate aeF aeG=>((λ(atf:Unit->au->(List aa)->Option ((List aa)×au×Unit))=>(if(aeG.length+[aeF].length)*80<=140737488355328 then(atf () ate (aeG++[aeF]))else none)) (λ_ atg ath=>some (ath,atg,())))))))) (λ_ atl atm aeN=>((λ(atS:Unit->au->(List aa)->aa->Option ((List aa)×au×Unit))=>((λ(atM:Unit->au->(List aa)->aa->Option ((List aa)×au×Unit))=>((λ(atF:Unit->au->(List aa)->aa->Option ((List aa)×au×Unit))=>((λ(aeS:Unit->au->(List aa)->aa->Option ((List aa)×au×Unit))=>((λ(atn:Unit->Int->au->(List aa)->aa->Option ((List aa)×au×Unit))=>(atn () aeN.1 atl atm aeN)) (λ_ aeO ato atp atq=>((λ(atr:Unit->Int->Bool->au->(List aa)->aa->Option ((List aa)×au×Unit))=>(atr () aeO (decide (aeO=2)) ato atp atq)) (λ_ aeP att aeQ aeR Uj=>(if att=true then((mh n aeQ [(1:Int),2,4,8]).bind λahI=>(aeS () ahI.2.1 aeR (Uj.1,ahI.1,Uj.2.2)))else((λ(Ul:Unit->Int->Bool->au->(List aa)->aa->Option ((List aa)×au×Unit))=>((λ(aty:Unit->Int->Bool->au->(List aa)->aa->Option ((List aa)×au×Unit))=>(aty () aeP (decide (aeP=3)) aeQ aeR Uj)) (λ_ Uk aeV aeW aeX aeY=>(if aeV=true then(Ul () Uk aeV aeW aeX aeY)else((λ(atY:Unit->Int->Bool->au->(List aa)->aa->Option ((List aa)×au×Unit))=>(atY () Uk (decide (Uk=4)) aeW aeX aeY)) (λ_ Ur afh afi afj afk=>(if afh=true then(Ul () Ur afh afi afj afk)else(Ul () Ur (decide (Ur=5)) afi afj afk)))))))) (λ_ aeZ atz ae0 ae1 Um=>(if atz=true then((iT n ae0 40).bind λahJ=>(aeS () ahJ.2.1 ae1 (Um.1,ahJ.1,Um.2.2)))else((λ(ae6:Unit->Int->Bool->au->(List aa)->aa->Option ((List aa)×au×Unit))=>((λ(atC:Unit->Int->Bool->au->(List aa)->aa->Option ((List aa)×au×Unit))=>(atC () aeZ (decide (aeZ=6)) ae0 ae1 Um)) (λ_ Un ae2 ae3 ae4 ae5=>(if ae2=true then(ae6 () Un ae2 ae3 ae4 ae5)else(ae6 () Un (decide (Un=7)) ae3 ae4 ae5))))) (λ_ atD atE ae7 ae8 MR=>(if atE=true then((iT n ae7 4).bind λWL=>(if aZ WL.1 [[(97:Int)],[(104:Int),69],[(1078:Int)],[(228:Int)]].length then(atF () WL.2.1 ae8 (MR.1,MR.2.1,[[(97:Int)],[(104:Int),69],[(1078:Int)],[(228:Int)]].getD WL.1.toNat ([]:List Int),MR.2.2.2))else none))else((λ(atK:Unit->Bool->au->(List aa)->aa->Option ((List aa)×au×Unit))=>(atK () (decide (atD=8)) ae7 ae8 MR)) (λ_ atL afa afb Iw=>(if atL=true then((rZ n afa).bind λahK=>(atM () ahK.2.1 afb (Iw.1,Iw.2.1,Iw.2.2.1,ahK.1,Iw.2.2.2.2)))else(atS () afa afb Iw)))))))))))))))) (λ_ atu aeT aeU=>((λ(atv:Unit->au->(List aa)->Option ((List aa)×au×Unit))=>(if(aeT.length+[aeU].length)*80<=140737488355328 then(atv () atu (aeT++[aeU]))else none)) (λ_ atw atx=>some (atx,atw,())))))) (λ_ atG ae9 ae_=>((λ(atH:Unit->au->(List aa)->Option ((List aa)×au×Unit))=>(if(ae9.length+[ae_].length)*80<=140737488355328 then(atH () atG (ae9++[ae_]))else none)) (λ_ atI atJ=>some (atJ,atI,())))))) (λ_ atN afc afd=>((λ(atO:Unit->au->(List aa)->Option ((List aa)×au×Unit))=>(if(afc.length+[afd].length)*80<=140737488355328 then(atO () atN (afc++[afd]))else none)) (λ_ atP atQ=>some (atQ,atP,())))))) (λ_ atT afe aff=>((λ(atV:Unit->au->(List aa)->Option ((List aa)×au×Unit))=>(if(afe.length+[aff].length)*80<=140737488355328 then(atV () atT (afe++[aff]))else none)) (λ_ atW atX=>some (atX,atW,())))))))))))))))
def O1:List aM:=[.rw wU [] [4294967295] [],.own (.sl 51 iL) [2,51,96],.val (.int .i64) []]
def ah9:List gJ:=[.own (.sl 51 iL) [2,51,96] [] []]
def Cm:Entry:=⟨59,O1,ah9,λn (c:Cont (kin O1))=>q9 n c.1 c.2.1 c.2.2.1⟩
def YO:Hint:=⟨0,[76],[],[],[(30,some 10,tY),(30,some 16,tY),(59,some 25,Cm),(76,some 32,FP),(59,some 37,Cm),(30,some 48,tY),(29,some 55,pR),(29,some 66,pR),(92,some 73,X3)],[],[],[],[68]⟩
theorem D_5:∀n (c:Cont (kin O1)),sJ T YO Tryz.f59 O1 ah9 n c=Cm.F (n+1) c:=by intro n c;kernel_rfl
theorem Qz[Fr][aI.LaidTab prog][aI.LaidErr prog][aS.bJ prog]:∀(n:Nat),bg prog n Cm
 |0=>Cf λc=>rfl
 |n+1=>BR mixed bR (E:=Cm) func59 (by kernel_rfl) (hi:=YO) (aH (vv n) (aH (vv n) (aH (Qz n) (aH (K3 n) (aH (Qz n) (aH (vv n) (aH (qE n) (aH (qE n) (aH (K_4 n) bT))))))))) (D_5 n)
def F6(n:Nat)(a0:au):Option ((List aa)×au×Unit):=(iT n a0 3).bind λr1=>(q9 n r1.2.1 ([]:List aa) r1.1).bind λr2=>some (r2.1,r2.2.1,())
def P9:Entry:=⟨27,[.rw wU [] [4294967295] []],[.own (.sl 51 iL) [2,51,96] [] []],λn c=>F6 n c.1⟩
theorem Y9[Fr][aI.LaidTab prog][aI.LaidErr prog][aS.bJ prog](n:Nat):bg prog n P9:=bX mixed bR func27 (by kernel_rfl) (hi:=⟨0,[],[],[],[(29,some 5,pR),(59,some 6,Cm)],[],[],[],[]⟩) (aH (qE n) (aH (Qz n) bT)) (by intro n c;kernel_rfl)
def F8(n:Nat)(a0:Int):Option mE:=if aZ a0 [([]:List Int),[97,108,108],[102,108,97,103],[115,105,110,99,101],[98,101,102,111,114,101],[108,97,114,103,101,114],[115,117,98,106,101,99,116],[98,111,100,121],[117,105,100],[110,111,116],[97,110,100],[111,114]].length then some ([([]:List Int),[97,108,108],[102,108,97,103],[115,105,110,99,101],[98,101,102,111,114,101],[108,97,114,103,101,114],[115,117,98,106,101,99,116],[98,111,100,121],[117,105,100],[110,111,116],[97,110,100],[111,114]].getD a0.toNat ([]:List Int),())else none
def Qc:Entry:=⟨60,[.val (.int .i64) []],[.val .str [] []],λn c=>F8 n c.1⟩
theorem Zc[Fr][aI.LaidTab prog][aI.LaidErr prog][aS.bJ prog](n:Nat):bg prog n Qc:=bX mixed bR func60 (by kernel_rfl) (hi:=akG) bT (by intro n c;kernel_rfl)
def Qr(n:Nat)(a0:Int):Option mE:=if aZ a0 [[115,101,101,110],[97,110,115,119,101,114,101,100],[102,108,97,103,103,101,100],[100,101,108,101,116,101,100]].length then some ([[115,101,101,110],[97,110,115,119,101,114,101,100],[102,108,97,103,103,101,100],[100,101,108,101,116,101,100]].getD a0.toNat ([]:List Int),())else none
def Yr:Entry:=⟨121,[.val (.int .i64) []],[.val .str [] []],λn c=>Qr n c.1⟩
theorem K_8[Fr][aI.LaidTab prog][aI.LaidErr prog][aS.bJ prog](n:Nat):bg prog n Yr:=bX mixed bR func121 (by kernel_rfl) (hi:=akG) bT (by intro n c;kernel_rfl)
def zY(n:Nat)(a0:Int):Option mE:=rounds (λL1 (v1:Int×au)=>if decide (v1.2.2.1<4)=true then if 0<=(IntKind.u64.wrap v1.2.2.1)then if(2:Int)≠0 then if decide (((v1.1.fdiv (2 ^ min (IntKind.u64.wrap v1.2.2.1).toNat (IntKind.bits .i64))).tmod 2)=0)=true then L1 (v1.1,v1.2.1,i64.wrap (v1.2.2.1+1),())else if(!decide (v1.2.1=([]:List Int)))=true then if v1.2.1.length+[32].length<=9223372036854775807 then(Qr n v1.2.2.1).bind λr2=>if(v1.2.1++[32]).length+r2.1.length<=9223372036854775807 then L1 (v1.1,(v1.2.1++[32])++r2.1,i64.wrap (v1.2.2.1+1),())else none else none else(Qr n v1.2.2.1).bind λr3=>if v1.2.1.length+r3.1.length<=9223372036854775807 then L1 (v1.1,v1.2.1++r3.1,i64.wrap (v1.2.2.1+1),())else none else none else none else if decide (v1.2.1=([]:List Int))=true then some ([110,111,110,101],())else some (v1.2.1,())) n (a0,([]:List Int),0,())
def Qg:Entry:=⟨93,[.val (.int .i64) []],[.val .str [] []],λn c=>zY n c.1⟩
theorem Zg[Fr][aI.LaidTab prog][aI.LaidErr prog][aS.bJ prog](n:Nat):bg prog n Qg:=bX mixed bR func93 (by kernel_rfl) (hi:=⟨0,[],[(0,[0,3,4],[])],[],[(121,some 21,Yr)],[],[],[],[]⟩) (aH (K_8 n) bT) (by intro n c;kernel_rfl)
def lS(n:Nat)(a0:Int)(a1:Int)(a2:Int):Option (Bool×Unit):=if decide (a0>=a1)=true then some (decide (a0<=a2),())else some (false,())
def pU:Entry:=⟨97,[.val (.int .i64) [],.val (.int .i64) [],.val (.int .i64) []],[.val .bool [] []],λn c=>lS n c.1 c.2.1 c.2.2.1⟩
theorem qF[Fr][aI.LaidTab prog][aI.LaidErr prog][aS.bJ prog](n:Nat):bg prog n pU:=bX mixed bR func97 (by kernel_rfl) (hi:=akG) bT (by intro n c;kernel_rfl)
def Cz(n:Nat)(a0:Int):Option (Int×Unit):=(lS n a0 0 160).bind λr1=>if r1.1=true then some (a0,())else if decide (a0=173)=true then some (a0,())else if decide (a0=167)=true then some (253,())else if decide (a0=8470)=true then some (240,())else(lS n a0 1025 1119).bind λr2=>if r2.1=true then if(!decide (a0=1037))=true then if(!decide (a0=1104))=true then if(!decide (a0=1117))=true then some (i64.wrap (a0-864),())else some ((-1),())else some ((-1),())else some ((-1),())else some ((-1),())
def PO:Entry:=⟨145,[.val (.int .i64) []],[.val (.int .i64) [] []],λn c=>Cz n c.1⟩
theorem YV[Fr][aI.LaidTab prog][aI.LaidErr prog][aS.bJ prog](n:Nat):bg prog n PO:=bX mixed bR func145 (by kernel_rfl) (hi:=⟨0,[],[],[],[(97,some 5,pU),(97,some 19,pU)],[],[],[],[]⟩) (aH (qF n) (aH (qF n) bT)) (by intro n c;kernel_rfl)
def mo(n:Nat)(a0:Int)(a1:Int):Option (Bool×Unit):=if decide (a0=1)=true then(lS n a1 0 127).bind λr1=>some (r1.1,())else if decide (a0=2)=true then(lS n a1 0 255).bind λr2=>some (r2.1,())else if decide (a0=3)=true then(Cz n a1).bind λr3=>some (decide (r3.1>=0),())else some (true,())
def PR:Entry:=⟨122,[.val (.int .i64) [],.val (.int .i64) []],[.val .bool [] []],λn c=>mo n c.1 c.2.1⟩
theorem YW[Fr][aI.LaidTab prog][aI.LaidErr prog][aS.bJ prog](n:Nat):bg prog n PR:=bX mixed bR func122 (by kernel_rfl) (hi:=⟨0,[],[],[],[(97,some 9,pU),(97,some 13,pU),(145,some 17,PO)],[],[],[],[]⟩) (aH (qF n) (aH (qF n) (aH (YV n) bT))) (by intro n c;kernel_rfl)
def KV(n:Nat)(a0:Int)(a1:Int):Option mE:=if decide (a0=1)=true then if decide (a0=1)=true then some ([u8.wrap a1],())else if decide (a0=3)=true then(Cz n a1).bind λr1=>some ([u8.wrap r1.1],())else if decide (a0=5)=true then if(256:Int)≠0 then if(256:Int)≠0 then some ([u8.wrap (i64.wrap (a1.tdiv 256)),u8.wrap (a1.tmod 256)],())else none else none else if decide (a1<128)=true then some ([u8.wrap a1],())else if decide (a1<2048)=true then if(64:Int)≠0 then if(64:Int)≠0 then some ([u8.wrap (i64.wrap ((192:Int)+(i64.wrap (a1.tdiv 64)))),u8.wrap (i64.wrap ((128:Int)+(a1.tmod 64)))],())else none else none else if(4096:Int)≠0 then if(64:Int)≠0 then if(64:Int)≠0 then if(64:Int)≠0 then some ([u8.wrap (i64.wrap ((224:Int)+(i64.wrap (a1.tdiv 4096)))),u8.wrap (i64.wrap ((128:Int)+((i64.wrap (a1.tdiv 64)).tmod 64))),u8.wrap (i64.wrap ((128:Int)+(a1.tmod 64)))],())else none else none else none else none else if decide (a0=2)=true then some ([u8.wrap a1],())else if decide (a0=3)=true then(Cz n a1).bind λr2=>some ([u8.wrap r2.1],())else if decide (a0=5)=true then if(256:Int)≠0 then if(256:Int)≠0 then some ([u8.wrap (i64.wrap (a1.tdiv 256)),u8.wrap (a1.tmod 256)],())else none else none else if decide (a1<128)=true then some ([u8.wrap a1],())else if decide (a1<2048)=true then if(64:Int)≠0 then if(64:Int)≠0 then some ([u8.wrap (i64.wrap ((192:Int)+(i64.wrap (a1.tdiv 64)))),u8.wrap (i64.wrap ((128:Int)+(a1.tmod 64)))],())else none else none else if(4096:Int)≠0 then if(64:Int)≠0 then if(64:Int)≠0 then if(64:Int)≠0 then some ([u8.wrap (i64.wrap ((224:Int)+(i64.wrap (a1.tdiv 4096)))),u8.wrap (i64.wrap ((128:Int)+((i64.wrap (a1.tdiv 64)).tmod 64))),u8.wrap (i64.wrap ((128:Int)+(a1.tmod 64)))],())else none else none else none else none
def XO:Entry:=⟨123,[.val (.int .i64) [],.val (.int .i64) []],[.own (.sl 5 (.int .u8)) [5] [] []],λn c=>KV n c.1 c.2.1⟩
theorem akH[Fr][aI.LaidTab prog][aI.LaidErr prog][aS.bJ prog](n:Nat):bg prog n XO:=bX mixed bR func123 (by kernel_rfl) (hi:=⟨0,[],[],[],[(145,some 15,PO)],[],[],[],[]⟩) (aH (YV n) bT) (by intro n c;kernel_rfl)
def F_(n:Nat)(a0:Int)(a1:List Int):Option au:=rounds (λL1 (v1:Int×(List Int)×CS)=>if decide (v1.2.2.1<(v1.2.1.length:Int))=true then if aZ v1.2.2.1 v1.2.1.length then(mo n v1.1 (v1.2.1.getD v1.2.2.1.toNat 0)).bind λr2=>if(!r2.1)=true then some (([]:List Int),8,())else if aZ v1.2.2.1 v1.2.1.length then(KV n v1.1 (v1.2.1.getD v1.2.2.1.toNat 0)).bind λr3=>if(v1.2.2.2.1.length+r3.1.length)*1<=140737488355328 then L1 (v1.1,v1.2.1,i64.wrap (v1.2.2.1+1),v1.2.2.2.1++r3.1,())else none else none else none else if decide ((v1.2.2.2.1.length:Int)>400)=true then some (([]:List Int),2,())else some (v1.2.2.2.1,0,())) n (a0,a1,0,([]:List Int),())
def XP:Entry:=⟨94,[.val (.int .i64) [],.val (.sl 2 (.int .i64)) []],[.own (.sl 5 (.int .u8)) [5] [] [],.val (.int .i64) [] []],λn c=>F_ n c.1 c.2.1⟩
theorem akI[Fr][aI.LaidTab prog][aI.LaidErr prog][aS.bJ prog](n:Nat):bg prog n XP:=bX mixed bR func94 (by kernel_rfl) (hi:=⟨0,[],[(0,[0,1,6,7],[258])],[],[(122,some 20,PR),(123,some 28,XO)],[],[],[],[]⟩) (aH (YW n) (aH (akH n) bT)) (by intro n c;kernel_rfl)
def rq:Nat->Int->Option mE
 |0,_=>none
 |n+1,a0=>(if decide (a0<10)=true then some ([u8.wrap (i64.wrap ((48:Int)+a0))],())else(if(10:Int)≠0 then((rq n (i64.wrap (a0.tdiv 10))).bind λr1=>(if(10:Int)≠0 then(if r1.1.length+[u8.wrap (i64.wrap ((48:Int)+(a0.tmod 10)))].length<=9223372036854775807 then some (r1.1++[u8.wrap (i64.wrap ((48:Int)+(a0.tmod 10)))],())else none)else none))else none))
def OY:List aM:=[.val (.int .i64) []]
def ah6:List gJ:=[.val .str [] []]
def Ci:Entry:=⟨96,OY,ah6,λn (c:Cont (kin OY))=>rq n c.1⟩
def YL:Hint:=⟨0,[],[],[],[(96,some 12,Ci)],[],[],[],[]⟩
theorem ai_:∀n (c:Cont (kin OY)),sJ T YL Tryz.f96 OY ah6 n c=Ci.F (n+1) c:=by intro n c;kernel_rfl
theorem Qv[Fr][aI.LaidTab prog][aI.LaidErr prog][aS.bJ prog]:∀(n:Nat),bg prog n Ci
 |0=>Cf λc=>rfl
 |n+1=>BR mixed bR (E:=Ci) func96 (by kernel_rfl) (hi:=YL) (aH (Qv n) bT) (ai_ n)
def zU(n:Nat)(a0:Int):Option mE:=if decide (a0=0)=true then some ([42],())else(rq n a0).bind λr1=>some (r1.1,())
def PS:Entry:=⟨124,[.val (.int .i64) []],[.val .str [] []],λn c=>zU n c.1⟩
theorem YX[Fr][aI.LaidTab prog][aI.LaidErr prog][aS.bJ prog](n:Nat):bg prog n PS:=bX mixed bR func124 (by kernel_rfl) (hi:=⟨0,[],[],[],[(96,some 6,Ci)],[],[],[],[]⟩) (aH (Qv n) bT) (by intro n c;kernel_rfl)
def F5(n:Nat)(a0:List aB):Option mE:=rounds (λL1 (v1:(List aB)×au)=>if decide (v1.2.2.1<(v1.1.length:Int))=true then if decide (v1.2.2.1>0)=true then if v1.2.1.length+[44].length<=9223372036854775807 then if aZ v1.2.2.1 v1.1.length then(zU n ((v1.1.getD v1.2.2.1.toNat fJ).1)).bind λr2=>if(v1.2.1++[44]).length+r2.1.length<=9223372036854775807 then if aZ v1.2.2.1 v1.1.length then if aZ v1.2.2.1 v1.1.length then if(!decide (((v1.1.getD v1.2.2.1.toNat fJ).1)=(((v1.1.getD v1.2.2.1.toNat fJ).2).1)))=true then if((v1.2.1++[44])++r2.1).length+[58].length<=9223372036854775807 then if aZ v1.2.2.1 v1.1.length then(zU n (((v1.1.getD v1.2.2.1.toNat fJ).2).1)).bind λr3=>if(((v1.2.1++[44])++r2.1)++[58]).length+r3.1.length<=9223372036854775807 then L1 (v1.1,(((v1.2.1++[44])++r2.1)++[58])++r3.1,i64.wrap (v1.2.2.1+1),())else none else none else none else L1 (v1.1,(v1.2.1++[44])++r2.1,i64.wrap (v1.2.2.1+1),())else none else none else none else none else none else if aZ v1.2.2.1 v1.1.length then(zU n ((v1.1.getD v1.2.2.1.toNat fJ).1)).bind λr4=>if v1.2.1.length+r4.1.length<=9223372036854775807 then if aZ v1.2.2.1 v1.1.length then if aZ v1.2.2.1 v1.1.length then if(!decide (((v1.1.getD v1.2.2.1.toNat fJ).1)=(((v1.1.getD v1.2.2.1.toNat fJ).2).1)))=true then if(v1.2.1++r4.1).length+[58].length<=9223372036854775807 then if aZ v1.2.2.1 v1.1.length then(zU n (((v1.1.getD v1.2.2.1.toNat fJ).2).1)).bind λr5=>if((v1.2.1++r4.1)++[58]).length+r5.1.length<=9223372036854775807 then L1 (v1.1,((v1.2.1++r4.1)++[58])++r5.1,i64.wrap (v1.2.2.1+1),())else none else none else none else L1 (v1.1,v1.2.1++r4.1,i64.wrap (v1.2.2.1+1),())else none else none else none else none else some (v1.2.1,())) n (a0,([]:List Int),0,())
def XQ:Entry:=⟨95,[.val (.sl 96 nO) []],[.val .str [] []],λn c=>F5 n c.1⟩
theorem akJ[Fr][aI.LaidTab prog][aI.LaidErr prog][aS.bJ prog](n:Nat):bg prog n XQ:=bX mixed bR func95 (by kernel_rfl) (hi:=⟨0,[],[(0,[0,3,4],[])],[],[(124,some 21,PS),(124,some 41,PS)],[],[],[],[]⟩) (aH (YX n) (aH (YX n) bT)) (by intro n c;kernel_rfl)
def xW(q0:(List aa)->Int->Option mE)(n:Nat)(a0:List aa)(a1:Int):Option mE:=(if aZ a1 a0.length then(if decide (((a0.getD a1.toNat aA).1)=1)=true then some (([]:List Int),())else(if decide (((a0.getD a1.toNat aA).1)=2)=true then((zY n (((a0.getD a1.toNat aA).2).1)).bind λr1=>(if [32].length+r1.1.length<=9223372036854775807 then some ([32]++r1.1,())else none))else(if decide (((a0.getD a1.toNat aA).1)=6)=true then(if decide (((a0.getD a1.toNat aA).1)=6)=true then((F_ n 4 ((((a0.getD a1.toNat aA).2).2).1)).bind λr2=>(if [32].length+r2.1.length<=9223372036854775807 then some ([32]++r2.1,())else none))else(if decide (((a0.getD a1.toNat aA).1)=8)=true then((F5 n (((((a0.getD a1.toNat aA).2).2).2).1)).bind λr3=>(if [32].length+r3.1.length<=9223372036854775807 then some ([32]++r3.1,())else none))else(if decide (((a0.getD a1.toNat aA).1)=9)=true then((q0 a0 ((((((a0.getD a1.toNat aA).2).2).2).2).1)).bind λr4=>(if [32].length+r4.1.length<=9223372036854775807 then some ([32]++r4.1,())else none))else(if decide (((a0.getD a1.toNat aA).1)=10)=true then(if decide (((a0.getD a1.toNat aA).1)=10)=true then((q0 a0 ((((((a0.getD a1.toNat aA).2).2).2).2).1)).bind λr5=>(if [32].length+r5.1.length<=9223372036854775807 then(if([32]++r5.1).length+[32].length<=9223372036854775807 then((q0 a0 (((((((a0.getD a1.toNat aA).2).2).2).2).2).1)).bind λr6=>(if(([32]++r5.1)++[32]).length+r6.1.length<=9223372036854775807 then some ((([32]++r5.1)++[32])++r6.1,())else none))else none)else none))else((rq n (((a0.getD a1.toNat aA).2).1)).bind λr7=>(if [32].length+r7.1.length<=9223372036854775807 then some ([32]++r7.1,())else none)))else(if decide (((a0.getD a1.toNat aA).1)=11)=true then((q0 a0 ((((((a0.getD a1.toNat aA).2).2).2).2).1)).bind λr8=>(if [32].length+r8.1.length<=9223372036854775807 then(if([32]++r8.1).length+[32].length<=9223372036854775807 then((q0 a0 (((((((a0.getD a1.toNat aA).2).2).2).2).2).1)).bind λr9=>(if(([32]++r8.1)++[32]).length+r9.1.length<=9223372036854775807 then some ((([32]++r8.1)++[32])++r9.1,())else none))else none)else none))else((rq n (((a0.getD a1.toNat aA).2).1)).bind λjG=>(if [32].length+jG.1.length<=9223372036854775807 then some ([32]++jG.1,())else none)))))))else(if decide (((a0.getD a1.toNat aA).1)=7)=true then((F_ n 4 ((((a0.getD a1.toNat aA).2).2).1)).bind λiC=>(if [32].length+iC.1.length<=9223372036854775807 then some ([32]++iC.1,())else none))else(if decide (((a0.getD a1.toNat aA).1)=8)=true then((F5 n (((((a0.getD a1.toNat aA).2).2).2).1)).bind λjH=>(if [32].length+jH.1.length<=9223372036854775807 then some ([32]++jH.1,())else none))else(if decide (((a0.getD a1.toNat aA).1)=9)=true then((q0 a0 ((((((a0.getD a1.toNat aA).2).2).2).2).1)).bind λjK=>(if [32].length+jK.1.length<=9223372036854775807 then some ([32]++jK.1,())else none))else(if decide (((a0.getD a1.toNat aA).1)=10)=true then(if decide (((a0.getD a1.toNat aA).1)=10)=true then((q0 a0 ((((((a0.getD a1.toNat aA).2).2).2).2).1)).bind λqV=>(if [32].length+qV.1.length<=9223372036854775807 then(if([32]++qV.1).length+[32].length<=9223372036854775807 then((q0 a0 (((((((a0.getD a1.toNat aA).2).2).2).2).2).1)).bind λiD=>(if(([32]++qV.1)++[32]).length+iD.1.length<=9223372036854775807 then some ((([32]++qV.1)++[32])++iD.1,())else none))else none)else none))else((rq n (((a0.getD a1.toNat aA).2).1)).bind λr16=>(if [32].length+r16.1.length<=9223372036854775807 then some ([32]++r16.1,())else none)))else(if decide (((a0.getD a1.toNat aA).1)=11)=true then((q0 a0 ((((((a0.getD a1.toNat aA).2).2).2).2).1)).bind λnC=>(if [32].length+nC.1.length<=9223372036854775807 then(if([32]++nC.1).length+[32].length<=9223372036854775807 then((q0 a0 (((((((a0.getD a1.toNat aA).2).2).2).2).2).1)).bind λuV=>(if(([32]++nC.1)++[32]).length+uV.1.length<=9223372036854775807 then some ((([32]++nC.1)++[32])++uV.1,())else none))else none)else none))else((rq n (((a0.getD a1.toNat aA).2).1)).bind λqo=>(if [32].length+qo.1.length<=9223372036854775807 then some ([32]++qo.1,())else none))))))))))else none)
def qA:Nat->(List aa)->Int->Option mE
 |0,_,_=>none
 |n+1,a0,a1=>(if aZ a1 a0.length then((F8 n ((a0.getD a1.toNat aA).1)).bind λr1=>((xW (λx0 x1=>qA n x0 x1) n a0 a1).bind λr2=>(if r1.1.length+r2.1.length<=9223372036854775807 then some (r1.1++r2.1,())else none)))else none)
def OZ:List aM:=[.val (.sl 51 iL) [],.val (.int .i64) []]
def ah7:List gJ:=[.val .str [] []]
def wJ:Entry:=⟨28,OZ,ah7,λn (c:Cont (kin OZ))=>qA n c.1 c.2.1⟩
def XR:Entry:=⟨61,[.val (.sl 51 iL) [],.val (.int .i64) []],[.val .str [] []],λn c=>xW (qA n) n c.1 c.2.1⟩
theorem akK[Fr][aI.LaidTab prog][aI.LaidErr prog][aS.bJ prog](n:Nat)(h0:bg prog n wJ):bg prog n XR:=bX mixed bR func61 (by kernel_rfl) (hi:=⟨0,[],[],[],[(93,some 23,Qg),(94,some 33,XP),(95,some 45,XQ),(28,some 54,wJ),(28,some 64,wJ),(28,some 72,wJ),(96,some 78,Ci)],[],[],[],[]⟩) (aH (Zg n) (aH (akI n) (aH (akJ n) (aH h0 (aH h0 (aH h0 (aH (Qv n) bT))))))) (by intro n c;kernel_rfl)
def YM:Hint:=⟨0,[],[],[],[(60,some 10,Qc),(61,some 13,XR)],[],[],[],[]⟩
theorem aja:∀n (c:Cont (kin OZ)),sJ T YM Tryz.f28 OZ ah7 n c=wJ.F (n+1) c:=by intro n c;kernel_rfl
theorem Qw[Fr][aI.LaidTab prog][aI.LaidErr prog][aS.bJ prog]:∀(n:Nat),bg prog n wJ
 |0=>Cf λc=>rfl
 |n+1=>BR mixed bR (E:=wJ) func28 (by kernel_rfl) (hi:=YM) (aH (Zc n) (aH (akK n (Qw n)) bT)) (aja n)
def KQ(n:Nat)(a0:List Int):Option mE:=(F9 n a0).bind λr1=>(F6 n r1.1).bind λr2=>(qA n r2.1 (i64.wrap ((r2.1.length:Int)-1))).bind λr3=>(iT n r2.2.1 5).bind λr4=>if decide (r4.1=0)=true then(iT n r4.2.1 (r3.1.length:Int)).bind λr5=>(mh n r5.2.1 [(32:Int),120,48,200]).bind λr6=>if aZ r5.1 r3.1.length then some (r3.1.set r5.1.toNat (u8.wrap r6.1),())else none else if decide (r4.1=1)=true then(iT n r4.2.1 (r3.1.length:Int)).bind λr7=>if 0<=r7.1/\r7.1<=(r3.1.length:Int)then some (r3.1.take r7.1.toNat,())else none else if decide (r4.1=2)=true then(iT n r4.2.1 4).bind λr8=>if aZ r8.1 [[32,97,108,108],([]:List Int),[32,110,111,116],[42]].length then if(r3.1.length+([[32,97,108,108],([]:List Int),[32,110,111,116],[42]].getD r8.1.toNat ([]:List Int)).length)*1<=140737488355328 then some (r3.1++([[32,97,108,108],([]:List Int),[32,110,111,116],[42]].getD r8.1.toNat ([]:List Int)),())else none else none else some (r3.1,())
def XT:Entry:=⟨11,[.val (.sl 5 (.int .u8)) []],[.val .str [] []],λn c=>KQ n c.1⟩
theorem akL[Fr][aI.LaidTab prog][aI.LaidErr prog][aS.bJ prog](n:Nat):bg prog n XT:=bX mixed bR func11 (by kernel_rfl) (hi:=⟨0,[],[],[],[(26,some 7,PN),(27,some 9,P9),(28,some 14,wJ),(29,some 17,pR),(29,some 24,pR),(30,some 27,tY),(29,some 36,pR),(29,some 43,pR)],[],[],[],[]⟩) (aH (YU n) (aH (Y9 n) (aH (Qw n) (aH (qE n) (aH (qE n) (aH (vv n) (aH (qE n) (aH (qE n) bT)))))))) (by intro n c;kernel_rfl)
def awi:Go.Shelf.Ren:=⟨fun|147=>19|221=>41|268=>78|138=>79|143=>80|195=>106|197=>107|218=>108|219=>109|260=>128|217=>129|225=>130|224=>131|267=>132|266=>148|314=>149|n=>n,fun|9=>9|3=>3|31=>40|4=>4|0=>0|105=>122|21=>21|5=>5|46=>136|119=>156|139=>159|138=>158|146=>161|51=>160|n=>n,fun|1=>0|3=>1|4=>2|n=>n⟩
theorem awh:Go.Proofs.Lays.n147 prog awi:={
 mixed:=by kernel_rfl
 f138:=func79.trans (congrArg some (by kernel_rfl))
 f143:=func80.trans (congrArg some (by kernel_rfl))
 f147:=func19.trans (congrArg some (by kernel_rfl))
 f195:=func106.trans (congrArg some (by kernel_rfl))
 f197:=func107.trans (congrArg some (by kernel_rfl))
 f217:=func129.trans (congrArg some (by kernel_rfl))
 f218:=func108.trans (congrArg some (by kernel_rfl))
 f219:=func109.trans (congrArg some (by kernel_rfl))
 f221:=func41.trans (congrArg some (by kernel_rfl))
 f224:=func131.trans (congrArg some (by kernel_rfl))
 f225:=func130.trans (congrArg some (by kernel_rfl))
 f260:=func128.trans (congrArg some (by kernel_rfl))
 f266:=func148.trans (congrArg some (by kernel_rfl))
 f267:=func132.trans (congrArg some (by kernel_rfl))
 f268:=func78.trans (congrArg some (by kernel_rfl))
 f314:=func149.trans (congrArg some (by kernel_rfl))
 t0:=Tryz.underlying0
 a0:=Tryz.isAgg0
 z0:=Tryz.sizeOf0
 v0:=Tryz.zeroValue0
 t3:=Tryz.underlying3
 a3:=Tryz.isAgg3
 z3:=Tryz.sizeOf3
 v3:=Tryz.zeroValue3
 t4:=Tryz.underlying4
 a4:=Tryz.isAgg4
 z4:=Tryz.sizeOf4
 v4:=Tryz.zeroValue4
 t5:=Tryz.underlying5
 a5:=Tryz.isAgg5
 z5:=Tryz.sizeOf5
 v5:=Tryz.zeroValue5
 t9:=Tryz.underlying9
 a9:=Tryz.isAgg9
 z9:=Tryz.sizeOf9
 v9:=Tryz.zeroValue9
 t21:=Tryz.underlying21
 a21:=Tryz.isAgg21
 z21:=Tryz.sizeOf21
 v21:=Tryz.zeroValue21
 t31:=Tryz.underlying40
 a31:=Tryz.isAgg40
 z31:=Tryz.sizeOf40
 v31:=Tryz.zeroValue40
 t46:=Tryz.underlying136
 a46:=Tryz.isAgg136
 z46:=Tryz.sizeOf136
 v46:=Tryz.zeroValue136
 t51:=Tryz.underlying160
 a51:=Tryz.isAgg160
 z51:=Tryz.sizeOf160
 v51:=Tryz.zeroValue160
 t105:=Tryz.underlying122
 a105:=Tryz.isAgg122
 z105:=Tryz.sizeOf122
 v105:=Tryz.zeroValue122
 t119:=Tryz.underlying156
 a119:=Tryz.isAgg156
 z119:=Tryz.sizeOf156
 t138:=Tryz.underlying158
 a138:=Tryz.isAgg158
 z138:=Tryz.sizeOf158
 v138:=Tryz.zeroValue158
 t139:=Tryz.underlying159
 a139:=Tryz.isAgg159
 z139:=Tryz.sizeOf159
 v139:=Tryz.zeroValue159
 t146:=Tryz.underlying161
 a146:=Tryz.isAgg161
 z146:=Tryz.sizeOf161
 v146:=Tryz.zeroValue161
 g1:=by kernel_rfl
 g3:=by kernel_rfl
 g4:=by kernel_rfl }
open Go.Proofs Go.RowKit Go.Lib in
theorem strings_SplitN(s sep:ByteArray)(n:Nat)(m:Int)(w:World)(hs:s.size<4294967281)(hm:w.cell? ⟨0,0,none⟩=some (.int .i64 m))(h1:1<=sep.size)(hn:1<=n)(hn63:n<=9223372036854775807) :
  Calls prog 19 #[.string s,.string sep,.int .i64 n] w λe w'=>
   e=.returned (.slice (some ⟨w.heap.size,0,none⟩) (Lib.splitB sep 0 (min n (s.size+1)-1) s).length (min n (s.size+1)))/\w'=w.alloc (.cells (Lib.cellsOf (Lib.splitB sep 0 (min n (s.size+1)-1) s) (min n (s.size+1))) 9):=Any.strings_SplitN awh (by kernel_rfl) s sep n m w hs hm h1 hn hn63
def CB(n:Nat)(a0:List Int)(a1:List Int)(a2:Int):Option ((List (List Int))×Unit):=aS.Fy a0 a1 a2
def ahq:List aM:=[.val .str [],.val .str [],.val (.int .i64) []]
def axR:List gJ:=[.val (.sl 9 .str) [] []]
def PT:Entry:=⟨19,ahq,axR,λn (c:Cont (kin ahq))=>CB n c.1 c.2.1 c.2.2.1⟩
theorem YY[Fr][aI.LaidTab prog][aI.LaidErr prog][aS.bJ prog](n:Nat):bg prog n PT:=aS.ayl strings_SplitN (Go.MuLone.run_callFunc_enter func19 (by kernel_rfl) rfl)
def uf(n:Nat)(a0:yw):Option ((List Int)×yw×Unit):=if decide ((a0.1.length:Int)=0)=true then some (([]:List Int),(a0.1,a0.2.1,true,a0.2.2.2),())else if aZ 0 a0.1.length then if 0<=(1:Int)/\(1:Int)<=(a0.1.length:Int)then some (a0.1.getD (0:Int).toNat ([]:List Int),(a0.1.drop (1:Int).toNat,a0.2),())else none else none
def Cj:Entry:=⟨42,[.rw Lt [2,51,96] [4294967295] [9]],[.val .str [] []],λn c=>uf n c.1⟩
theorem Gf[Fr][aI.LaidTab prog][aI.LaidErr prog][aS.bJ prog](n:Nat):bg prog n Cj:=bX mixed bR func42 (by kernel_rfl) (hi:=akG) bT (by intro n c;kernel_rfl)
def FZ(n:Nat)(a0:List (List Int))(a1:List Int):Option (Int×Unit):=rounds (λL1 (v1:(List (List Int))×(List Int)×aB)=>if decide (v1.2.2.2.1<v1.2.2.1)=true then if aZ v1.2.2.2.1 v1.1.length then if decide (v1.2.1=(v1.1.getD v1.2.2.2.1.toNat ([]:List Int)))=true then some (v1.2.2.2.1,())else L1 (v1.1,v1.2.1,v1.2.2.1,i64.wrap (v1.2.2.2.1+1),())else none else some ((-1),())) n (a0,a1,(a0.length:Int),0,())
def XU:Entry:=⟨43,[.val (.sl 9 .str) [],.val .str []],[.val (.int .i64) [] []],λn c=>FZ n c.1 c.2.1⟩
theorem akM[Fr][aI.LaidTab prog][aI.LaidErr prog][aS.bJ prog](n:Nat):bg prog n XU:=bX mixed bR func43 (by kernel_rfl) (hi:=⟨0,[],[(0,[0,1,7,8],[])],[],[],[],[],[],[]⟩) bT (by intro n c;kernel_rfl)
def nJ(n:Nat)(a0:Int)(a1:Int)(a2:Int):Option (Bool×Unit):=if decide (a0>=a1)=true then some (decide (a0<=a2),())else some (false,())
def oU:Entry:=⟨33,[.val (.int .i64) [],.val (.int .i64) [],.val (.int .i64) []],[.val .bool [] []],λn c=>nJ n c.1 c.2.1 c.2.2.1⟩
theorem pW[Fr][aI.LaidTab prog][aI.LaidErr prog][aS.bJ prog](n:Nat):bg prog n oU:=bX mixed bR func33 (by kernel_rfl) (hi:=akG) bT (by intro n c;kernel_rfl)
def KH(n:Nat)(a0:Int):Option (Bool×Unit):=(nJ n a0 0 15).bind λr1=>some (r1.1,())
def XV:Entry:=⟨81,[.val (.int .i64) []],[.val .bool [] []],λn c=>KH n c.1⟩
def ajy:Hint:=⟨0,[],[],[],[(33,some 4,oU)],[],[],[],[]⟩
theorem akN[Fr][aI.LaidTab prog][aI.LaidErr prog][aS.bJ prog](n:Nat):bg prog n XV:=bX mixed bR func81 (by kernel_rfl) (hi:=ajy) (aH (pW n) bT) (by intro n c;kernel_rfl)
def agI:Go.Shelf.Ren:=⟨fun|156=>86|165=>115|166=>116|169=>117|240=>139|241=>140|276=>155|277=>156|n=>n,fun|31=>40|9=>9|3=>3|4=>4|0=>0|20=>20|72=>130|76=>132|70=>128|37=>29|75=>105|127=>146|164=>168|5=>5|80=>68|n=>n,fun|n=>n⟩
theorem agH:Go.Proofs.Lays.n156 prog agI:={
 mixed:=by kernel_rfl
 f156:=func86.trans (congrArg some (by kernel_rfl))
 f165:=func115.trans (congrArg some (by kernel_rfl))
 f166:=func116.trans (congrArg some (by kernel_rfl))
 f169:=func117.trans (congrArg some (by kernel_rfl))
 f240:=func139.trans (congrArg some (by kernel_rfl))
 f241:=func140.trans (congrArg some (by kernel_rfl))
 f276:=func155.trans (congrArg some (by kernel_rfl))
 f277:=func156.trans (congrArg some (by kernel_rfl))
 t0:=Tryz.underlying0
 a0:=Tryz.isAgg0
 z0:=Tryz.sizeOf0
 v0:=Tryz.zeroValue0
 t3:=Tryz.underlying3
 a3:=Tryz.isAgg3
 z3:=Tryz.sizeOf3
 v3:=Tryz.zeroValue3
 t4:=Tryz.underlying4
 a4:=Tryz.isAgg4
 z4:=Tryz.sizeOf4
 v4:=Tryz.zeroValue4
 t9:=Tryz.underlying9
 a9:=Tryz.isAgg9
 z9:=Tryz.sizeOf9
 v9:=Tryz.zeroValue9
 t20:=Tryz.underlying20
 a20:=Tryz.isAgg20
 z20:=Tryz.sizeOf20
 v20:=Tryz.zeroValue20
 t31:=Tryz.underlying40
 a31:=Tryz.isAgg40
 z31:=Tryz.sizeOf40
 v31:=Tryz.zeroValue40
 t37:=Tryz.underlying29
 a37:=Tryz.isAgg29
 z37:=Tryz.sizeOf29
 v37:=Tryz.zeroValue29
 t70:=Tryz.underlying128
 a70:=Tryz.isAgg128
 z70:=Tryz.sizeOf128
 v70:=Tryz.zeroValue128
 t72:=Tryz.underlying130
 a72:=Tryz.isAgg130
 z72:=Tryz.sizeOf130
 v72:=Tryz.zeroValue130
 t75:=Tryz.underlying105
 a75:=Tryz.isAgg105
 z75:=Tryz.sizeOf105
 v75:=Tryz.zeroValue105
 t76:=Tryz.underlying132
 a76:=Tryz.isAgg132
 z76:=Tryz.sizeOf132
 v76:=Tryz.zeroValue132
 t127:=Tryz.underlying146
 a127:=Tryz.isAgg146
 z127:=Tryz.sizeOf146
 v127:=Tryz.zeroValue146
 t164:=Tryz.underlying168
 a164:=Tryz.isAgg168
 z164:=Tryz.sizeOf168
 v164:=Tryz.zeroValue168 }
theorem XN:Builder.Extra prog agI:={
 sizeBuilder:=by kernel_rfl
 liesBuilder:=by kernel_rfl
 t5:=Tryz.underlying5
 a5:=Tryz.isAgg5
 z5:=Tryz.sizeOf5
 v5:=Tryz.zeroValue5
 infoByte:=by kernel_rfl
 cellsByte:=by kernel_rfl
 sizeByte:=by kernel_rfl
 neB5:=by decide }
open Go.Proofs Go.RowKit in
theorem strings_Join_none(a:Option Addr)(c:Nat)(sep:ByteArray)(w:World) :
  Calls prog 86 #[.slice a 0 c,.string sep] w λe w'=>e=.returned (.string ⟨#[]⟩)/\w'=w:=Any.strings_Join_none agH XN a c sep w
open Go.Proofs Go.RowKit in
theorem strings_Join(bk o c:Nat)(xs:List ByteArray)(sep:ByteArray)(w:World)(hcells:∀(j:Nat) x,xs[j]?=some x->w.cell? ⟨bk,o+j,none⟩=some (.string x))(hbk:bk<w.heap.size)(hN:xs.length<=140737488355328)(hcap:xs.length<=c)(hlen:(Lib.join (xs.map (·.data.toList)) sep.data.toList).length<=140737488355328) :
  Calls prog 86 #[.slice (some ⟨bk,o,none⟩) xs.length c,.string sep] w λe w'=>e=.returned (.string ⟨(Lib.join (xs.map (·.data.toList)) sep.data.toList).toArray⟩)/\Below w.heap.size w w':=Any.strings_Join agH XN bk o c xs sep w hcells hbk hN hcap hlen
def Qs(n:Nat)(a0:List (List Int))(a1:List Int):Option (List Int×Unit):=qD.Bg a0 a1
def ahr:List aM:=[.val (.sl 9 .str) [],.val .str []]
def axS:List gJ:=[.val .str [] []]
def PU:Entry:=⟨86,ahr,axS,λn (c:Cont (kin ahr))=>Qs n c.1 c.2.1⟩
theorem YZ[Fr][aI.LaidTab prog][aI.LaidErr prog][aS.bJ prog](n:Nat):bg prog n PU:=qD.aqL strings_Join_none strings_Join (Go.MuLone.run_callFunc_enter func86 (by kernel_rfl) rfl)
def Ct(n:Nat)(a0:Int):Option mE:=rounds (λL1 (v1:Int×Int×Int×(List (List Int))×(List (List Int))×Unit)=>if decide (v1.2.2.1<v1.2.1)=true then if aZ v1.2.2.1 v1.2.2.2.2.1.length then if 0<=v1.2.2.1 then if decide ((i64.wrap ((BitVec.ofInt (IntKind.bits .i64) (v1.1.fdiv (2 ^ min v1.2.2.1.toNat (IntKind.bits .i64))) &&& BitVec.ofInt (IntKind.bits .i64) 1).toNat))=1)=true then if(v1.2.2.2.1.length+[v1.2.2.2.2.1.getD v1.2.2.1.toNat ([]:List Int)].length)*16<=140737488355328 then L1 (v1.1,v1.2.1,i64.wrap (v1.2.2.1+1),v1.2.2.2.1++[v1.2.2.2.2.1.getD v1.2.2.1.toNat ([]:List Int)],v1.2.2.2.2.1,())else none else L1 (v1.1,v1.2.1,i64.wrap (v1.2.2.1+1),v1.2.2.2.1,v1.2.2.2.2.1,())else none else none else if decide ((v1.2.2.2.1.length:Int)=0)=true then some ([110,111,110,101],())else(Qs n v1.2.2.2.1 [32]).bind λr2=>some (r2.1,())) n (a0,([[115,101,101,110],[97,110,115,119,101,114,101,100],[102,108,97,103,103,101,100],[100,101,108,101,116,101,100]].length:Int),0,([]:List (List Int)),[[115,101,101,110],[97,110,115,119,101,114,101,100],[102,108,97,103,103,101,100],[100,101,108,101,116,101,100]],())
def PV:Entry:=⟨50,[.val (.int .i64) []],[.val .str [] []],λn c=>Ct n c.1⟩
theorem Y0[Fr][aI.LaidTab prog][aI.LaidErr prog][aS.bJ prog](n:Nat):bg prog n PV:=bX mixed bR func50 (by kernel_rfl) (hi:=⟨0,[],[(0,[0,3,7,8,9],[194,226])],[],[(86,some 28,PU)],[],[],[],[]⟩) (aH (YZ n) bT) (by intro n c;kernel_rfl)
def KE(n:Nat)(a0:List Int):Option (aB×Unit):=rounds (λL1 (v1:(List Int)×Int×aB×Unit)=>(KH n v1.2.1).bind λr2=>if r2.1=true then(Ct n v1.2.1).bind λr3=>if decide (r3.1=v1.1)=true then some ((0,v1.2.1,()),())else L1 (v1.1,i64.wrap (v1.2.1+1),v1.2.2.1,())else some ((5,0,()),())) n (a0,0,fJ,())
def XW:Entry:=⟨44,[.val .str []],[.val nO [] []],λn c=>KE n c.1⟩
theorem akO[Fr][aI.LaidTab prog][aI.LaidErr prog][aS.bJ prog](n:Nat):bg prog n XW:=bX mixed bR func44 (by kernel_rfl) (hi:=⟨0,[],[(0,[0,2,3],[66])],[],[(81,some 5,XV),(50,some 9,PV)],[],[],[],[]⟩) (aH (akN n) (aH (Y0 n) bT)) (by intro n c;kernel_rfl)
def kI(n:Nat)(a0:List aa):Option (Int×Unit):=some ((a0.length:Int),())
def Ck:Entry:=⟨22,[.val (.sl 51 iL) []],[.val (.int .i64) [] []],λn c=>kI n c.1⟩
theorem Gg[Fr][aI.LaidTab prog][aI.LaidErr prog][aS.bJ prog](n:Nat):bg prog n Ck:=bX mixed bR func22 (by kernel_rfl) (hi:=akG) bT (by intro n c;kernel_rfl)
def Cu(n:Nat)(a0:Int):Option (Bool×Unit):=(nJ n a0 2 5).bind λr1=>some (r1.1,())
def Kw:Entry:=⟨45,[.val (.int .i64) []],[.val .bool [] []],λn c=>Cu n c.1⟩
theorem Qx[Fr][aI.LaidTab prog][aI.LaidErr prog][aS.bJ prog](n:Nat):bg prog n Kw:=bX mixed bR func45 (by kernel_rfl) (hi:=ajy) (aH (pW n) bT) (by intro n c;kernel_rfl)
def awl:Go.Shelf.Ren:=⟨fun|173=>87|246=>118|283=>141|284=>142|285=>143|286=>144|129=>158|317=>157|318=>159|319=>160|320=>161|337=>164|338=>165|n=>n,fun|2=>2|3=>3|9=>9|4=>4|171=>148|0=>0|53=>140|37=>29|5=>5|173=>151|212=>172|51=>160|20=>20|213=>173|46=>136|232=>181|233=>182|n=>n,fun|17=>5|18=>6|19=>7|n=>n⟩
theorem awk:Go.Proofs.LaysM.n173 prog awl:={
 mixed:=by kernel_rfl
 f129:=func158.trans (congrArg some (by kernel_rfl))
 f173:=func87.trans (congrArg some (by kernel_rfl))
 f246:=func118.trans (congrArg some (by kernel_rfl))
 f283:=func141.trans (congrArg some (by kernel_rfl))
 f284:=func142.trans (congrArg some (by kernel_rfl))
 f285:=func143.trans (congrArg some (by kernel_rfl))
 f286:=func144.trans (congrArg some (by kernel_rfl))
 f317:=func157.trans (congrArg some (by kernel_rfl))
 f318:=func159.trans (congrArg some (by kernel_rfl))
 f319:=func160.trans (congrArg some (by kernel_rfl))
 f320:=func161.trans (congrArg some (by kernel_rfl))
 f337:=func164.trans (congrArg some (by kernel_rfl))
 f338:=func165.trans (congrArg some (by kernel_rfl))
 t0:=Tryz.underlying0
 a0:=Tryz.isAgg0
 z0:=Tryz.sizeOf0
 v0:=Tryz.zeroValue0
 t2:=Tryz.underlying2
 a2:=Tryz.isAgg2
 z2:=Tryz.sizeOf2
 v2:=Tryz.zeroValue2
 t3:=Tryz.underlying3
 a3:=Tryz.isAgg3
 z3:=Tryz.sizeOf3
 v3:=Tryz.zeroValue3
 t4:=Tryz.underlying4
 a4:=Tryz.isAgg4
 z4:=Tryz.sizeOf4
 v4:=Tryz.zeroValue4
 t5:=Tryz.underlying5
 a5:=Tryz.isAgg5
 z5:=Tryz.sizeOf5
 v5:=Tryz.zeroValue5
 t9:=Tryz.underlying9
 a9:=Tryz.isAgg9
 z9:=Tryz.sizeOf9
 v9:=Tryz.zeroValue9
 t20:=Tryz.underlying20
 a20:=Tryz.isAgg20
 z20:=Tryz.sizeOf20
 v20:=Tryz.zeroValue20
 t37:=Tryz.underlying29
 a37:=Tryz.isAgg29
 z37:=Tryz.sizeOf29
 v37:=Tryz.zeroValue29
 t46:=Tryz.underlying136
 a46:=Tryz.isAgg136
 z46:=Tryz.sizeOf136
 v46:=Tryz.zeroValue136
 t51:=Tryz.underlying160
 a51:=Tryz.isAgg160
 z51:=Tryz.sizeOf160
 v51:=Tryz.zeroValue160
 t53:=Tryz.underlying140
 a53:=Tryz.isAgg140
 z53:=Tryz.sizeOf140
 v53:=Tryz.zeroValue140
 t171:=Tryz.underlying148
 a171:=Tryz.isAgg148
 z171:=Tryz.sizeOf148
 v171:=Tryz.zeroValue148
 t173:=Tryz.underlying151
 a173:=Tryz.isAgg151
 z173:=Tryz.sizeOf151
 v173:=Tryz.zeroValue151
 t212:=Tryz.underlying172
 a212:=Tryz.isAgg172
 z212:=Tryz.sizeOf172
 v212:=Tryz.zeroValue172
 t213:=Tryz.underlying173
 a213:=Tryz.isAgg173
 z213:=Tryz.sizeOf173
 t232:=Tryz.underlying181
 a232:=Tryz.isAgg181
 z232:=Tryz.sizeOf181
 v232:=Tryz.zeroValue181
 t233:=Tryz.underlying182
 a233:=Tryz.isAgg182
 z233:=Tryz.sizeOf182
 v233:=Tryz.zeroValue182
 g17:=by kernel_rfl
 g18:=by kernel_rfl
 g19:=by kernel_rfl
 i0:=by kernel_rfl
 i2:=by kernel_rfl
 i3:=by kernel_rfl
 i4:=by kernel_rfl
 i5:=by kernel_rfl
 i9:=by kernel_rfl
 i20:=by kernel_rfl
 i37:=by kernel_rfl
 i46:=by kernel_rfl
 i51:=by kernel_rfl
 i53:=by kernel_rfl
 i171:=by kernel_rfl
 i173:=by kernel_rfl
 i212:=by kernel_rfl
 i232:=by kernel_rfl
 i233:=by kernel_rfl
 m17:=by kernel_rfl
 m18:=by kernel_rfl
 m19:=by kernel_rfl }
open Go.Proofs Go.RowKit Go.Sort Go.Lib in
theorem strconv_FormatInt_10(n:Int)(h0 : -9223372036854775808<=n)(h1:n<=9223372036854775807)(w:World)(htab:Lib.TabIs prog w "internal/strconv.uint64pow10" .u64 Lib.pow10Tab) :
  Calls prog 87 #[.int .i64 n,.int .i64 10] w λe w'=>e=.returned (.string ⟨(Lib.itoa n).toArray⟩)/\∃k os,w'=grow (w.drewN k) os:=Any.strconv_FormatInt_10 awk n h0 h1 w htab
open Go.Proofs Go.Shelf Go.RowKit Go.Sort Go.Lib in
theorem aaz(n:Int)(h0 : -9223372036854775808<=n)(h1:n<=9223372036854775807)(w:World)(htab:Lib.TabIs prog w "internal/strconv.uint64pow10" .u64 Lib.pow10Tab) :
  Calls prog 51 #[.int .i64 n] w λe w'=>e=.returned (.string ⟨(Lib.itoa n).toArray⟩)/\Below w.heap.size w w':=by
 have e87:∀args w,(callFunc 87 args).run prog w=.ok (.enter 87 args) w:=λargs w=>Go.MuLone.run_callFunc_enter func87 (by kernel_rfl) rfl args w
 go_enter func51,Tryz.ntmps51
 go_wp2_with (go_at_fn 87;refine(strconv_FormatInt_10 n h0 h1 _ htab).mono ?_;rintro e w' ⟨rfl,k,os,rfl⟩)
 go_ret
 exact⟨rfl,⟨rfl,rfl,rfl,by simp[grow,World.drewN],λk hk=>by simp[grow,World.drewN,Array.getElem?_append,hk]⟩⟩
def awj:Go.Shelf.Ren:=⟨fun|174=>82|247=>110|245=>111|287=>133|279=>134|280=>135|281=>136|282=>137|321=>150|322=>151|316=>152|171=>154|205=>153|243=>163|246=>118|283=>141|284=>142|285=>143|286=>144|129=>158|317=>157|318=>159|319=>160|320=>161|337=>164|338=>165|n=>n,fun|9=>9|3=>3|2=>2|75=>105|85=>106|4=>4|167=>139|5=>5|53=>140|175=>141|46=>136|168=>143|37=>29|0=>0|210=>166|21=>21|127=>146|145=>179|143=>177|171=>148|173=>151|212=>172|51=>160|20=>20|213=>173|232=>181|233=>182|80=>68|n=>n,fun|15=>3|16=>4|17=>5|18=>6|19=>7|n=>n⟩
theorem Wj:Go.Proofs.LaysC.n174 prog awj:={
 mixed:=by kernel_rfl
 f129:=func158.trans (congrArg some (by kernel_rfl))
 f171:=func154.trans (congrArg some (by kernel_rfl))
 f174:=func82.trans (congrArg some (by kernel_rfl))
 f205:=func153.trans (congrArg some (by kernel_rfl))
 f243:=func163.trans (congrArg some (by kernel_rfl))
 f245:=func111.trans (congrArg some (by kernel_rfl))
 f246:=func118.trans (congrArg some (by kernel_rfl))
 f247:=func110.trans (congrArg some (by kernel_rfl))
 f279:=func134.trans (congrArg some (by kernel_rfl))
 f280:=func135.trans (congrArg some (by kernel_rfl))
 f281:=func136.trans (congrArg some (by kernel_rfl))
 f282:=func137.trans (congrArg some (by kernel_rfl))
 f283:=func141.trans (congrArg some (by kernel_rfl))
 f284:=func142.trans (congrArg some (by kernel_rfl))
 f285:=func143.trans (congrArg some (by kernel_rfl))
 f286:=func144.trans (congrArg some (by kernel_rfl))
 f287:=func133.trans (congrArg some (by kernel_rfl))
 f316:=func152.trans (congrArg some (by kernel_rfl))
 f317:=func157.trans (congrArg some (by kernel_rfl))
 f318:=func159.trans (congrArg some (by kernel_rfl))
 f319:=func160.trans (congrArg some (by kernel_rfl))
 f320:=func161.trans (congrArg some (by kernel_rfl))
 f321:=func150.trans (congrArg some (by kernel_rfl))
 f322:=func151.trans (congrArg some (by kernel_rfl))
 f337:=func164.trans (congrArg some (by kernel_rfl))
 f338:=func165.trans (congrArg some (by kernel_rfl))
 t0:=Tryz.underlying0
 a0:=Tryz.isAgg0
 z0:=Tryz.sizeOf0
 v0:=Tryz.zeroValue0
 t2:=Tryz.underlying2
 a2:=Tryz.isAgg2
 z2:=Tryz.sizeOf2
 v2:=Tryz.zeroValue2
 t3:=Tryz.underlying3
 a3:=Tryz.isAgg3
 z3:=Tryz.sizeOf3
 v3:=Tryz.zeroValue3
 t4:=Tryz.underlying4
 a4:=Tryz.isAgg4
 z4:=Tryz.sizeOf4
 v4:=Tryz.zeroValue4
 t5:=Tryz.underlying5
 a5:=Tryz.isAgg5
 z5:=Tryz.sizeOf5
 v5:=Tryz.zeroValue5
 t9:=Tryz.underlying9
 a9:=Tryz.isAgg9
 z9:=Tryz.sizeOf9
 v9:=Tryz.zeroValue9
 t20:=Tryz.underlying20
 a20:=Tryz.isAgg20
 z20:=Tryz.sizeOf20
 v20:=Tryz.zeroValue20
 t21:=Tryz.underlying21
 a21:=Tryz.isAgg21
 z21:=Tryz.sizeOf21
 v21:=Tryz.zeroValue21
 t37:=Tryz.underlying29
 a37:=Tryz.isAgg29
 z37:=Tryz.sizeOf29
 v37:=Tryz.zeroValue29
 t46:=Tryz.underlying136
 a46:=Tryz.isAgg136
 z46:=Tryz.sizeOf136
 v46:=Tryz.zeroValue136
 t51:=Tryz.underlying160
 a51:=Tryz.isAgg160
 z51:=Tryz.sizeOf160
 v51:=Tryz.zeroValue160
 t53:=Tryz.underlying140
 a53:=Tryz.isAgg140
 z53:=Tryz.sizeOf140
 v53:=Tryz.zeroValue140
 t75:=Tryz.underlying105
 a75:=Tryz.isAgg105
 z75:=Tryz.sizeOf105
 v75:=Tryz.zeroValue105
 t85:=Tryz.underlying106
 a85:=Tryz.isAgg106
 z85:=Tryz.sizeOf106
 v85:=Tryz.zeroValue106
 t127:=Tryz.underlying146
 a127:=Tryz.isAgg146
 z127:=Tryz.sizeOf146
 v127:=Tryz.zeroValue146
 t143:=Tryz.underlying177
 a143:=Tryz.isAgg177
 z143:=Tryz.sizeOf177
 v143:=Tryz.zeroValue177
 t145:=Tryz.underlying179
 a145:=Tryz.isAgg179
 z145:=Tryz.sizeOf179
 v145:=Tryz.zeroValue179
 t167:=Tryz.underlying139
 a167:=Tryz.isAgg139
 z167:=Tryz.sizeOf139
 v167:=Tryz.zeroValue139
 t168:=Tryz.underlying143
 a168:=Tryz.isAgg143
 z168:=Tryz.sizeOf143
 v168:=Tryz.zeroValue143
 t171:=Tryz.underlying148
 a171:=Tryz.isAgg148
 z171:=Tryz.sizeOf148
 v171:=Tryz.zeroValue148
 t173:=Tryz.underlying151
 a173:=Tryz.isAgg151
 z173:=Tryz.sizeOf151
 v173:=Tryz.zeroValue151
 t175:=Tryz.underlying141
 a175:=Tryz.isAgg141
 z175:=Tryz.sizeOf141
 v175:=Tryz.zeroValue141
 t210:=Tryz.underlying166
 a210:=Tryz.isAgg166
 z210:=Tryz.sizeOf166
 v210:=Tryz.zeroValue166
 t212:=Tryz.underlying172
 a212:=Tryz.isAgg172
 z212:=Tryz.sizeOf172
 v212:=Tryz.zeroValue172
 t213:=Tryz.underlying173
 a213:=Tryz.isAgg173
 z213:=Tryz.sizeOf173
 t232:=Tryz.underlying181
 a232:=Tryz.isAgg181
 z232:=Tryz.sizeOf181
 v232:=Tryz.zeroValue181
 t233:=Tryz.underlying182
 a233:=Tryz.isAgg182
 z233:=Tryz.sizeOf182
 v233:=Tryz.zeroValue182
 g15:=by kernel_rfl
 g16:=by kernel_rfl
 g17:=by kernel_rfl
 g18:=by kernel_rfl
 g19:=by kernel_rfl
 t80:=Tryz.underlying68
 a80:=Tryz.isAgg68
 z80:=Tryz.sizeOf68
 v80:=Tryz.zeroValue68
 i0:=by kernel_rfl
 i2:=by kernel_rfl
 i3:=by kernel_rfl
 i4:=by kernel_rfl
 i5:=by kernel_rfl
 i9:=by kernel_rfl
 i20:=by kernel_rfl
 i21:=by kernel_rfl
 i37:=by kernel_rfl
 i46:=by kernel_rfl
 i51:=by kernel_rfl
 i53:=by kernel_rfl
 i75:=by kernel_rfl
 i80:=by kernel_rfl
 i85:=by kernel_rfl
 i127:=by kernel_rfl
 i143:=by kernel_rfl
 i145:=by kernel_rfl
 i167:=by kernel_rfl
 i168:=by kernel_rfl
 i171:=by kernel_rfl
 i173:=by kernel_rfl
 i175:=by kernel_rfl
 i210:=by kernel_rfl
 i212:=by kernel_rfl
 i232:=by kernel_rfl
 i233:=by kernel_rfl
 m15:=by kernel_rfl
 m16:=by kernel_rfl
 m17:=by kernel_rfl
 m18:=by kernel_rfl
 m19:=by kernel_rfl
 c0:=by kernel_rfl
 c2:=by kernel_rfl
 c3:=by kernel_rfl
 c4:=by kernel_rfl
 c5:=by kernel_rfl
 c9:=by kernel_rfl
 c20:=by kernel_rfl
 c21:=by kernel_rfl
 c37:=by kernel_rfl
 c46:=by kernel_rfl
 c51:=by kernel_rfl
 c53:=by kernel_rfl
 c75:=by kernel_rfl
 c80:=by kernel_rfl
 c85:=by kernel_rfl
 c127:=by kernel_rfl
 c143:=by kernel_rfl
 c145:=by kernel_rfl
 c167:=by kernel_rfl
 c168:=by kernel_rfl
 c171:=by kernel_rfl
 c173:=by kernel_rfl
 c175:=by kernel_rfl
 c210:=by kernel_rfl
 c212:=by kernel_rfl
 c213:=by kernel_rfl
 c232:=by kernel_rfl
 c233:=by kernel_rfl }
open Go.Proofs Go.RowKit in
theorem strconv_ParseInt_10_at64_ok(s:ByteArray)(hmax:s.size<=9223372036854775806)(v:Int)(h:Lib.parseIntB 64 s.data.toList=.ok v)(w:World) :
  Calls prog 82 #[.string s,.int .i64 10,.int .i64 64] w λe w'=>e=.returned (.tuple #[.int .i64 v,.nilIface])/\(w'=w\/∃t,w'=Lib.bytesWorld w 5 t):=Any.strconv_ParseInt_10_at64_ok Wj s hmax v h w
open Go.Proofs Go.RowKit in
theorem strconv_ParseInt_10_at64_syntax_var(s:ByteArray)(hlim:s.size<=281474976710656)(h:Lib.parseIntB 64 s.data.toList=Go.Lib.NumEnd.syntax)(tp:TypeId)(p:Value)(w:World)(hvar:w.var? prog "strconv.ErrSyntax"=some #[.iface tp p]) :
  Calls prog 82 #[.string s,.int .i64 10,.int .i64 64] w λe w'=>∃N,e=.returned (.tuple #[.int .i64 (0),.iface 143 (.pointer (some ⟨N,0,none⟩))])/\w.heap.size<=N/\w'.heap[N]?=some (.cells #[.string ⟨#[80,97,114,115,101,73,110,116]⟩,.string s,.iface tp p] 166 (0,0))/\Below w.heap.size w w':=Any.strconv_ParseInt_10_at64_syntax_var Wj s hlim h tp p w hvar
open Go.Proofs Go.RowKit in
theorem strconv_ParseInt_10_at64_range_var(s:ByteArray)(hlim:s.size<=281474976710656)(h:Lib.parseIntB 64 s.data.toList=.range)(tp:TypeId)(p:Value)(w:World)(hvar:w.var? prog "strconv.ErrRange"=some #[.iface tp p]) :
  Calls prog 82 #[.string s,.int .i64 10,.int .i64 64] w λe w'=>∃N,e=.returned (.tuple #[.int .i64 (Lib.intSat 64 s.data.toList),.iface 143 (.pointer (some ⟨N,0,none⟩))])/\w.heap.size<=N/\w'.heap[N]?=some (.cells #[.string ⟨#[80,97,114,115,101,73,110,116]⟩,.string s,.iface tp p] 166 (0,0))/\Below w.heap.size w w':=Any.strconv_ParseInt_10_at64_range_var Wj s hlim h tp p w hvar
open Go.Proofs Go.Shelf Go.RowKit Go.Sort Go.Lib in
theorem ayO(n a b:Int)(w:World):Calls prog 33 #[.int .i64 n,.int .i64 a,.int .i64 b] w λe w'=>e=.returned (.bool (decide (a<=n)&&decide (n<=b)))/\w'=w:=by
 go_enter func33,Tryz.ntmps33
 go_wp2
 all_goals (go_ret;simp_all<;>omega)
open Go.Proofs Go.Shelf Go.RowKit Go.Sort Go.Lib in
set_option maxHeartbeats 2000000 in
theorem axH(s:ByteArray)(hmax:s.size<=281474976710656)(v:Int)(h:Lib.parseIntB 64 s.data.toList=.ok v)(h0 : -9223372036854775808<=v)(h1:v<=9223372036854775807)(w:World)
  (htab:∀w',Below w.heap.size w w'->Lib.TabIs prog w' "internal/strconv.uint64pow10" .u64 Lib.pow10Tab) :
  Calls prog 46 #[.string s] w λe w'=>e=.returned (.tuple #[.int .i64 v,.bool (decide (0<=v)&&decide (v<=9999)&&(Lib.itoa v==s.data.toList))])/\Below w.heap.size w w':=by
 have e82:∀args w,(callFunc 82 args).run prog w=.ok (.enter 82 args) w:=λargs w=>Go.MuLone.run_callFunc_enter func82 (by kernel_rfl) rfl args w
 have e51:∀args w,(callFunc 51 args).run prog w=.ok (.enter 51 args) w:=λargs w=>Go.MuLone.run_callFunc_enter func51 (by kernel_rfl) rfl args w
 have e33:∀args w,(callFunc 33 args).run prog w=.ok (.enter 33 args) w:=λargs w=>Go.MuLone.run_callFunc_enter func33 (by kernel_rfl) rfl args w
 go_enter func46,Tryz.ntmps46
 go_wp2_with (go_at_fn 82;refine(strconv_ParseInt_10_at64_ok s (by omega) v h _).mono ?_)
 rintro e W1 ⟨rfl,hW⟩
 have hb1:Below w.heap.size w W1:=by
  rcases hW with rfl|⟨t,rfl⟩
  ·exact Below.refl _ _
  ·exact Lib.bytesWorld_below _ _ _
 clear hW
 go_wp2_with (go_at_fn 33;refine(ayO _ _ _ _).mono ?_;rintro e w' ⟨rfl,rfl⟩)
 ·refine(aaz v h0 h1 _ (htab _ hb1)).mono ?_
  rintro e w2 ⟨rfl,hb2⟩
  go_wp2
  go_ret2
  rename_i hv
  refine⟨?_,hb1.trans ⟨hb2.os,hb2.tape,hb2.output,hb2.size,λk hk=>hb2.block k (vH hk hb1.size)⟩⟩
  simp[hv.1,hv.2,Ku]
 ·rename_i hv
  go_ret2
  refine⟨?_,hb1⟩
  have:(decide (0<=v)&&decide (v<=9999))=false:=by simpa using hv
  simp[this]
open Go.Proofs Go.Shelf Go.RowKit Go.Sort Go.Lib in
set_option maxHeartbeats 2000000 in
theorem axJ(s:ByteArray)(hmax:s.size<=281474976710656)(h:Lib.parseIntB 64 s.data.toList=Lib.NumEnd.syntax)(w:World)(tp:TypeId)(p:Value)(hvar:w.var? prog "strconv.ErrSyntax"=some #[.iface tp p]) :
  Calls prog 46 #[.string s] w λe w'=>e=.returned (.tuple #[.int .i64 0,.bool false])/\Below w.heap.size w w':=by
 have e82:∀args w,(callFunc 82 args).run prog w=.ok (.enter 82 args) w:=λargs w=>Go.MuLone.run_callFunc_enter func82 (by kernel_rfl) rfl args w
 go_enter func46,Tryz.ntmps46
 go_wp2_with (go_at_fn 82;refine(strconv_ParseInt_10_at64_syntax_var s hmax h tp p _ hvar).mono ?_)
 rintro e W1 ⟨N,rfl,_,_,hb1⟩
 go_wp2
 go_ret2
 exact⟨rfl,hb1⟩
open Go.Proofs Go.Shelf Go.RowKit Go.Sort Go.Lib in
set_option maxHeartbeats 2000000 in
theorem axI(s:ByteArray)(hmax:s.size<=281474976710656)(h:Lib.parseIntB 64 s.data.toList=.range)(w:World)(tp:TypeId)(p:Value)(hvar:w.var? prog "strconv.ErrRange"=some #[.iface tp p]) :
  Calls prog 46 #[.string s] w λe w'=>e=.returned (.tuple #[.int .i64 (Lib.intSat 64 s.data.toList),.bool false])/\Below w.heap.size w w':=by
 have e82:∀args w,(callFunc 82 args).run prog w=.ok (.enter 82 args) w:=λargs w=>Go.MuLone.run_callFunc_enter func82 (by kernel_rfl) rfl args w
 go_enter func46,Tryz.ntmps46
 go_wp2_with (go_at_fn 82;refine(strconv_ParseInt_10_at64_range_var s hmax h tp p _ hvar).mono ?_)
 rintro e W1 ⟨N,rfl,_,_,hb1⟩
 go_wp2
 go_ret2
 exact⟨rfl,hb1⟩
def KM(n:Nat)(a0:List Int):Option (Int×Bool×Unit):=aI.Fh a0
def ahs:List aM:=[.val .str []]
def axT:List gJ:=[.val (.int .i64) [] [],.val .bool [] []]
def PW:Entry:=⟨46,ahs,axT,λn (c:Cont (kin ahs))=>KM n c.1⟩
theorem Y1[Fr][aI.LaidTab prog][aI.LaidErr prog][aS.bJ prog](n:Nat):bg prog n PW:=aI.axG axH axJ axI (Go.MuLone.run_callFunc_enter func46 (by kernel_rfl) rfl)
def xU(n:Nat)(a0:Int):Option (Bool×Unit):=if decide (a0=6)=true then some (true,())else some (decide (a0=7),())
def FQ:Entry:=⟨47,[.val (.int .i64) []],[.val .bool [] []],λn c=>xU n c.1⟩
theorem K4[Fr][aI.LaidTab prog][aI.LaidErr prog][aS.bJ prog](n:Nat):bg prog n FQ:=bX mixed bR func47 (by kernel_rfl) (hi:=akG) bT (by intro n c;kernel_rfl)
def FW(n:Nat)(a0:Int):Option (Bool×Unit):=(nJ n a0 0 65535).bind λr1=>if r1.1=true then(nJ n a0 55296 57343).bind λr2=>some (!r2.1,())else some (false,())
def PX:Entry:=⟨70,[.val (.int .i64) []],[.val .bool [] []],λn c=>FW n c.1⟩
theorem Y2[Fr][aI.LaidTab prog][aI.LaidErr prog][aS.bJ prog](n:Nat):bg prog n PX:=bX mixed bR func70 (by kernel_rfl) (hi:=⟨0,[],[],[],[(33,some 4,oU),(33,some 7,oU)],[],[],[],[]⟩) (aH (pW n) (aH (pW n) bT)) (by intro n c;kernel_rfl)
def Qj(n:Nat)(a0:Int):Option (Bool×Unit):=(nJ n a0 1 5).bind λr1=>some (r1.1,())
def XX:Entry:=⟨138,[.val (.int .i64) []],[.val .bool [] []],λn c=>Qj n c.1⟩
theorem akP[Fr][aI.LaidTab prog][aI.LaidErr prog][aS.bJ prog](n:Nat):bg prog n XX:=bX mixed bR func138 (by kernel_rfl) (hi:=ajy) (aH (pW n) bT) (by intro n c;kernel_rfl)
def KD(n:Nat)(a0:Int)(a1:Int):Option (Bool×Unit):=(FW n a1).bind λr1=>if(!r1.1)=true then some (false,())else(Qj n a0).bind λr2=>if(!r2.1)=true then some (false,())else if decide (a0=1)=true then some (decide (a1<=127),())else if decide (a0=2)=true then some (decide (a1<=255),())else if decide (a0=3)=true then if decide (a1<=160)=true then some (true,())else if decide (a1=167)=true then some (true,())else if decide (a1=173)=true then some (true,())else(nJ n a1 1025 1119).bind λr3=>if r3.1=true then if(!decide (a1=1037))=true then if(!decide (a1=1104))=true then if(!decide (a1=1117))=true then some (true,())else some (decide (a1=8470),())else some (decide (a1=8470),())else some (decide (a1=8470),())else some (decide (a1=8470),())else some (true,())
def XY:Entry:=⟨112,[.val (.int .i64) [],.val (.int .i64) []],[.val .bool [] []],λn c=>KD n c.1 c.2.1⟩
theorem akQ[Fr][aI.LaidTab prog][aI.LaidErr prog][aS.bJ prog](n:Nat):bg prog n XY:=bX mixed bR func112 (by kernel_rfl) (hi:=⟨0,[],[],[],[(70,some 7,PX),(138,some 11,XX),(33,some 39,oU)],[],[],[],[]⟩) (aH (Y2 n) (aH (akP n) (aH (pW n) bT))) (by intro n c;kernel_rfl)
def zO(n:Nat)(a0:Int):Option (Int×Unit):=if(64:Int)≠0 then some (u8.wrap (i64.wrap ((128:Int)+(a0.tmod 64))),())else none
def Ky:Entry:=⟨119,[.val (.int .i64) []],[.val (.int .u8) [] []],λn c=>zO n c.1⟩
theorem Qy[Fr][aI.LaidTab prog][aI.LaidErr prog][aS.bJ prog](n:Nat):bg prog n Ky:=bX mixed bR func119 (by kernel_rfl) (hi:=akG) bT (by intro n c;kernel_rfl)
def FT(n:Nat)(a0:Int)(a1:Int):Option mE:=if decide (a0=5)=true then if(256:Int)≠0 then if(256:Int)≠0 then some ([u8.wrap (i64.wrap (a1.tdiv 256)),u8.wrap (a1.tmod 256)],())else none else none else if decide (a0=4)=true then if decide (a1>=2048)=true then if(4096:Int)≠0 then if(64:Int)≠0 then(zO n (i64.wrap (a1.tdiv 64))).bind λr1=>(zO n a1).bind λr2=>some ([u8.wrap (i64.wrap ((224:Int)+(i64.wrap (a1.tdiv 4096)))),r1.1,r2.1],())else none else none else if decide (a0=4)=true then if decide (a1>=128)=true then if(64:Int)≠0 then(zO n a1).bind λr3=>some ([u8.wrap (i64.wrap ((192:Int)+(i64.wrap (a1.tdiv 64)))),r3.1],())else none else if(!decide (a0=3))=true then some ([u8.wrap a1],())else if decide (a1<=160)=true then some ([u8.wrap a1],())else if decide (a1=173)=true then some ([u8.wrap a1],())else if decide (a1=167)=true then some ([(253:Int)],())else if decide (a1=8470)=true then some ([(240:Int)],())else some ([u8.wrap (i64.wrap (a1-864))],())else if(!decide (a0=3))=true then some ([u8.wrap a1],())else if decide (a1<=160)=true then some ([u8.wrap a1],())else if decide (a1=173)=true then some ([u8.wrap a1],())else if decide (a1=167)=true then some ([(253:Int)],())else if decide (a1=8470)=true then some ([(240:Int)],())else some ([u8.wrap (i64.wrap (a1-864))],())else if decide (a0=4)=true then if decide (a1>=128)=true then if(64:Int)≠0 then(zO n a1).bind λr4=>some ([u8.wrap (i64.wrap ((192:Int)+(i64.wrap (a1.tdiv 64)))),r4.1],())else none else if(!decide (a0=3))=true then some ([u8.wrap a1],())else if decide (a1<=160)=true then some ([u8.wrap a1],())else if decide (a1=173)=true then some ([u8.wrap a1],())else if decide (a1=167)=true then some ([(253:Int)],())else if decide (a1=8470)=true then some ([(240:Int)],())else some ([u8.wrap (i64.wrap (a1-864))],())else if(!decide (a0=3))=true then some ([u8.wrap a1],())else if decide (a1<=160)=true then some ([u8.wrap a1],())else if decide (a1=173)=true then some ([u8.wrap a1],())else if decide (a1=167)=true then some ([(253:Int)],())else if decide (a1=8470)=true then some ([(240:Int)],())else some ([u8.wrap (i64.wrap (a1-864))],())
def PY:Entry:=⟨88,[.val (.int .i64) [],.val (.int .i64) []],[.own (.sl 5 (.int .u8)) [5] [] []],λn c=>FT n c.1 c.2.1⟩
theorem Y3[Fr][aI.LaidTab prog][aI.LaidErr prog][aS.bJ prog](n:Nat):bg prog n PY:=bX mixed bR func88 (by kernel_rfl) (hi:=⟨0,[],[],[],[(119,some 30,Ky),(119,some 33,Ky),(119,some 48,Ky)],[],[],[],[]⟩) (aH (Qy n) (aH (Qy n) (aH (Qy n) bT))) (by intro n c;kernel_rfl)
def Qh(n:Nat)(a0:List Int)(a1:List Int):Option (Bool×Unit):=some (decide (a0=a1),())
def XZ:Entry:=⟨113,[.val (.sl 5 (.int .u8)) [],.val (.sl 5 (.int .u8)) []],[.val .bool [] []],λn c=>Qh n c.1 c.2.1⟩
theorem akR[Fr][aI.LaidTab prog][aI.LaidErr prog][aS.bJ prog](n:Nat):bg prog n XZ:=bX mixed bR func113 (by kernel_rfl) (hi:=akG) bT (by intro n c;kernel_rfl)
def FV(n:Nat)(a0:Int)(a1:List Int):Option aB:=(λ(k1:Unit->Int->(List Int)->Option aB)=>k1 () a0 a1) (λ_ Uq Iy=>(λ(k2:Unit->Int->(List Int)->Int->Int->Option aB)=>if aZ 0 Iy.length then k2 () Uq Iy 1 (i64.wrap (Iy.getD (0:Int).toNat 0))else none) (λ_ IU UC UD M6=>(λ(k4:Unit->Int->(List Int)->Int->Int->Option aB)=>(λ(k86:Unit->Int->(List Int)->Int->Int->Option aB)=>(λ(VT:Unit->Int->(List Int)->Int->Int->Bool->Option aB)=>(λ(k3:Unit->Int->(List Int)->Int->Int->Option aB)=>if decide (IU=5)=true then k3 () IU UC UD M6 else if decide (IU=4)=true then(nJ n M6 192 223).bind λr82=>VT () IU UC UD M6 r82.1 else k86 () IU UC UD M6) (λ_ Nj UR aft UT=>k4 () Nj UR 2 UT)) (λ_ EM JC JD Oq avy=>if avy=true then k4 () EM JC 2 Oq else(λ(VW:Unit->Int->(List Int)->Int->Int->Option aB)=>(λ(VU:Unit->Int->(List Int)->Int->Int->Bool->Option aB)=>if decide (EM=4)=true then VU () EM JC JD Oq (decide (Oq>=224))else VW () EM JC JD Oq) (λ_ JE Ot VV Ou avz=>if avz=true then k4 () JE Ot 3 Ou else k4 () JE Ot VV Ou)) (λ_ Ov VX Ox Oy=>k4 () Ov VX Ox Oy))) (λ_ VZ af9 af_ V3=>(λ(V4:Unit->Int->(List Int)->Int->Int->Option aB)=>(λ(Oz:Unit->Int->(List Int)->Int->Int->Bool->Option aB)=>if decide (VZ=4)=true then Oz () VZ af9 af_ V3 (decide (V3>=224))else V4 () VZ af9 af_ V3) (λ_ OA JF OB aga avB=>if avB=true then k4 () OA JF 3 aga else k4 () OA JF OB aga)) (λ_ V5 V6 avC avD=>k4 () V5 V6 avC avD))) (λ_ NB NC Jf ND=>(λ(k7:Unit->Int->(List Int)->Int->Int->Option aB)=>(λ(k5:Unit->Int->(List Int)->Int->Int->Bool->Option aB)=>k5 () NB NC Jf ND (decide (Jf>(NC.length:Int)))) (λ_ auU auV auW auX auY=>if auY=true then(λ(k6:Unit->Int->Int->Option aB)=>k6 () 0 0) (λ_ VB VD=>some (VB,VD,()))else k7 () auU auV auW auX)) (λ_ Jy VO Ol Jz=>(λ(k8:Unit->Int->(List Int)->Int->Int->Int->Option aB)=>k8 () Jy VO Ol Jz Jz) (λ_ agf avF avG avH avI=>(λ(k10:Unit->Int->(List Int)->Int->Int->Option aB)=>(λ(k9:Unit->Int->(List Int)->Int->Int->Int->Bool->Option aB)=>k9 () agf avF avG avH avI (decide (agf=5))) (λ_ EN BF wm EO agy avX=>if avX=true then if aZ 1 BF.length then k10 () EN BF wm (i64.wrap ((i64.wrap (EO*256))+(i64.wrap (BF.getD (1:Int).toNat 0))))else none else(λ(k51:Unit->Int->(List Int)->Int->Int->Int->Option aB)=>(λ(k20:Unit->Int->(List Int)->Int->Int->Int->Bool->Option aB)=>if decide (EN=4)=true then k20 () EN BF wm EO agy (decide (wm=2))else k51 () EN BF wm EO agy) (λ_ D_ Bh MU Us afl atZ=>if atZ=true then if(32:Int)≠0 then if aZ 1 Bh.length then if(64:Int)≠0 then k10 () D_ Bh MU (i64.wrap ((i64.wrap ((Us.tmod 32)*64))+((i64.wrap (Bh.getD (1:Int).toNat 0)).tmod 64)))else none else none else none else(λ(UM:Unit->Int->(List Int)->Int->Int->Int->Option aB)=>(λ(k21:Unit->Int->(List Int)->Int->Int->Int->Bool->Option aB)=>if decide (D_=4)=true then k21 () D_ Bh MU Us afl (decide (MU=3))else UM () D_ Bh MU Us afl) (λ_ y9 vX Ea Bi Iz at0=>if at0=true then if(16:Int)≠0 then if aZ 1 vX.length then if(64:Int)≠0 then if aZ 2 vX.length then if(64:Int)≠0 then k10 () y9 vX Ea (i64.wrap ((i64.wrap ((i64.wrap ((Bi.tmod 16)*4096))+(i64.wrap (((i64.wrap (vX.getD (1:Int).toNat 0)).tmod 64)*64))))+((i64.wrap (vX.getD (2:Int).toNat 0)).tmod 64)))else none else none else none else none else none else(λ(UB:Unit->Int->(List Int)->Int->Int->Int->Option aB)=>(λ(k22:Unit->Int->(List Int)->Int->Int->Int->Bool->Option aB)=>if decide (y9=3)=true then k22 () y9 vX Ea Bi Iz (decide (Bi=253))else UB () y9 vX Ea Bi Iz) (λ_ Bj IA Eb Bl IB at5=>if at5=true then k10 () Bj IA Eb 167 else(λ(k26:Unit->Int->(List Int)->Int->Int->Int->Option aB)=>(λ(k23:Unit->Int->(List Int)->Int->Int->Int->Bool->Option aB)=>if decide (Bj=3)=true then k23 () Bj IA Eb Bl IB (decide (Bl=240))else k26 () Bj IA Eb Bl IB) (λ_ IC MV MW IE Ut at6=>if at6=true then k10 () IC MV MW 8470 else(λ(k25:Unit->Int->(List Int)->Int->Int->Int->Option aB)=>(λ(k24:Unit->Int->(List Int)->Int->Int->Int->Bool->Option aB)=>if decide (IC=3)=true then if decide (IE>160)=true then k24 () IC MV MW IE Ut (!decide (IE=173))else k25 () IC MV MW IE Ut else k25 () IC MV MW IE Ut) (λ_ Ec IG II MX MZ at7=>if at7=true then k10 () Ec IG II (i64.wrap (MX+864))else k10 () Ec IG II MZ)) (λ_ Uu Uv M0 IJ M3=>k10 () Uu Uv M0 M3))) (λ_ M4 Uw Ux IK Uy=>(λ(k28:Unit->Int->(List Int)->Int->Int->Int->Option aB)=>(λ(k27:Unit->Int->(List Int)->Int->Int->Int->Bool->Option aB)=>if decide (M4=3)=true then if decide (IK>160)=true then k27 () M4 Uw Ux IK Uy (!decide (IK=173))else k28 () M4 Uw Ux IK Uy else k28 () M4 Uw Ux IK Uy) (λ_ M5 IL IM aua aub auc=>if auc=true then k10 () M5 IL IM (i64.wrap (aua+864))else k10 () M5 IL IM aub)) (λ_ Uz UA aud aze aue=>k10 () Uz UA aud aue)))) (λ_ IP IQ y_ Ed afm=>(λ(UI:Unit->Int->(List Int)->Int->Int->Int->Option aB)=>(λ(k30:Unit->Int->(List Int)->Int->Int->Int->Bool->Option aB)=>if decide (IP=3)=true then k30 () IP IQ y_ Ed afm (decide (Ed=240))else UI () IP IQ y_ Ed afm) (λ_ IV M7 M8 IW UE aug=>if aug=true then k10 () IV M7 M8 8470 else(λ(M_:Unit->Int->(List Int)->Int->Int->Int->Option aB)=>(λ(UF:Unit->Int->(List Int)->Int->Int->Int->Bool->Option aB)=>if decide (IV=3)=true then if decide (IW>160)=true then UF () IV M7 M8 IW UE (!decide (IW=173))else M_ () IV M7 M8 IW UE else M_ () IV M7 M8 IW UE) (λ_ M9 IX IY auh aui auj=>if auj=true then k10 () M9 IX IY (i64.wrap (auh+864))else k10 () M9 IX IY aui)) (λ_ UG UH auk azf aul=>k10 () UG UH auk aul))) (λ_ Ee Ef Eg IZ UJ=>(λ(Nc:Unit->Int->(List Int)->Int->Int->Int->Option aB)=>(λ(UK:Unit->Int->(List Int)->Int->Int->Int->Bool->Option aB)=>if decide (Ee=3)=true then if decide (IZ>160)=true then UK () Ee Ef Eg IZ UJ (!decide (IZ=173))else Nc () Ee Ef Eg IZ UJ else Nc () Ee Ef Eg IZ UJ) (λ_ Na Nb afn aum aun auo=>if auo=true then k10 () Na Nb afn (i64.wrap (aum+864))else k10 () Na Nb afn aun)) (λ_ I1 Nf Ng UL Nh=>k10 () I1 Nf Ng Nh))))) (λ_ I4 I5 Ni UN afo=>(λ(k44:Unit->Int->(List Int)->Int->Int->Int->Option aB)=>(λ(UO:Unit->Int->(List Int)->Int->Int->Int->Bool->Option aB)=>if decide (I4=3)=true then UO () I4 I5 Ni UN afo (decide (UN=253))else k44 () I4 I5 Ni UN afo) (λ_ Bn I6 I7 I8 afp aup=>if aup=true then k10 () Bn I6 I7 167 else(λ(UW:Unit->Int->(List Int)->Int->Int->Int->Option aB)=>(λ(UQ:Unit->Int->(List Int)->Int->Int->Int->Bool->Option aB)=>if decide (Bn=3)=true then UQ () Bn I6 I7 I8 afp (decide (I8=240))else UW () Bn I6 I7 I8 afp) (λ_ za Eh Bo xz Ei auq=>if auq=true then k10 () za Eh Bo 8470 else(λ(I9:Unit->Int->(List Int)->Int->Int->Int->Option aB)=>(λ(k39:Unit->Int->(List Int)->Int->Int->Int->Bool->Option aB)=>if decide (za=3)=true then if decide (xz>160)=true then k39 () za Eh Bo xz Ei (!decide (xz=173))else I9 () za Eh Bo xz Ei else I9 () za Eh Bo xz Ei) (λ_ afq afr afs aus aut auu=>if auu=true then k10 () afq afr afs (i64.wrap (aus+864))else k10 () afq afr afs aut)) (λ_ UU Nk Nl azg auv=>k10 () UU Nk Nl auv))) (λ_ Ej I_ UX Ja UY=>(λ(En:Unit->Int->(List Int)->Int->Int->Int->Option aB)=>(λ(UZ:Unit->Int->(List Int)->Int->Int->Int->Bool->Option aB)=>if decide (Ej=3)=true then if decide (Ja>160)=true then UZ () Ej I_ UX Ja UY (!decide (Ja=173))else En () Ej I_ UX Ja UY else En () Ej I_ UX Ja UY) (λ_ Em Jb Jc Nn Np auw=>if auw=true then k10 () Em Jb Jc (i64.wrap (Nn+864))else k10 () Em Jb Jc Np)) (λ_ Nq U0 Nr Ns Nt=>k10 () Nq U0 Nr Nt)))) (λ_ U1 afu afv U2 afw=>(λ(U4:Unit->Int->(List Int)->Int->Int->Int->Option aB)=>(λ(U3:Unit->Int->(List Int)->Int->Int->Int->Bool->Option aB)=>if decide (U1=3)=true then U3 () U1 afu afv U2 afw (decide (U2=240))else U4 () U1 afu afv U2 afw) (λ_ xA Bp Bq zb Eo auz=>if auz=true then k10 () xA Bp Bq 8470 else(λ(k47:Unit->Int->(List Int)->Int->Int->Int->Option aB)=>(λ(Nu:Unit->Int->(List Int)->Int->Int->Int->Bool->Option aB)=>if decide (xA=3)=true then if decide (zb>160)=true then Nu () xA Bp Bq zb Eo (!decide (zb=173))else k47 () xA Bp Bq zb Eo else k47 () xA Bp Bq zb Eo) (λ_ Nv Nw Jd Ep Ny auA=>if auA=true then k10 () Nv Nw Jd (i64.wrap (Ep+864))else k10 () Nv Nw Jd Ny)) (λ_ auB auC auD azh auE=>k10 () auB auC auD auE))) (λ_ Er Es Et Je U5=>(λ(NF:Unit->Int->(List Int)->Int->Int->Int->Option aB)=>(λ(U6:Unit->Int->(List Int)->Int->Int->Int->Bool->Option aB)=>if decide (Er=3)=true then if decide (Je>160)=true then U6 () Er Es Et Je U5 (!decide (Je=173))else NF () Er Es Et Je U5 else NF () Er Es Et Je U5) (λ_ Nz NA afy auF auG auH=>if auH=true then k10 () Nz NA afy (i64.wrap (auF+864))else k10 () Nz NA afy auG)) (λ_ U7 NG Br U8 auI=>k10 () U7 NG Br auI)))))) (λ_ U9 afA U_ afB afC=>(λ(Vy:Unit->Int->(List Int)->Int->Int->Int->Option aB)=>(λ(Va:Unit->Int->(List Int)->Int->Int->Int->Bool->Option aB)=>if decide (U9=4)=true then Va () U9 afA U_ afB afC (decide (U_=3))else Vy () U9 afA U_ afB afC) (λ_ Eu vY Ew NH afD auK=>if auK=true then if(16:Int)≠0 then if aZ 1 vY.length then if(64:Int)≠0 then if aZ 2 vY.length then if(64:Int)≠0 then k10 () Eu vY Ew (i64.wrap ((i64.wrap ((i64.wrap ((NH.tmod 16)*4096))+(i64.wrap (((i64.wrap (vY.getD (1:Int).toNat 0)).tmod 64)*64))))+((i64.wrap (vY.getD (2:Int).toNat 0)).tmod 64)))else none else none else none else none else none else(λ(k60:Unit->Int->(List Int)->Int->Int->Int->Option aB)=>(λ(Vb:Unit->Int->(List Int)->Int->Int->Int->Bool->Option aB)=>if decide (Eu=3)=true then Vb () Eu vY Ew NH afD (decide (NH=253))else k60 () Eu vY Ew NH afD) (λ_ Ey Jg Vd Ve afE auL=>if auL=true then k10 () Ey Jg Vd 167 else(λ(Vj:Unit->Int->(List Int)->Int->Int->Int->Option aB)=>(λ(Vf:Unit->Int->(List Int)->Int->Int->Int->Bool->Option aB)=>if decide (Ey=3)=true then Vf () Ey Jg Vd Ve afE (decide (Ve=240))else Vj () Ey Jg Vd Ve afE) (λ_ Bt Bu Bv Jh Vg auM=>if auM=true then k10 () Bt Bu Bv 8470 else(λ(NK:Unit->Int->(List Int)->Int->Int->Int->Option aB)=>(λ(Vh:Unit->Int->(List Int)->Int->Int->Int->Bool->Option aB)=>if decide (Bt=3)=true then if decide (Jh>160)=true then Vh () Bt Bu Bv Jh Vg (!decide (Jh=173))else NK () Bt Bu Bv Jh Vg else NK () Bt Bu Bv Jh Vg) (λ_ NI NJ afF auN auO auP=>if auP=true then k10 () NI NJ afF (i64.wrap (auN+864))else k10 () NI NJ afF auO)) (λ_ Ji NL NM Vi NP=>k10 () Ji NL NM NP))) (λ_ EA Jj Jk ze Vk=>(λ(NQ:Unit->Int->(List Int)->Int->Int->Int->Option aB)=>(λ(k58:Unit->Int->(List Int)->Int->Int->Int->Bool->Option aB)=>if decide (EA=3)=true then if decide (ze>160)=true then k58 () EA Jj Jk ze Vk (!decide (ze=173))else NQ () EA Jj Jk ze Vk else NQ () EA Jj Jk ze Vk) (λ_ afG afH afI auR auS auT=>if auT=true then k10 () afG afH afI (i64.wrap (auR+864))else k10 () afG afH afI auS)) (λ_ Vl Vm NR Vn NS=>k10 () Vl Vm NR NS)))) (λ_ Vo afJ afK Vp afL=>(λ(Vv:Unit->Int->(List Int)->Int->Int->Int->Option aB)=>(λ(Vq:Unit->Int->(List Int)->Int->Int->Int->Bool->Option aB)=>if decide (Vo=3)=true then Vq () Vo afJ afK Vp afL (decide (Vp=240))else Vv () Vo afJ afK Vp afL) (λ_ Bw uH Bz Jl Vr au0=>if au0=true then k10 () Bw uH Bz 8470 else(λ(NV:Unit->Int->(List Int)->Int->Int->Int->Option aB)=>(λ(Vs:Unit->Int->(List Int)->Int->Int->Int->Bool->Option aB)=>if decide (Bw=3)=true then if decide (Jl>160)=true then Vs () Bw uH Bz Jl Vr (!decide (Jl=173))else NV () Bw uH Bz Jl Vr else NV () Bw uH Bz Jl Vr) (λ_ NT Jm NU au1 au2 au3=>if au3=true then k10 () NT Jm NU (i64.wrap (au1+864))else k10 () NT Jm NU au2)) (λ_ NW Vt Vu afM au4=>k10 () NW Vt Vu au4))) (λ_ BA Jn EB xB EC=>(λ(Jo:Unit->Int->(List Int)->Int->Int->Int->Option aB)=>(λ(k65:Unit->Int->(List Int)->Int->Int->Int->Bool->Option aB)=>if decide (BA=3)=true then if decide (xB>160)=true then k65 () BA Jn EB xB EC (!decide (xB=173))else Jo () BA Jn EB xB EC else Jo () BA Jn EB xB EC) (λ_ afN afO afP au6 au7 au8=>if au8=true then k10 () afN afO afP (i64.wrap (au6+864))else k10 () afN afO afP au7)) (λ_ Vx NY NZ azi au9=>k10 () Vx NY NZ au9))))) (λ_ Jp N7 afQ Vz afR=>(λ(VG:Unit->Int->(List Int)->Int->Int->Int->Option aB)=>(λ(VA:Unit->Int->(List Int)->Int->Int->Int->Bool->Option aB)=>if decide (Jp=3)=true then VA () Jp N7 afQ Vz afR (decide (Vz=253))else VG () Jp N7 afQ Vz afR) (λ_ zf ED EE EF Jq au_=>if au_=true then k10 () zf ED EE 167 else(λ(Ob:Unit->Int->(List Int)->Int->Int->Int->Option aB)=>(λ(Jr:Unit->Int->(List Int)->Int->Int->Int->Bool->Option aB)=>if decide (zf=3)=true then Jr () zf ED EE EF Jq (decide (EF=240))else Ob () zf ED EE EF Jq) (λ_ zh EG BB xC EH ava=>if ava=true then k10 () zh EG BB 8470 else(λ(N8:Unit->Int->(List Int)->Int->Int->Int->Option aB)=>(λ(k70:Unit->Int->(List Int)->Int->Int->Int->Bool->Option aB)=>if decide (zh=3)=true then if decide (xC>160)=true then k70 () zh EG BB xC EH (!decide (xC=173))else N8 () zh EG BB xC EH else N8 () zh EG BB xC EH) (λ_ afT afU afV avd ave avf=>if avf=true then k10 () afT afU afV (i64.wrap (avd+864))else k10 () afT afU afV ave)) (λ_ Js N9 N_ VE Oa=>k10 () Js N9 N_ Oa))) (λ_ EI Jt EJ vZ EK=>(λ(Oc:Unit->Int->(List Int)->Int->Int->Int->Option aB)=>(λ(k73:Unit->Int->(List Int)->Int->Int->Int->Bool->Option aB)=>if decide (EI=3)=true then if decide (vZ>160)=true then k73 () EI Jt EJ vZ EK (!decide (vZ=173))else Oc () EI Jt EJ vZ EK else Oc () EI Jt EJ vZ EK) (λ_ afW afX afY avh avi avj=>if avj=true then k10 () afW afX afY (i64.wrap (avh+864))else k10 () afW afX afY avi)) (λ_ VF Od Oe azj avk=>k10 () VF Od Oe avk)))) (λ_ Ju Og afZ VH af0=>(λ(VL:Unit->Int->(List Int)->Int->Int->Int->Option aB)=>(λ(VI:Unit->Int->(List Int)->Int->Int->Int->Bool->Option aB)=>if decide (Ju=3)=true then VI () Ju Og afZ VH af0 (decide (VH=240))else VL () Ju Og afZ VH af0) (λ_ BC BD v_ zi VJ avl=>if avl=true then k10 () BC BD v_ 8470 else(λ(Oh:Unit->Int->(List Int)->Int->Int->Int->Option aB)=>(λ(k77:Unit->Int->(List Int)->Int->Int->Int->Bool->Option aB)=>if decide (BC=3)=true then if decide (zi>160)=true then k77 () BC BD v_ zi VJ (!decide (zi=173))else Oh () BC BD v_ zi VJ else Oh () BC BD v_ zi VJ) (λ_ af1 af2 af3 avn avo avp=>if avp=true then k10 () af1 af2 af3 (i64.wrap (avn+864))else k10 () af1 af2 af3 avo)) (λ_ VK Oi Oj azk avq=>k10 () VK Oi Oj avq))) (λ_ EL Jv VM Jw VN=>(λ(Oo:Unit->Int->(List Int)->Int->Int->Int->Option aB)=>(λ(VP:Unit->Int->(List Int)->Int->Int->Int->Bool->Option aB)=>if decide (EL=3)=true then if decide (Jw>160)=true then VP () EL Jv VM Jw VN (!decide (Jw=173))else Oo () EL Jv VM Jw VN else Oo () EL Jv VM Jw VN) (λ_ Om JA JB avr avt avu=>if avu=true then k10 () Om JA JB (i64.wrap (avr+864))else k10 () Om JA JB avt)) (λ_ VQ VR avv azl avw=>k10 () VQ VR avv avw))))))) (λ_ MK ML y8 D6=>(λ(k18:Unit->Int->Int->Option aB)=>(λ(k16:Unit->Int->Int->Bool->Option aB)=>(λ(k12:Unit->Int->Int->Option aB)=>(KD n MK D6).bind λiC=>if(!iC.1)=true then k12 () y8 D6 else(FT n MK D6).bind λqV=>if 0<=y8/\y8<=(ML.length:Int)then(Qh n qV.1 (ML.take y8.toNat)).bind λiD=>k16 () y8 D6 (!iD.1)else none) (λ_ adm adn=>(λ(k13:Unit->Int->Int->Option aB)=>k13 () 0 0) (λ_ ar4 ar5=>some (ar4,ar5,())))) (λ_ MO Ue Uf=>if Uf=true then(λ(k17:Unit->Int->Int->Option aB)=>k17 () 0 0) (λ_ MQ Ug=>some (MQ,Ug,()))else k18 () MO Ue)) (λ_ atA atB=>(λ(k19:Unit->Int->Int->Option aB)=>k19 () atB atA) (λ_ Uo MS=>some (Uo,MS,())))))))))
def X0:Entry:=⟨83,[.val (.int .i64) [],.val (.sl 5 (.int .u8)) []],[.val (.int .i64) [] [],.val (.int .i64) [] []],λn c=>FV n c.1 c.2.1⟩
theorem akS[Fr][aI.LaidTab prog][aI.LaidErr prog][aS.bJ prog](n:Nat):bg prog n X0:=bX mixed bR func83 (by kernel_rfl) (hi:=⟨0,[],[],[],[(112,some 114,XY),(88,some 119,PY),(113,some 123,XZ),(33,some 21,oU)],[],[],[],[]⟩) (aH (akQ n) (aH (Y3 n) (aH (akR n) (aH (pW n) bT)))) (by intro n c;kernel_rfl)
def Qi(n:Nat)(a0:Int)(a1:List Int):Option ((List Int)×Bool×Unit):=rounds (λL1 (v1:Int×(List Int)×mE)=>if decide ((v1.2.1.length:Int)>0)=true then(FV n v1.1 v1.2.1).bind λr2=>if decide (r2.2.1=0)=true then some (([]:List Int),false,())else if(v1.2.2.1.length+[r2.1].length)*8<=140737488355328 then if 0<=r2.2.1/\r2.2.1<=(v1.2.1.length:Int)then L1 (v1.1,v1.2.1.drop r2.2.1.toNat,v1.2.2.1++[r2.1],())else none else none else some (v1.2.2.1,true,())) n (a0,a1,([]:List Int),())
def X4:Entry:=⟨48,[.val (.int .i64) [],.val (.sl 5 (.int .u8)) []],[.own (.sl 2 (.int .i64)) [2] [] [],.val .bool [] []],λn c=>Qi n c.1 c.2.1⟩
theorem akU[Fr][aI.LaidTab prog][aI.LaidErr prog][aS.bJ prog](n:Nat):bg prog n X4:=bX mixed bR func48 (by kernel_rfl) (hi:=⟨0,[],[(0,[0,1,6],[290])],[],[(83,some 16,X0)],[],[],[],[]⟩) (aH (akS n) bT) (by intro n c;kernel_rfl)
def awg:Go.Shelf.Ren:=⟨fun|145=>84|220=>114|219=>109|217=>129|225=>130|224=>131|267=>132|266=>148|314=>149|n=>n,fun|9=>9|4=>4|59=>110|3=>3|5=>5|46=>136|146=>161|51=>160|n=>n,fun|1=>0|n=>n⟩
theorem awf:Go.Proofs.Lays.n145 prog awg:={
 mixed:=by kernel_rfl
 f145:=func84.trans (congrArg some (by kernel_rfl))
 f217:=func129.trans (congrArg some (by kernel_rfl))
 f219:=func109.trans (congrArg some (by kernel_rfl))
 f220:=func114.trans (congrArg some (by kernel_rfl))
 f224:=func131.trans (congrArg some (by kernel_rfl))
 f225:=func130.trans (congrArg some (by kernel_rfl))
 f266:=func148.trans (congrArg some (by kernel_rfl))
 f267:=func132.trans (congrArg some (by kernel_rfl))
 f314:=func149.trans (congrArg some (by kernel_rfl))
 t3:=Tryz.underlying3
 a3:=Tryz.isAgg3
 z3:=Tryz.sizeOf3
 v3:=Tryz.zeroValue3
 t4:=Tryz.underlying4
 a4:=Tryz.isAgg4
 z4:=Tryz.sizeOf4
 v4:=Tryz.zeroValue4
 t5:=Tryz.underlying5
 a5:=Tryz.isAgg5
 z5:=Tryz.sizeOf5
 v5:=Tryz.zeroValue5
 t9:=Tryz.underlying9
 a9:=Tryz.isAgg9
 z9:=Tryz.sizeOf9
 v9:=Tryz.zeroValue9
 t46:=Tryz.underlying136
 a46:=Tryz.isAgg136
 z46:=Tryz.sizeOf136
 v46:=Tryz.zeroValue136
 t51:=Tryz.underlying160
 a51:=Tryz.isAgg160
 z51:=Tryz.sizeOf160
 v51:=Tryz.zeroValue160
 t59:=Tryz.underlying110
 a59:=Tryz.isAgg110
 z59:=Tryz.sizeOf110
 v59:=Tryz.zeroValue110
 t146:=Tryz.underlying161
 a146:=Tryz.isAgg161
 z146:=Tryz.sizeOf161
 v146:=Tryz.zeroValue161
 g1:=by kernel_rfl }
open Go.Proofs Go.RowKit Go.Lib in
theorem strings_Cut(s sep:ByteArray)(m:Int)(w:World)(hs:s.size<4294967281)(hm:w.cell? ⟨0,0,none⟩=some (.int .i64 m)) :
  Calls prog 84 #[.string s,.string sep] w λe w'=>e=.returned (.tuple #[.string ⟨(Lib.cut s.data.toList sep.data.toList).1.toArray⟩,.string ⟨(Lib.cut s.data.toList sep.data.toList).2.1.toArray⟩,.bool (Lib.cut s.data.toList sep.data.toList).2.2])/\∃n,w'=w.drewN n:=Any.strings_Cut awf s sep m w hs hm
def KX(n:Nat)(a0:List Int)(a1:List Int):Option (List Int×List Int×Bool×Unit):=aS.De a0 a1
def aht:List aM:=[.val .str [],.val .str []]
def axU:List gJ:=[.val .str [] [],.val .str [] [],.val .bool [] []]
def X5:Entry:=⟨84,aht,axU,λn (c:Cont (kin aht))=>KX n c.1 c.2.1⟩
theorem akV[Fr][aI.LaidTab prog][aI.LaidErr prog][aS.bJ prog](n:Nat):bg prog n X5:=aS.amQ strings_Cut (Go.MuLone.run_callFunc_enter func84 (by kernel_rfl) rfl)
def t_(n:Nat)(a0:List Int):Option (Int×Bool×Unit):=if decide (a0=[42])=true then some (0,true,())else(KM n a0).bind λr1=>if r1.2.1=true then some (r1.1,decide (r1.1>0),())else some (r1.1,false,())
def PZ:Entry:=⟨85,[.val .str []],[.val (.int .i64) [] [],.val .bool [] []],λn c=>t_ n c.1⟩
theorem Y4[Fr][aI.LaidTab prog][aI.LaidErr prog][aS.bJ prog](n:Nat):bg prog n PZ:=bX mixed bR func85 (by kernel_rfl) (hi:=⟨0,[],[],[],[(46,some 10,PW)],[],[],[],[]⟩) (aH (Y1 n) bT) (by intro n c;kernel_rfl)
def Qk(n:Nat)(a0:List aB):Option (Int×Unit):=some ((a0.length:Int),())
def X6:Entry:=⟨71,[.val (.sl 96 nO) []],[.val (.int .i64) [] []],λn c=>Qk n c.1⟩
theorem akW[Fr][aI.LaidTab prog][aI.LaidErr prog][aS.bJ prog](n:Nat):bg prog n X6:=bX mixed bR func71 (by kernel_rfl) (hi:=akG) bT (by intro n c;kernel_rfl)
def Cq(n:Nat)(a0:List aB):Option (Int×Unit):=(Qk n a0).bind λr1=>(nJ n r1.1 1 8).bind λr2=>if(!r2.1)=true then some (2,())else rounds (λL3 (v3:(List aB)×aB)=>if decide (v3.2.2.1<v3.2.1)=true then if aZ v3.2.2.1 v3.1.length then(nJ n ((v3.1.getD v3.2.2.1.toNat fJ).1) 0 999).bind λr4=>if(!r4.1)=true then some (3,())else(nJ n (((v3.1.getD v3.2.2.1.toNat fJ).2).1) 0 999).bind λr5=>if(!r5.1)=true then some (3,())else L3 (v3.1,v3.2.1,i64.wrap (v3.2.2.1+1),())else none else some (0,())) n (a0,(a0.length:Int),0,())
def P5:Entry:=⟨37,[.val (.sl 96 nO) []],[.val (.int .i64) [] []],λn c=>Cq n c.1⟩
theorem Y5[Fr][aI.LaidTab prog][aI.LaidErr prog][aS.bJ prog](n:Nat):bg prog n P5:=bX mixed bR func37 (by kernel_rfl) (hi:=⟨0,[],[(0,[9,10,11],[])],[],[(71,some 6,X6),(33,some 7,oU),(33,some 17,oU),(33,some 22,oU)],[],[],[],[]⟩) (aH (akW n) (aH (pW n) (aH (pW n) (aH (pW n) bT)))) (by intro n c;kernel_rfl)
def KI(n:Nat)(a0:Int):Option (List Int×Unit):=aI.Df a0
def ahu:List aM:=[.val (.int .i64) []]
def axV:List gJ:=[.val .str [] []]
def P6:Entry:=⟨51,ahu,axV,λn (c:Cont (kin ahu))=>KI n c.1⟩
theorem Y6[Fr][aI.LaidTab prog][aI.LaidErr prog][aS.bJ prog](n:Nat):bg prog n P6:=aI.amW aaz (Go.MuLone.run_callFunc_enter func51 (by kernel_rfl) rfl)
def FU(n:Nat)(a0:Int):Option mE:=if decide (a0=0)=true then some ([42],())else(KI n a0).bind λr1=>some (r1.1,())
def P7:Entry:=⟨89,[.val (.int .i64) []],[.val .str [] []],λn c=>FU n c.1⟩
theorem Y7[Fr][aI.LaidTab prog][aI.LaidErr prog][aS.bJ prog](n:Nat):bg prog n P7:=bX mixed bR func89 (by kernel_rfl) (hi:=⟨0,[],[],[],[(51,some 6,P6)],[],[],[],[]⟩) (aH (Y6 n) bT) (by intro n c;kernel_rfl)
def Cv(n:Nat)(a0:List aB):Option mE:=rounds (λL1 (v1:(List aB)×Int×Int×(List (List Int))×Unit)=>if decide (v1.2.2.1<v1.2.1)=true then if aZ v1.2.2.1 v1.1.length then(FU n ((v1.1.getD v1.2.2.1.toNat fJ).1)).bind λr2=>if(!decide (((v1.1.getD v1.2.2.1.toNat fJ).1)=(((v1.1.getD v1.2.2.1.toNat fJ).2).1)))=true then(FU n (((v1.1.getD v1.2.2.1.toNat fJ).2).1)).bind λr3=>if [58].length+r3.1.length<=9223372036854775807 then if r2.1.length+([58]++r3.1).length<=9223372036854775807 then if(v1.2.2.2.1.length+[r2.1++([58]++r3.1)].length)*16<=140737488355328 then L1 (v1.1,v1.2.1,i64.wrap (v1.2.2.1+1),v1.2.2.2.1++[r2.1++([58]++r3.1)],())else none else none else none else if(v1.2.2.2.1.length+[r2.1].length)*16<=140737488355328 then L1 (v1.1,v1.2.1,i64.wrap (v1.2.2.1+1),v1.2.2.2.1++[r2.1],())else none else none else(Qs n v1.2.2.2.1 [44]).bind λr4=>some (r4.1,())) n (a0,(a0.length:Int),0,([]:List (List Int)),())
def P8:Entry:=⟨53,[.val (.sl 96 nO) []],[.val .str [] []],λn c=>Cv n c.1⟩
theorem Y8[Fr][aI.LaidTab prog][aI.LaidErr prog][aS.bJ prog](n:Nat):bg prog n P8:=bX mixed bR func53 (by kernel_rfl) (hi:=⟨0,[],[(0,[3,8,9,10],[226])],[],[(89,some 16,P7),(89,some 25,P7),(86,some 34,PU)],[],[],[],[]⟩) (aH (Y7 n) (aH (Y7 n) (aH (YZ n) bT))) (by intro n c;kernel_rfl)
def FX(n:Nat)(a0:List Int):Option ((List aB)×Bool×Unit):=(CB n a0 [44] 9).bind λr1=>rounds (λL2 (v2:(List Int)×(List (List Int))×Int×Int×(List aB)×Unit)=>if decide (v2.2.2.2.1<v2.2.2.1)=true then if aZ v2.2.2.2.1 v2.2.1.length then(KX n (v2.2.1.getD v2.2.2.2.1.toNat ([]:List Int)) [58]).bind λr3=>if(!r3.2.2.1)=true then(t_ n r3.1).bind λr4=>(t_ n r3.1).bind λr5=>if(!r4.2.1)=true then some (([]:List aB),false,())else if(!r5.2.1)=true then some (([]:List aB),false,())else if(v2.2.2.2.2.1.length+[(r4.1,r5.1,())].length)*16<=140737488355328 then L2 (v2.1,v2.2.1,v2.2.2.1,i64.wrap (v2.2.2.2.1+1),v2.2.2.2.2.1++[(r4.1,r5.1,())],())else none else(t_ n r3.1).bind λr6=>(t_ n r3.2.1).bind λr7=>if(!r6.2.1)=true then some (([]:List aB),false,())else if(!r7.2.1)=true then some (([]:List aB),false,())else if(v2.2.2.2.2.1.length+[(r6.1,r7.1,())].length)*16<=140737488355328 then L2 (v2.1,v2.2.1,v2.2.2.1,i64.wrap (v2.2.2.2.1+1),v2.2.2.2.2.1++[(r6.1,r7.1,())],())else none else none else(Cq n v2.2.2.2.2.1).bind λr8=>if decide (r8.1=0)=true then(Cv n v2.2.2.2.2.1).bind λr9=>some (v2.2.2.2.2.1,decide (r9.1=v2.1),())else some (v2.2.2.2.2.1,false,())) n (a0,r1.1,(r1.1.length:Int),0,([]:List aB),())
def X7:Entry:=⟨49,[.val .str []],[.own (.sl 96 nO) [96] [] [],.val .bool [] []],λn c=>FX n c.1⟩
theorem akX[Fr][aI.LaidTab prog][aI.LaidErr prog][aS.bJ prog](n:Nat):bg prog n X7:=bX mixed bR func49 (by kernel_rfl) (hi:=⟨0,[],[(0,[0,4,16,17,18],[450])],[],[(19,some 16,PT),(84,some 24,X5),(85,some 33,PZ),(85,some 38,PZ),(37,some 56,P5),(53,some 60,P8)],[],[],[],[]⟩) (aH (YY n) (aH (akV n) (aH (Y4 n) (aH (Y4 n) (aH (Y5 n) (aH (Y8 n) bT)))))) (by intro n c;kernel_rfl)
def wL:Nat->yw->Option (Int×yw×Unit)
 |0,_=>none
 |n+1,a0=>(if a0.2.2.1=true then some (0,(a0.1,a0.2.1,true,a0.2.2.2),())else(if decide ((a0.2.1.length:Int)>12)=true then some (0,(a0.1,a0.2.1,true,a0.2.2.2),())else((uf n a0).bind λr1=>((FZ n [[97,108,108],[102,108,97,103],[115,105,110,99,101],[98,101,102,111,114,101],[108,97,114,103,101,114],[115,117,98,106,101,99,116],[98,111,100,121],[117,105,100],[110,111,116],[97,110,100],[111,114]] r1.1).bind λr2=>(if decide ((i64.wrap (r2.1+1))=2)=true then((uf n r1.2.1).bind λr3=>((KE n r3.1).bind λr4=>(if r3.2.1.2.2.1=true then(if(r3.2.1.2.1.length+[(i64.wrap (r2.1+1),r4.1.2.1,([]:List Int),([]:List aB),0,0,())].length)*80<=140737488355328 then((kI n (r3.2.1.2.1++[(i64.wrap (r2.1+1),r4.1.2.1,([]:List Int),([]:List aB),0,0,())])).bind λr5=>some (i64.wrap (r5.1-1),(r3.2.1.1,r3.2.1.2.1++[(i64.wrap (r2.1+1),r4.1.2.1,([]:List Int),([]:List aB),0,0,())],true,r3.2.1.2.2.2),()))else none)else(if(!(decide (r4.1.1=0)))=true then(if(r3.2.1.2.1.length+[(i64.wrap (r2.1+1),r4.1.2.1,([]:List Int),([]:List aB),0,0,())].length)*80<=140737488355328 then((kI n (r3.2.1.2.1++[(i64.wrap (r2.1+1),r4.1.2.1,([]:List Int),([]:List aB),0,0,())])).bind λr6=>some (i64.wrap (r6.1-1),(r3.2.1.1,r3.2.1.2.1++[(i64.wrap (r2.1+1),r4.1.2.1,([]:List Int),([]:List aB),0,0,())],true,r3.2.1.2.2.2),()))else none)else(if(r3.2.1.2.1.length+[(i64.wrap (r2.1+1),r4.1.2.1,([]:List Int),([]:List aB),0,0,())].length)*80<=140737488355328 then((kI n (r3.2.1.2.1++[(i64.wrap (r2.1+1),r4.1.2.1,([]:List Int),([]:List aB),0,0,())])).bind λr7=>some (i64.wrap (r7.1-1),(r3.2.1.1,r3.2.1.2.1++[(i64.wrap (r2.1+1),r4.1.2.1,([]:List Int),([]:List aB),0,0,())],decide (r2.1<0),r3.2.1.2.2.2),()))else none)))))else((Cu n (i64.wrap (r2.1+1))).bind λr8=>(if r8.1=true then((uf n r1.2.1).bind λr9=>((KM n r9.1).bind λjG=>(if r9.2.1.2.2.1=true then(if(r9.2.1.2.1.length+[(i64.wrap (r2.1+1),jG.1,([]:List Int),([]:List aB),0,0,())].length)*80<=140737488355328 then((kI n (r9.2.1.2.1++[(i64.wrap (r2.1+1),jG.1,([]:List Int),([]:List aB),0,0,())])).bind λiC=>some (i64.wrap (iC.1-1),(r9.2.1.1,r9.2.1.2.1++[(i64.wrap (r2.1+1),jG.1,([]:List Int),([]:List aB),0,0,())],true,r9.2.1.2.2.2),()))else none)else(if(!jG.2.1)=true then(if(r9.2.1.2.1.length+[(i64.wrap (r2.1+1),jG.1,([]:List Int),([]:List aB),0,0,())].length)*80<=140737488355328 then((kI n (r9.2.1.2.1++[(i64.wrap (r2.1+1),jG.1,([]:List Int),([]:List aB),0,0,())])).bind λjH=>some (i64.wrap (jH.1-1),(r9.2.1.1,r9.2.1.2.1++[(i64.wrap (r2.1+1),jG.1,([]:List Int),([]:List aB),0,0,())],true,r9.2.1.2.2.2),()))else none)else(if(r9.2.1.2.1.length+[(i64.wrap (r2.1+1),jG.1,([]:List Int),([]:List aB),0,0,())].length)*80<=140737488355328 then((kI n (r9.2.1.2.1++[(i64.wrap (r2.1+1),jG.1,([]:List Int),([]:List aB),0,0,())])).bind λjK=>some (i64.wrap (jK.1-1),(r9.2.1.1,r9.2.1.2.1++[(i64.wrap (r2.1+1),jG.1,([]:List Int),([]:List aB),0,0,())],decide (r2.1<0),r9.2.1.2.2.2),()))else none)))))else((xU n (i64.wrap (r2.1+1))).bind λqV=>(if qV.1=true then((uf n r1.2.1).bind λiD=>((Qi n 4 iD.1).bind λr16=>(if iD.2.1.2.2.1=true then(if(iD.2.1.2.1.length+[(i64.wrap (r2.1+1),0,r16.1,([]:List aB),0,0,())].length)*80<=140737488355328 then((kI n (iD.2.1.2.1++[(i64.wrap (r2.1+1),0,r16.1,([]:List aB),0,0,())])).bind λnC=>some (i64.wrap (nC.1-1),(iD.2.1.1,iD.2.1.2.1++[(i64.wrap (r2.1+1),0,r16.1,([]:List aB),0,0,())],true,iD.2.1.2.2.2),()))else none)else(if(!r16.2.1)=true then(if(iD.2.1.2.1.length+[(i64.wrap (r2.1+1),0,r16.1,([]:List aB),0,0,())].length)*80<=140737488355328 then((kI n (iD.2.1.2.1++[(i64.wrap (r2.1+1),0,r16.1,([]:List aB),0,0,())])).bind λuV=>some (i64.wrap (uV.1-1),(iD.2.1.1,iD.2.1.2.1++[(i64.wrap (r2.1+1),0,r16.1,([]:List aB),0,0,())],true,iD.2.1.2.2.2),()))else none)else(if(iD.2.1.2.1.length+[(i64.wrap (r2.1+1),0,r16.1,([]:List aB),0,0,())].length)*80<=140737488355328 then((kI n (iD.2.1.2.1++[(i64.wrap (r2.1+1),0,r16.1,([]:List aB),0,0,())])).bind λqo=>some (i64.wrap (qo.1-1),(iD.2.1.1,iD.2.1.2.1++[(i64.wrap (r2.1+1),0,r16.1,([]:List aB),0,0,())],decide (r2.1<0),iD.2.1.2.2.2),()))else none)))))else(if decide ((i64.wrap (r2.1+1))=8)=true then((uf n r1.2.1).bind λl_=>((FX n l_.1).bind λmg=>(if l_.2.1.2.2.1=true then(if(l_.2.1.2.1.length+[(i64.wrap (r2.1+1),0,([]:List Int),mg.1,0,0,())].length)*80<=140737488355328 then((kI n (l_.2.1.2.1++[(i64.wrap (r2.1+1),0,([]:List Int),mg.1,0,0,())])).bind λJ6=>some (i64.wrap (J6.1-1),(l_.2.1.1,l_.2.1.2.1++[(i64.wrap (r2.1+1),0,([]:List Int),mg.1,0,0,())],true,l_.2.1.2.2.2),()))else none)else(if(!mg.2.1)=true then(if(l_.2.1.2.1.length+[(i64.wrap (r2.1+1),0,([]:List Int),mg.1,0,0,())].length)*80<=140737488355328 then((kI n (l_.2.1.2.1++[(i64.wrap (r2.1+1),0,([]:List Int),mg.1,0,0,())])).bind λBQ=>some (i64.wrap (BQ.1-1),(l_.2.1.1,l_.2.1.2.1++[(i64.wrap (r2.1+1),0,([]:List Int),mg.1,0,0,())],true,l_.2.1.2.2.2),()))else none)else(if(l_.2.1.2.1.length+[(i64.wrap (r2.1+1),0,([]:List Int),mg.1,0,0,())].length)*80<=140737488355328 then((kI n (l_.2.1.2.1++[(i64.wrap (r2.1+1),0,([]:List Int),mg.1,0,0,())])).bind λWM=>some (i64.wrap (WM.1-1),(l_.2.1.1,l_.2.1.2.1++[(i64.wrap (r2.1+1),0,([]:List Int),mg.1,0,0,())],decide (r2.1<0),l_.2.1.2.2.2),()))else none)))))else(if decide ((i64.wrap (r2.1+1))=9)=true then((wL n r1.2.1).bind λjL=>(if jL.2.1.2.2.1=true then(if(jL.2.1.2.1.length+[(i64.wrap (r2.1+1),0,([]:List Int),([]:List aB),jL.1,0,())].length)*80<=140737488355328 then((kI n (jL.2.1.2.1++[(i64.wrap (r2.1+1),0,([]:List Int),([]:List aB),jL.1,0,())])).bind λxK=>some (i64.wrap (xK.1-1),(jL.2.1.1,jL.2.1.2.1++[(i64.wrap (r2.1+1),0,([]:List Int),([]:List aB),jL.1,0,())],true,jL.2.1.2.2.2),()))else none)else(if(jL.2.1.2.1.length+[(i64.wrap (r2.1+1),0,([]:List Int),([]:List aB),jL.1,0,())].length)*80<=140737488355328 then((kI n (jL.2.1.2.1++[(i64.wrap (r2.1+1),0,([]:List Int),([]:List aB),jL.1,0,())])).bind λtN=>some (i64.wrap (tN.1-1),(jL.2.1.1,jL.2.1.2.1++[(i64.wrap (r2.1+1),0,([]:List Int),([]:List aB),jL.1,0,())],decide (r2.1<0),jL.2.1.2.2.2),()))else none)))else(if decide ((i64.wrap (r2.1+1))>9)=true then((wL n r1.2.1).bind λuW=>((wL n uW.2.1).bind λjM=>(if jM.2.1.2.2.1=true then(if(jM.2.1.2.1.length+[(i64.wrap (r2.1+1),0,([]:List Int),([]:List aB),uW.1,jM.1,())].length)*80<=140737488355328 then((kI n (jM.2.1.2.1++[(i64.wrap (r2.1+1),0,([]:List Int),([]:List aB),uW.1,jM.1,())])).bind λzy=>some (i64.wrap (zy.1-1),(jM.2.1.1,jM.2.1.2.1++[(i64.wrap (r2.1+1),0,([]:List Int),([]:List aB),uW.1,jM.1,())],true,jM.2.1.2.2.2),()))else none)else(if(jM.2.1.2.1.length+[(i64.wrap (r2.1+1),0,([]:List Int),([]:List aB),uW.1,jM.1,())].length)*80<=140737488355328 then((kI n (jM.2.1.2.1++[(i64.wrap (r2.1+1),0,([]:List Int),([]:List aB),uW.1,jM.1,())])).bind λtO=>some (i64.wrap (tO.1-1),(jM.2.1.1,jM.2.1.2.1++[(i64.wrap (r2.1+1),0,([]:List Int),([]:List aB),uW.1,jM.1,())],decide (r2.1<0),jM.2.1.2.2.2),()))else none))))else(if r1.2.1.2.2.1=true then(if(r1.2.1.2.1.length+[(i64.wrap (r2.1+1),0,([]:List Int),([]:List aB),0,0,())].length)*80<=140737488355328 then((kI n (r1.2.1.2.1++[(i64.wrap (r2.1+1),0,([]:List Int),([]:List aB),0,0,())])).bind λr32=>some (i64.wrap (r32.1-1),(r1.2.1.1,r1.2.1.2.1++[(i64.wrap (r2.1+1),0,([]:List Int),([]:List aB),0,0,())],true,r1.2.1.2.2.2),()))else none)else(if(r1.2.1.2.1.length+[(i64.wrap (r2.1+1),0,([]:List Int),([]:List aB),0,0,())].length)*80<=140737488355328 then((kI n (r1.2.1.2.1++[(i64.wrap (r2.1+1),0,([]:List Int),([]:List aB),0,0,())])).bind λr33=>some (i64.wrap (r33.1-1),(r1.2.1.1,r1.2.1.2.1++[(i64.wrap (r2.1+1),0,([]:List Int),([]:List aB),0,0,())],decide (r2.1<0),r1.2.1.2.2.2),()))else none))))))))))))))
def O0:List aM:=[.rw Lt [2,51,96] [2,51,96,4294967295] [2,9,51,96]]
def ah8:List gJ:=[.val (.int .i64) [] []]
def zM:Entry:=⟨20,O0,ah8,λn (c:Cont (kin O0))=>wL n c.1⟩
def YN:Hint:=⟨0,[115,116],[],[],[(42,some 25,Cj),(43,some 28,XU),(42,some 37,Cj),(44,some 38,XW),(22,some 125,Ck),(45,some 48,Kw),(42,some 51,Cj),(46,some 52,PW),(47,some 59,FQ),(42,some 62,Cj),(48,some 64,X4),(42,some 74,Cj),(49,some 75,X7),(20,some 84,zM),(20,some 91,zM),(20,some 94,zM)],[],[],[],[]⟩
theorem ajb:∀n (c:Cont (kin O0)),sJ T YN Tryz.f20 O0 ah8 n c=zM.F (n+1) c:=by intro n c;kernel_rfl
theorem K5[Fr][aI.LaidTab prog][aI.LaidErr prog][aS.bJ prog]:∀(n:Nat),bg prog n zM
 |0=>Cf λc=>rfl
 |n+1=>BR mixed bR (E:=zM) func20 (by kernel_rfl) (hi:=YN) (aH (Gf n) (aH (akM n) (aH (Gf n) (aH (akO n) (aH (Gg n) (aH (Qx n) (aH (Gf n) (aH (Y1 n) (aH (K4 n) (aH (Gf n) (aH (akU n) (aH (Gf n) (aH (akX n) (aH (K5 n) (aH (K5 n) (aH (K5 n) bT)))))))))))))))) (ajb n)
def Cs(n:Nat)(a0:aa):Option (Bool×Unit):=(Cu n a0.1).bind λr1=>if r1.1=true then(xU n a0.1).bind λr2=>if r2.1=true then if decide (a0.1=8)=true then if decide (a0.1>=10)=true then if decide (a0.1>=10)=true then some (true,())else some (decide (a0.2.2.2.2.2.1=0),())else if decide (a0.1=9)=true then if decide (a0.1>=10)=true then some (true,())else some (decide (a0.2.2.2.2.2.1=0),())else if decide (a0.2.2.2.2.1=0)=true then if decide (a0.1>=10)=true then some (true,())else some (decide (a0.2.2.2.2.2.1=0),())else some (false,())else if decide ((a0.2.2.2.1.length:Int)=0)=true then if decide (a0.1>=10)=true then if decide (a0.1>=10)=true then some (true,())else some (decide (a0.2.2.2.2.2.1=0),())else if decide (a0.1=9)=true then if decide (a0.1>=10)=true then some (true,())else some (decide (a0.2.2.2.2.2.1=0),())else if decide (a0.2.2.2.2.1=0)=true then if decide (a0.1>=10)=true then some (true,())else some (decide (a0.2.2.2.2.2.1=0),())else some (false,())else some (false,())else if decide ((a0.2.2.1.length:Int)=0)=true then if decide (a0.1=8)=true then if decide (a0.1>=10)=true then if decide (a0.1>=10)=true then some (true,())else some (decide (a0.2.2.2.2.2.1=0),())else if decide (a0.1=9)=true then if decide (a0.1>=10)=true then some (true,())else some (decide (a0.2.2.2.2.2.1=0),())else if decide (a0.2.2.2.2.1=0)=true then if decide (a0.1>=10)=true then some (true,())else some (decide (a0.2.2.2.2.2.1=0),())else some (false,())else if decide ((a0.2.2.2.1.length:Int)=0)=true then if decide (a0.1>=10)=true then if decide (a0.1>=10)=true then some (true,())else some (decide (a0.2.2.2.2.2.1=0),())else if decide (a0.1=9)=true then if decide (a0.1>=10)=true then some (true,())else some (decide (a0.2.2.2.2.2.1=0),())else if decide (a0.2.2.2.2.1=0)=true then if decide (a0.1>=10)=true then some (true,())else some (decide (a0.2.2.2.2.2.1=0),())else some (false,())else some (false,())else some (false,())else if decide (a0.2.1=0)=true then(xU n a0.1).bind λr3=>if r3.1=true then if decide (a0.1=8)=true then if decide (a0.1>=10)=true then if decide (a0.1>=10)=true then some (true,())else some (decide (a0.2.2.2.2.2.1=0),())else if decide (a0.1=9)=true then if decide (a0.1>=10)=true then some (true,())else some (decide (a0.2.2.2.2.2.1=0),())else if decide (a0.2.2.2.2.1=0)=true then if decide (a0.1>=10)=true then some (true,())else some (decide (a0.2.2.2.2.2.1=0),())else some (false,())else if decide ((a0.2.2.2.1.length:Int)=0)=true then if decide (a0.1>=10)=true then if decide (a0.1>=10)=true then some (true,())else some (decide (a0.2.2.2.2.2.1=0),())else if decide (a0.1=9)=true then if decide (a0.1>=10)=true then some (true,())else some (decide (a0.2.2.2.2.2.1=0),())else if decide (a0.2.2.2.2.1=0)=true then if decide (a0.1>=10)=true then some (true,())else some (decide (a0.2.2.2.2.2.1=0),())else some (false,())else some (false,())else if decide ((a0.2.2.1.length:Int)=0)=true then if decide (a0.1=8)=true then if decide (a0.1>=10)=true then if decide (a0.1>=10)=true then some (true,())else some (decide (a0.2.2.2.2.2.1=0),())else if decide (a0.1=9)=true then if decide (a0.1>=10)=true then some (true,())else some (decide (a0.2.2.2.2.2.1=0),())else if decide (a0.2.2.2.2.1=0)=true then if decide (a0.1>=10)=true then some (true,())else some (decide (a0.2.2.2.2.2.1=0),())else some (false,())else if decide ((a0.2.2.2.1.length:Int)=0)=true then if decide (a0.1>=10)=true then if decide (a0.1>=10)=true then some (true,())else some (decide (a0.2.2.2.2.2.1=0),())else if decide (a0.1=9)=true then if decide (a0.1>=10)=true then some (true,())else some (decide (a0.2.2.2.2.2.1=0),())else if decide (a0.2.2.2.2.1=0)=true then if decide (a0.1>=10)=true then some (true,())else some (decide (a0.2.2.2.2.2.1=0),())else some (false,())else some (false,())else some (false,())else some (false,())
def X8:Entry:=⟨34,[.val iL []],[.val .bool [] []],λn c=>Cs n c.1⟩
theorem akY[Fr][aI.LaidTab prog][aI.LaidErr prog][aS.bJ prog](n:Nat):bg prog n X8:=bX mixed bR func34 (by kernel_rfl) (hi:=⟨0,[],[],[],[(45,some 9,Kw),(47,some 18,FQ)],[],[],[],[]⟩) (aH (Qx n) (aH (K4 n) bT)) (by intro n c;kernel_rfl)
def KL(n:Nat)(a0:Int):Option (Bool×Unit):=(nJ n a0 0 9999).bind λr1=>some (r1.1,())
def X9:Entry:=⟨66,[.val (.int .i64) []],[.val .bool [] []],λn c=>KL n c.1⟩
theorem akZ[Fr][aI.LaidTab prog][aI.LaidErr prog][aS.bJ prog](n:Nat):bg prog n X9:=bX mixed bR func66 (by kernel_rfl) (hi:=ajy) (aH (pW n) bT) (by intro n c;kernel_rfl)
def KG(n:Nat)(a0:aa):Option (Bool×Unit):=if decide (a0.1=2)=true then if decide (a0.2.1=1)=true then some (true,())else if decide (a0.2.1=2)=true then some (true,())else if decide (a0.2.1=4)=true then some (true,())else some (decide (a0.2.1=8),())else if decide (a0.1=3)=true then if decide (a0.1=3)=true then(KL n a0.2.1).bind λr1=>some (r1.1,())else if decide (a0.1=5)=true then(nJ n a0.2.1 0 400).bind λr2=>some (r2.1,())else some (true,())else if decide (a0.1=4)=true then(KL n a0.2.1).bind λr3=>some (r3.1,())else if decide (a0.1=5)=true then(nJ n a0.2.1 0 400).bind λr4=>some (r4.1,())else some (true,())
def X_:Entry:=⟨35,[.val iL []],[.val .bool [] []],λn c=>KG n c.1⟩
theorem ak0[Fr][aI.LaidTab prog][aI.LaidErr prog][aS.bJ prog](n:Nat):bg prog n X_:=bX mixed bR func35 (by kernel_rfl) (hi:=⟨0,[],[],[],[(66,some 30,X9),(33,some 35,oU)],[],[],[],[]⟩) (aH (akZ n) (aH (pW n) bT)) (by intro n c;kernel_rfl)
def Ql(n:Nat)(a0:List Int):Option (Int×Unit):=some ((a0.length:Int),())
def Ya:Entry:=⟨67,[.val (.sl 2 (.int .i64)) []],[.val (.int .i64) [] []],λn c=>Ql n c.1⟩
theorem ak1[Fr][aI.LaidTab prog][aI.LaidErr prog][aS.bJ prog](n:Nat):bg prog n Ya:=bX mixed bR func67 (by kernel_rfl) (hi:=akG) bT (by intro n c;kernel_rfl)
def FR(n:Nat)(a0:Int):Option (Bool×Unit):=(FW n a0).bind λr1=>if(!r1.1)=true then some (true,())else if decide (a0<33)=true then some (true,())else some (decide (a0=127),())
def Yb:Entry:=⟨69,[.val (.int .i64) []],[.val .bool [] []],λn c=>FR n c.1⟩
theorem ak2[Fr][aI.LaidTab prog][aI.LaidErr prog][aS.bJ prog](n:Nat):bg prog n Yb:=bX mixed bR func69 (by kernel_rfl) (hi:=⟨0,[],[],[],[(70,some 4,PX)],[],[],[],[]⟩) (aH (Y2 n) bT) (by intro n c;kernel_rfl)
def Qp(n:Nat)(a0:List Int):Option (Int×Unit):=rounds (λL1 (v1:(List Int)×aB)=>if decide (v1.2.2.1<v1.2.1)=true then if aZ v1.2.2.1 v1.1.length then(FR n (v1.1.getD v1.2.2.1.toNat 0)).bind λr2=>if r2.1=true then some (v1.2.2.1,())else L1 (v1.1,v1.2.1,i64.wrap (v1.2.2.1+1),())else none else some ((-1),())) n (a0,(a0.length:Int),0,())
def Yc:Entry:=⟨101,[.val (.sl 2 (.int .i64)) [],.fn 69 []],[.val (.int .i64) [] []],λn c=>Qp n c.1⟩
theorem ak3[Fr][aI.LaidTab prog][aI.LaidErr prog][aS.bJ prog](n:Nat):bg prog n Yc:=bX mixed bR func101 (by kernel_rfl) (hi:=⟨0,[],[(0,[0,1,7,8],[])],[],[(69,some 16,Yb)],[],[],[],[]⟩) (aH (ak2 n) bT) (by intro n c;kernel_rfl)
def KN(n:Nat)(a0:List Int):Option (Bool×Unit):=(Qp n a0).bind λr1=>some (decide (r1.1>=0),())
def Yd:Entry:=⟨68,[.val (.sl 2 (.int .i64)) [],.fn 69 []],[.val .bool [] []],λn c=>KN n c.1⟩
theorem ak4[Fr][aI.LaidTab prog][aI.LaidErr prog][aS.bJ prog](n:Nat):bg prog n Yd:=bX mixed bR func68 (by kernel_rfl) (hi:=⟨0,[],[],[],[(101,some 7,Yc)],[],[],[],[]⟩) (aH (ak3 n) bT) (by intro n c;kernel_rfl)
def KF(n:Nat)(a0:aa):Option (Bool×Unit):=(xU n a0.1).bind λr1=>if(!r1.1)=true then some (true,())else(Ql n a0.2.2.1).bind λr2=>(nJ n r2.1 1 20).bind λr3=>if r3.1=true then(KN n a0.2.2.1).bind λr4=>some (!r4.1,())else some (false,())
def Ye:Entry:=⟨36,[.val iL []],[.val .bool [] []],λn c=>KF n c.1⟩
theorem ak5[Fr][aI.LaidTab prog][aI.LaidErr prog][aS.bJ prog](n:Nat):bg prog n Ye:=bX mixed bR func36 (by kernel_rfl) (hi:=⟨0,[],[],[],[(47,some 5,FQ),(67,some 9,Ya),(33,some 10,oU),(68,some 14,Yd)],[],[],[],[]⟩) (aH (K4 n) (aH (ak1 n) (aH (pW n) (aH (ak4 n) bT)))) (by intro n c;kernel_rfl)
def rY(n:Nat)(a0:List aa):Option (Int×Unit):=(kI n a0).bind λr1=>(nJ n r1.1 1 12).bind λr2=>if(!r2.1)=true then some (2,())else rounds (λL3 (v3:(List aa)×(List aa)×Int×CS)=>if decide (v3.2.2.2.1<v3.2.2.1)=true then if aZ v3.2.2.2.1 v3.2.1.length then(nJ n ((v3.2.1.getD v3.2.2.2.1.toNat aA).1) 1 11).bind λr4=>if(!r4.1)=true then some (1,())else(Cs n (v3.2.1.getD v3.2.2.2.1.toNat aA)).bind λr5=>if(!r5.1)=true then some (1,())else(KG n (v3.2.1.getD v3.2.2.2.1.toNat aA)).bind λr6=>if(!r6.1)=true then some (3,())else(KF n (v3.2.1.getD v3.2.2.2.1.toNat aA)).bind λr7=>if(!r7.1)=true then some (3,())else if decide (((v3.2.1.getD v3.2.2.2.1.toNat aA).1)=8)=true then(Cq n (((((v3.2.1.getD v3.2.2.2.1.toNat aA).2).2).2).1)).bind λr8=>if(!decide (r8.1=0))=true then some (r8.1,())else if decide (((v3.2.1.getD v3.2.2.2.1.toNat aA).1)=9)=true then if decide (v3.2.2.2.1=0)=true then some (1,())else if(!decide (((((((v3.2.1.getD v3.2.2.2.1.toNat aA).2).2).2).2).1)=(i64.wrap (v3.2.2.2.1-1))))=true then some (1,())else if aZ (i64.wrap (v3.2.2.2.1-1)) v3.2.2.2.2.1.length then if(v3.2.2.2.2.1.length+[i64.wrap ((1:Int)+(v3.2.2.2.2.1.getD (i64.wrap (v3.2.2.2.1-1)).toNat 0))].length)*8<=140737488355328 then L3 (v3.1,v3.2.1,v3.2.2.1,i64.wrap (v3.2.2.2.1+1),v3.2.2.2.2.1++[i64.wrap ((1:Int)+(v3.2.2.2.2.1.getD (i64.wrap (v3.2.2.2.1-1)).toNat 0))],())else none else none else if decide (((v3.2.1.getD v3.2.2.2.1.toNat aA).1)>9)=true then if decide (v3.2.2.2.1<2)=true then some (1,())else if(!decide ((((((((v3.2.1.getD v3.2.2.2.1.toNat aA).2).2).2).2).2).1)=(i64.wrap (v3.2.2.2.1-1))))=true then some (1,())else if decide (((((((v3.2.1.getD v3.2.2.2.1.toNat aA).2).2).2).2).1)<0)=true then some (1,())else if aZ (i64.wrap (v3.2.2.2.1-1)) v3.2.2.2.2.1.length then if(!decide (((((((v3.2.1.getD v3.2.2.2.1.toNat aA).2).2).2).2).1)=(i64.wrap ((i64.wrap (v3.2.2.2.1-1))-(v3.2.2.2.2.1.getD (i64.wrap (v3.2.2.2.1-1)).toNat 0)))))=true then some (1,())else if aZ (i64.wrap (v3.2.2.2.1-1)) v3.2.2.2.2.1.length then if aZ ((((((v3.2.1.getD v3.2.2.2.1.toNat aA).2).2).2).2).1) v3.2.2.2.2.1.length then if(v3.2.2.2.2.1.length+[i64.wrap ((1:Int)+(i64.wrap ((v3.2.2.2.2.1.getD (i64.wrap (v3.2.2.2.1-1)).toNat 0)+(v3.2.2.2.2.1.getD ((((((v3.2.1.getD v3.2.2.2.1.toNat aA).2).2).2).2).1).toNat 0))))].length)*8<=140737488355328 then L3 (v3.1,v3.2.1,v3.2.2.1,i64.wrap (v3.2.2.2.1+1),v3.2.2.2.2.1++[i64.wrap ((1:Int)+(i64.wrap ((v3.2.2.2.2.1.getD (i64.wrap (v3.2.2.2.1-1)).toNat 0)+(v3.2.2.2.2.1.getD ((((((v3.2.1.getD v3.2.2.2.1.toNat aA).2).2).2).2).1).toNat 0))))],())else none else none else none else none else if(v3.2.2.2.2.1.length+[(1:Int)].length)*8<=140737488355328 then L3 (v3.1,v3.2.1,v3.2.2.1,i64.wrap (v3.2.2.2.1+1),v3.2.2.2.2.1++[(1:Int)],())else none else if decide (((v3.2.1.getD v3.2.2.2.1.toNat aA).1)=9)=true then if decide (v3.2.2.2.1=0)=true then some (1,())else if(!decide (((((((v3.2.1.getD v3.2.2.2.1.toNat aA).2).2).2).2).1)=(i64.wrap (v3.2.2.2.1-1))))=true then some (1,())else if aZ (i64.wrap (v3.2.2.2.1-1)) v3.2.2.2.2.1.length then if(v3.2.2.2.2.1.length+[i64.wrap ((1:Int)+(v3.2.2.2.2.1.getD (i64.wrap (v3.2.2.2.1-1)).toNat 0))].length)*8<=140737488355328 then L3 (v3.1,v3.2.1,v3.2.2.1,i64.wrap (v3.2.2.2.1+1),v3.2.2.2.2.1++[i64.wrap ((1:Int)+(v3.2.2.2.2.1.getD (i64.wrap (v3.2.2.2.1-1)).toNat 0))],())else none else none else if decide (((v3.2.1.getD v3.2.2.2.1.toNat aA).1)>9)=true then if decide (v3.2.2.2.1<2)=true then some (1,())else if(!decide ((((((((v3.2.1.getD v3.2.2.2.1.toNat aA).2).2).2).2).2).1)=(i64.wrap (v3.2.2.2.1-1))))=true then some (1,())else if decide (((((((v3.2.1.getD v3.2.2.2.1.toNat aA).2).2).2).2).1)<0)=true then some (1,())else if aZ (i64.wrap (v3.2.2.2.1-1)) v3.2.2.2.2.1.length then if(!decide (((((((v3.2.1.getD v3.2.2.2.1.toNat aA).2).2).2).2).1)=(i64.wrap ((i64.wrap (v3.2.2.2.1-1))-(v3.2.2.2.2.1.getD (i64.wrap (v3.2.2.2.1-1)).toNat 0)))))=true then some (1,())else if aZ (i64.wrap (v3.2.2.2.1-1)) v3.2.2.2.2.1.length then if aZ ((((((v3.2.1.getD v3.2.2.2.1.toNat aA).2).2).2).2).1) v3.2.2.2.2.1.length then if(v3.2.2.2.2.1.length+[i64.wrap ((1:Int)+(i64.wrap ((v3.2.2.2.2.1.getD (i64.wrap (v3.2.2.2.1-1)).toNat 0)+(v3.2.2.2.2.1.getD ((((((v3.2.1.getD v3.2.2.2.1.toNat aA).2).2).2).2).1).toNat 0))))].length)*8<=140737488355328 then L3 (v3.1,v3.2.1,v3.2.2.1,i64.wrap (v3.2.2.2.1+1),v3.2.2.2.2.1++[i64.wrap ((1:Int)+(i64.wrap ((v3.2.2.2.2.1.getD (i64.wrap (v3.2.2.2.1-1)).toNat 0)+(v3.2.2.2.2.1.getD ((((((v3.2.1.getD v3.2.2.2.1.toNat aA).2).2).2).2).1).toNat 0))))],())else none else none else none else none else if(v3.2.2.2.2.1.length+[(1:Int)].length)*8<=140737488355328 then L3 (v3.1,v3.2.1,v3.2.2.1,i64.wrap (v3.2.2.2.1+1),v3.2.2.2.2.1++[(1:Int)],())else none else none else if aZ (i64.wrap ((v3.1.length:Int)-1)) v3.2.2.2.2.1.length then(kI n v3.1).bind λr9=>if(!decide ((v3.2.2.2.2.1.getD (i64.wrap ((v3.1.length:Int)-1)).toNat 0)=r9.1))=true then some (1,())else some (0,())else none) n (a0,a0,(a0.length:Int),0,([]:List Int),())
def Kz:Entry:=⟨15,[.val (.sl 51 iL) []],[.val (.int .i64) [] []],λn c=>rY n c.1⟩
theorem QA[Fr][aI.LaidTab prog][aI.LaidErr prog][aS.bJ prog](n:Nat):bg prog n Kz:=bX mixed bR func15 (by kernel_rfl) (hi:=⟨0,[],[(0,[0,3,14,15,16],[418])],[],[(22,some 10,Ck),(33,some 11,oU),(33,some 25,oU),(34,some 29,X8),(35,some 34,X_),(36,some 38,Ye),(37,some 46,P5),(22,some 126,Ck)],[],[],[],[]⟩) (aH (Gg n) (aH (pW n) (aH (pW n) (aH (akY n) (aH (ak0 n) (aH (ak5 n) (aH (Y5 n) (aH (Gg n) bT)))))))) (by intro n c;kernel_rfl)
def KJ(n:Nat)(a0:Int)(a1:List Int):Option mE:=rounds (λL1 (v1:Int×(List Int)×Int×CS)=>if decide (v1.2.2.2.1<v1.2.2.1)=true then if aZ v1.2.2.2.1 v1.2.1.length then(FT n v1.1 (v1.2.1.getD v1.2.2.2.1.toNat 0)).bind λr2=>if(v1.2.2.2.2.1.length+r2.1.length)*1<=140737488355328 then L1 (v1.1,v1.2.1,v1.2.2.1,i64.wrap (v1.2.2.2.1+1),v1.2.2.2.2.1++r2.1,())else none else none else some (v1.2.2.2.2.1,())) n (a0,a1,(a1.length:Int),0,([]:List Int),())
def Yf:Entry:=⟨52,[.val (.int .i64) [],.val (.sl 2 (.int .i64)) []],[.own (.sl 5 (.int .u8)) [5] [] []],λn c=>KJ n c.1 c.2.1⟩
theorem ak6[Fr][aI.LaidTab prog][aI.LaidErr prog][aS.bJ prog](n:Nat):bg prog n Yf:=bX mixed bR func52 (by kernel_rfl) (hi:=⟨0,[],[(0,[0,5,9,10,11],[258])],[],[(88,some 18,PY)],[],[],[],[]⟩) (aH (Y3 n) bT) (by intro n c;kernel_rfl)
def ug:Nat->(List aa)->Int->Option mE
 |0,_,_=>none
 |n+1,a0,a1=>(if aZ a1 a0.length then(if aZ (i64.wrap (((a0.getD a1.toNat aA).1)-1)) [[97,108,108],[102,108,97,103],[115,105,110,99,101],[98,101,102,111,114,101],[108,97,114,103,101,114],[115,117,98,106,101,99,116],[98,111,100,121],[117,105,100],[110,111,116],[97,110,100],[111,114]].length then(if decide (((a0.getD a1.toNat aA).1)=2)=true then((Ct n (((a0.getD a1.toNat aA).2).1)).bind λr1=>(if [32].length+r1.1.length<=9223372036854775807 then(if([[97,108,108],[102,108,97,103],[115,105,110,99,101],[98,101,102,111,114,101],[108,97,114,103,101,114],[115,117,98,106,101,99,116],[98,111,100,121],[117,105,100],[110,111,116],[97,110,100],[111,114]].getD (i64.wrap (((a0.getD a1.toNat aA).1)-1)).toNat ([]:List Int)).length+([32]++r1.1).length<=9223372036854775807 then some (([[97,108,108],[102,108,97,103],[115,105,110,99,101],[98,101,102,111,114,101],[108,97,114,103,101,114],[115,117,98,106,101,99,116],[98,111,100,121],[117,105,100],[110,111,116],[97,110,100],[111,114]].getD (i64.wrap (((a0.getD a1.toNat aA).1)-1)).toNat ([]:List Int))++([32]++r1.1),())else none)else none))else((Cu n ((a0.getD a1.toNat aA).1)).bind λr2=>(if r2.1=true then((KI n (((a0.getD a1.toNat aA).2).1)).bind λr3=>(if [32].length+r3.1.length<=9223372036854775807 then(if([[97,108,108],[102,108,97,103],[115,105,110,99,101],[98,101,102,111,114,101],[108,97,114,103,101,114],[115,117,98,106,101,99,116],[98,111,100,121],[117,105,100],[110,111,116],[97,110,100],[111,114]].getD (i64.wrap (((a0.getD a1.toNat aA).1)-1)).toNat ([]:List Int)).length+([32]++r3.1).length<=9223372036854775807 then some (([[97,108,108],[102,108,97,103],[115,105,110,99,101],[98,101,102,111,114,101],[108,97,114,103,101,114],[115,117,98,106,101,99,116],[98,111,100,121],[117,105,100],[110,111,116],[97,110,100],[111,114]].getD (i64.wrap (((a0.getD a1.toNat aA).1)-1)).toNat ([]:List Int))++([32]++r3.1),())else none)else none))else((xU n ((a0.getD a1.toNat aA).1)).bind λr4=>(if r4.1=true then((KJ n 4 ((((a0.getD a1.toNat aA).2).2).1)).bind λr5=>(if [32].length+r5.1.length<=9223372036854775807 then(if([[97,108,108],[102,108,97,103],[115,105,110,99,101],[98,101,102,111,114,101],[108,97,114,103,101,114],[115,117,98,106,101,99,116],[98,111,100,121],[117,105,100],[110,111,116],[97,110,100],[111,114]].getD (i64.wrap (((a0.getD a1.toNat aA).1)-1)).toNat ([]:List Int)).length+([32]++r5.1).length<=9223372036854775807 then some (([[97,108,108],[102,108,97,103],[115,105,110,99,101],[98,101,102,111,114,101],[108,97,114,103,101,114],[115,117,98,106,101,99,116],[98,111,100,121],[117,105,100],[110,111,116],[97,110,100],[111,114]].getD (i64.wrap (((a0.getD a1.toNat aA).1)-1)).toNat ([]:List Int))++([32]++r5.1),())else none)else none))else(if decide (((a0.getD a1.toNat aA).1)=8)=true then((Cv n (((((a0.getD a1.toNat aA).2).2).2).1)).bind λr6=>(if [32].length+r6.1.length<=9223372036854775807 then(if([[97,108,108],[102,108,97,103],[115,105,110,99,101],[98,101,102,111,114,101],[108,97,114,103,101,114],[115,117,98,106,101,99,116],[98,111,100,121],[117,105,100],[110,111,116],[97,110,100],[111,114]].getD (i64.wrap (((a0.getD a1.toNat aA).1)-1)).toNat ([]:List Int)).length+([32]++r6.1).length<=9223372036854775807 then some (([[97,108,108],[102,108,97,103],[115,105,110,99,101],[98,101,102,111,114,101],[108,97,114,103,101,114],[115,117,98,106,101,99,116],[98,111,100,121],[117,105,100],[110,111,116],[97,110,100],[111,114]].getD (i64.wrap (((a0.getD a1.toNat aA).1)-1)).toNat ([]:List Int))++([32]++r6.1),())else none)else none))else(if decide (((a0.getD a1.toNat aA).1)=9)=true then((ug n a0 ((((((a0.getD a1.toNat aA).2).2).2).2).1)).bind λr7=>(if [32].length+r7.1.length<=9223372036854775807 then(if([[97,108,108],[102,108,97,103],[115,105,110,99,101],[98,101,102,111,114,101],[108,97,114,103,101,114],[115,117,98,106,101,99,116],[98,111,100,121],[117,105,100],[110,111,116],[97,110,100],[111,114]].getD (i64.wrap (((a0.getD a1.toNat aA).1)-1)).toNat ([]:List Int)).length+([32]++r7.1).length<=9223372036854775807 then some (([[97,108,108],[102,108,97,103],[115,105,110,99,101],[98,101,102,111,114,101],[108,97,114,103,101,114],[115,117,98,106,101,99,116],[98,111,100,121],[117,105,100],[110,111,116],[97,110,100],[111,114]].getD (i64.wrap (((a0.getD a1.toNat aA).1)-1)).toNat ([]:List Int))++([32]++r7.1),())else none)else none))else(if decide (((a0.getD a1.toNat aA).1)>9)=true then((ug n a0 ((((((a0.getD a1.toNat aA).2).2).2).2).1)).bind λr8=>(if [32].length+r8.1.length<=9223372036854775807 then(if([32]++r8.1).length+[32].length<=9223372036854775807 then((ug n a0 (((((((a0.getD a1.toNat aA).2).2).2).2).2).1)).bind λr9=>(if(([32]++r8.1)++[32]).length+r9.1.length<=9223372036854775807 then(if([[97,108,108],[102,108,97,103],[115,105,110,99,101],[98,101,102,111,114,101],[108,97,114,103,101,114],[115,117,98,106,101,99,116],[98,111,100,121],[117,105,100],[110,111,116],[97,110,100],[111,114]].getD (i64.wrap (((a0.getD a1.toNat aA).1)-1)).toNat ([]:List Int)).length+((([32]++r8.1)++[32])++r9.1).length<=9223372036854775807 then some (([[97,108,108],[102,108,97,103],[115,105,110,99,101],[98,101,102,111,114,101],[108,97,114,103,101,114],[115,117,98,106,101,99,116],[98,111,100,121],[117,105,100],[110,111,116],[97,110,100],[111,114]].getD (i64.wrap (((a0.getD a1.toNat aA).1)-1)).toNat ([]:List Int))++((([32]++r8.1)++[32])++r9.1),())else none)else none))else none)else none))else some ([[97,108,108],[102,108,97,103],[115,105,110,99,101],[98,101,102,111,114,101],[108,97,114,103,101,114],[115,117,98,106,101,99,116],[98,111,100,121],[117,105,100],[110,111,116],[97,110,100],[111,114]].getD (i64.wrap (((a0.getD a1.toNat aA).1)-1)).toNat ([]:List Int),())))))))))else none)else none)
def O3:List aM:=[.val (.sl 51 iL) [],.val (.int .i64) []]
def ah_:List gJ:=[.val .str [] []]
def xS:Entry:=⟨21,O3,ah_,λn (c:Cont (kin O3))=>ug n c.1 c.2.1⟩
def YP:Hint:=⟨0,[],[],[],[(50,some 24,PV),(45,some 30,Kw),(51,some 34,P6),(47,some 40,FQ),(52,some 44,Yf),(53,some 55,P8),(21,some 66,xS),(21,some 77,xS),(21,some 83,xS)],[],[],[],[]⟩
theorem ajd:∀n (c:Cont (kin O3)),sJ T YP Tryz.f21 O3 ah_ n c=xS.F (n+1) c:=by intro n c;kernel_rfl
theorem Gh[Fr][aI.LaidTab prog][aI.LaidErr prog][aS.bJ prog]:∀(n:Nat),bg prog n xS
 |0=>Cf λc=>rfl
 |n+1=>BR mixed bR (E:=xS) func21 (by kernel_rfl) (hi:=YP) (aH (Y0 n) (aH (Qx n) (aH (Y6 n) (aH (K4 n) (aH (ak6 n) (aH (Y8 n) (aH (Gh n) (aH (Gh n) (aH (Gh n) bT))))))))) (ajd n)
def tZ(n:Nat)(a0:List Int):Option (QZ×Unit):=(CB n a0 [32] 49).bind λr1=>(wL n (r1.1,([]:List aa),false,())).bind λr2=>if r2.2.1.2.2.1=true then some ((5,([]:List aa),()),())else if decide ((r2.2.1.1.length:Int)>0)=true then some ((5,([]:List aa),()),())else(rY n r2.2.1.2.1).bind λr3=>if(!decide (r3.1=0))=true then some ((5,([]:List aa),()),())else(kI n r2.2.1.2.1).bind λr4=>(ug n r2.2.1.2.1 (i64.wrap (r4.1-1))).bind λr5=>if(!decide (r5.1=a0))=true then some ((5,([]:List aa),()),())else some ((0,r2.2.1.2.1,()),())
def P_:Entry:=⟨6,[.val .str []],[.own Ls [2,51,96] [] []],λn c=>tZ n c.1⟩
theorem Y_[Fr][aI.LaidTab prog][aI.LaidErr prog][aS.bJ prog](n:Nat):bg prog n P_:=bX mixed bR func6 (by kernel_rfl) (hi:=⟨0,[51],[],[],[(19,some 6,PT),(20,some 11,zM),(15,some 29,Kz),(22,some 41,Ck),(21,some 43,xS)],[],[],[],[]⟩) (aH (YY n) (aH (K5 n) (aH (QA n) (aH (Gg n) (aH (Gh n) bT))))) (by intro n c;kernel_rfl)
def zR(n:Nat)(a0:List Int)(a1:Int):Option ((List (List Int))×Unit):=rounds (λL1 (v1:(List Int)×Int×Int×Int×(List (List Int))×Unit)=>if decide (v1.2.2.2.1<=(v1.1.length:Int))=true then if decide (v1.2.2.2.1=(v1.1.length:Int))=true then if 0<=v1.2.2.1/\v1.2.2.1<=v1.2.2.2.1/\v1.2.2.2.1<=(v1.1.length:Int)then if(v1.2.2.2.2.1.length+[(v1.1.take v1.2.2.2.1.toNat).drop v1.2.2.1.toNat].length)*16<=140737488355328 then L1 (v1.1,v1.2.1,i64.wrap (v1.2.2.2.1+1),i64.wrap (v1.2.2.2.1+1),v1.2.2.2.2.1++[(v1.1.take v1.2.2.2.1.toNat).drop v1.2.2.1.toNat],())else none else none else if aZ v1.2.2.2.1 v1.1.length then if decide ((v1.1.getD v1.2.2.2.1.toNat 0)=v1.2.1)=true then if 0<=v1.2.2.1/\v1.2.2.1<=v1.2.2.2.1/\v1.2.2.2.1<=(v1.1.length:Int)then if(v1.2.2.2.2.1.length+[(v1.1.take v1.2.2.2.1.toNat).drop v1.2.2.1.toNat].length)*16<=140737488355328 then L1 (v1.1,v1.2.1,i64.wrap (v1.2.2.2.1+1),i64.wrap (v1.2.2.2.1+1),v1.2.2.2.2.1++[(v1.1.take v1.2.2.2.1.toNat).drop v1.2.2.1.toNat],())else none else none else L1 (v1.1,v1.2.1,v1.2.2.1,i64.wrap (v1.2.2.2.1+1),v1.2.2.2.2.1,())else none else some (v1.2.2.2.2.1,())) n (a0,a1,0,0,([]:List (List Int)),())
def KA:Entry:=⟨18,[.val .str [],.val (.int .u8) []],[.own (.sl 9 .str) [9] [] []],λn c=>zR n c.1 c.2.1⟩
theorem QB[Fr][aI.LaidTab prog][aI.LaidErr prog][aS.bJ prog](n:Nat):bg prog n KA:=bX mixed bR func18 (by kernel_rfl) (hi:=⟨0,[],[(0,[0,1,5,6,7],[258])],[],[],[],[],[],[]⟩) bT (by intro n c;kernel_rfl)
def kN(n:Nat)(a0:uy):Option ((List Int)×uy×Unit):=if decide (a0.2.1>=(a0.1.length:Int))=true then some (([]:List Int),(a0.1,a0.2.1,a0.2.2.1,true,a0.2.2.2.2),())else if aZ (i64.wrap ((i64.wrap (a0.2.1+1))-1)) a0.1.length then some (a0.1.getD (i64.wrap ((i64.wrap (a0.2.1+1))-1)).toNat ([]:List Int),(a0.1,i64.wrap (a0.2.1+1),a0.2.2),())else none
def Cn:Entry:=⟨75,[.rw Gv [2,51,96] [4294967295] []],[.val .str [] []],λn c=>kN n c.1⟩
theorem Gi[Fr][aI.LaidTab prog][aI.LaidErr prog][aS.bJ prog](n:Nat):bg prog n Cn:=bX mixed bR func75 (by kernel_rfl) (hi:=akG) bT (by intro n c;kernel_rfl)
def KT(n:Nat)(a0:List Int):Option (Int×Unit):=rounds (λL1 (v1:au)=>if decide (v1.2.1<=11)=true then(F8 n v1.2.1).bind λr2=>if decide (r2.1=v1.1)=true then some (v1.2.1,())else L1 (v1.1,i64.wrap (v1.2.1+1),())else some (0,())) n (a0,1,())
def Yg:Entry:=⟨74,[.val .str []],[.val (.int .i64) [] []],λn c=>KT n c.1⟩
theorem ak7[Fr][aI.LaidTab prog][aI.LaidErr prog][aS.bJ prog](n:Nat):bg prog n Yg:=bX mixed bR func74 (by kernel_rfl) (hi:=⟨0,[],[(0,[0,3],[])],[],[(60,some 9,Qc)],[],[],[],[]⟩) (aH (Zc n) bT) (by intro n c;kernel_rfl)
def KR(n:Nat)(a0:List Int):Option (aB×Unit):=rounds (λL1 (v1:(List Int)×Int×aB×Unit)=>if decide (v1.2.1<16)=true then(zY n v1.2.1).bind λr2=>if decide (r2.1=v1.1)=true then some ((0,v1.2.1,()),())else L1 (v1.1,i64.wrap (v1.2.1+1),v1.2.2.1,())else some ((5,0,()),())) n (a0,0,fJ,())
def Yh:Entry:=⟨102,[.val .str []],[.val nO [] []],λn c=>KR n c.1⟩
theorem ak8[Fr][aI.LaidTab prog][aI.LaidErr prog][aS.bJ prog](n:Nat):bg prog n Yh:=bX mixed bR func102 (by kernel_rfl) (hi:=⟨0,[],[(0,[0,2,3],[66])],[],[(93,some 9,Qg)],[],[],[],[]⟩) (aH (Zg n) bT) (by intro n c;kernel_rfl)
def zV(n:Nat)(a0:List Int):Option (Int×Unit):=if decide ((a0.length:Int)<1)=true then some ((-1),())else if decide ((a0.length:Int)>4)=true then some ((-1),())else if decide ((a0.length:Int)>1)=true then if aZ 0 a0.length then if decide ((a0.getD (0:Int).toNat 0)=48)=true then some ((-1),())else rounds (λL1 (v1:(List Int)×aB)=>if decide (v1.2.2.1<(v1.1.length:Int))=true then if aZ v1.2.2.1 v1.1.length then if decide ((v1.1.getD v1.2.2.1.toNat 0)<48)=true then some ((-1),())else if aZ v1.2.2.1 v1.1.length then if decide ((v1.1.getD v1.2.2.1.toNat 0)>57)=true then some ((-1),())else if aZ v1.2.2.1 v1.1.length then L1 (v1.1,i64.wrap ((i64.wrap (v1.2.1*10))+(i64.wrap (u8.wrap ((v1.1.getD v1.2.2.1.toNat 0)-48)))),i64.wrap (v1.2.2.1+1),())else none else none else none else some (v1.2.1,())) n (a0,0,0,())else none else rounds (λL2 (v2:(List Int)×aB)=>if decide (v2.2.2.1<(v2.1.length:Int))=true then if aZ v2.2.2.1 v2.1.length then if decide ((v2.1.getD v2.2.2.1.toNat 0)<48)=true then some ((-1),())else if aZ v2.2.2.1 v2.1.length then if decide ((v2.1.getD v2.2.2.1.toNat 0)>57)=true then some ((-1),())else if aZ v2.2.2.1 v2.1.length then L2 (v2.1,i64.wrap ((i64.wrap (v2.2.1*10))+(i64.wrap (u8.wrap ((v2.1.getD v2.2.2.1.toNat 0)-48)))),i64.wrap (v2.2.2.1+1),())else none else none else none else some (v2.2.1,())) n (a0,0,0,())
def Qa:Entry:=⟨103,[.val .str []],[.val (.int .i64) [] []],λn c=>zV n c.1⟩
theorem Za[Fr][aI.LaidTab prog][aI.LaidErr prog][aS.bJ prog](n:Nat):bg prog n Qa:=bX mixed bR func103 (by kernel_rfl) (hi:=⟨0,[],[(0,[0,3,4],[])],[],[],[],[],[],[]⟩) bT (by intro n c;kernel_rfl)
def zX(n:Nat)(a0:List Int)(a1:Int):Option (Int×Unit):=if decide (a1>=(a0.length:Int))=true then some ((-1),())else if aZ a1 a0.length then if decide ((a0.getD a1.toNat 0)<128)=true then some ((-1),())else if aZ a1 a0.length then if decide ((a0.getD a1.toNat 0)>191)=true then some ((-1),())else if aZ a1 a0.length then some (i64.wrap ((i64.wrap (a0.getD a1.toNat 0))-128),())else none else none else none
def Qb:Entry:=⟨162,[.val (.sl 5 (.int .u8)) [],.val (.int .i64) []],[.val (.int .i64) [] []],λn c=>zX n c.1 c.2.1⟩
theorem Zb[Fr][aI.LaidTab prog][aI.LaidErr prog][aS.bJ prog](n:Nat):bg prog n Qb:=bX mixed bR func162 (by kernel_rfl) (hi:=akG) bT (by intro n c;kernel_rfl)
def xX(n:Nat)(a0:Int):Option (Bool×Unit):=(lS n a0 0 55295).bind λr1=>if r1.1=true then some (true,())else(lS n a0 57344 65535).bind λr2=>some (r2.1,())
def KC:Entry:=⟨125,[.val (.int .i64) []],[.val .bool [] []],λn c=>xX n c.1⟩
theorem QC[Fr][aI.LaidTab prog][aI.LaidErr prog][aS.bJ prog](n:Nat):bg prog n KC:=bX mixed bR func125 (by kernel_rfl) (hi:=⟨0,[],[],[],[(97,some 4,pU),(97,some 7,pU)],[],[],[],[]⟩) (aH (qF n) (aH (qF n) bT)) (by intro n c;kernel_rfl)
def KW(n:Nat)(a0:List Int)(a1:Int):Option aB:=if aZ a1 a0.length then if decide ((i64.wrap (a0.getD a1.toNat 0))<128)=true then some (i64.wrap (a0.getD a1.toNat 0),1,())else(zX n a0 (i64.wrap (a1+1))).bind λr1=>if decide ((i64.wrap (a0.getD a1.toNat 0))>=194)=true then if decide ((i64.wrap (a0.getD a1.toNat 0))<224)=true then if decide (r1.1>=0)=true then some (i64.wrap ((i64.wrap ((i64.wrap ((i64.wrap (a0.getD a1.toNat 0))-192))*64))+r1.1),2,())else(zX n a0 (i64.wrap (a1+2))).bind λr2=>if decide ((i64.wrap (a0.getD a1.toNat 0))>=224)=true then if decide ((i64.wrap (a0.getD a1.toNat 0))<240)=true then if decide (r1.1>=0)=true then if decide (r2.1>=0)=true then if decide ((i64.wrap ((i64.wrap ((i64.wrap ((i64.wrap ((i64.wrap (a0.getD a1.toNat 0))-224))*4096))+(i64.wrap (r1.1*64))))+r2.1))>=2048)=true then(xX n (i64.wrap ((i64.wrap ((i64.wrap ((i64.wrap ((i64.wrap (a0.getD a1.toNat 0))-224))*4096))+(i64.wrap (r1.1*64))))+r2.1))).bind λr3=>if r3.1=true then some (i64.wrap ((i64.wrap ((i64.wrap ((i64.wrap ((i64.wrap (a0.getD a1.toNat 0))-224))*4096))+(i64.wrap (r1.1*64))))+r2.1),3,())else some fJ else some fJ else some fJ else some fJ else some fJ else some fJ else(zX n a0 (i64.wrap (a1+2))).bind λr4=>if decide ((i64.wrap (a0.getD a1.toNat 0))>=224)=true then if decide ((i64.wrap (a0.getD a1.toNat 0))<240)=true then if decide (r1.1>=0)=true then if decide (r4.1>=0)=true then if decide ((i64.wrap ((i64.wrap ((i64.wrap ((i64.wrap ((i64.wrap (a0.getD a1.toNat 0))-224))*4096))+(i64.wrap (r1.1*64))))+r4.1))>=2048)=true then(xX n (i64.wrap ((i64.wrap ((i64.wrap ((i64.wrap ((i64.wrap (a0.getD a1.toNat 0))-224))*4096))+(i64.wrap (r1.1*64))))+r4.1))).bind λr5=>if r5.1=true then some (i64.wrap ((i64.wrap ((i64.wrap ((i64.wrap ((i64.wrap (a0.getD a1.toNat 0))-224))*4096))+(i64.wrap (r1.1*64))))+r4.1),3,())else some fJ else some fJ else some fJ else some fJ else some fJ else some fJ else(zX n a0 (i64.wrap (a1+2))).bind λr6=>if decide ((i64.wrap (a0.getD a1.toNat 0))>=224)=true then if decide ((i64.wrap (a0.getD a1.toNat 0))<240)=true then if decide (r1.1>=0)=true then if decide (r6.1>=0)=true then if decide ((i64.wrap ((i64.wrap ((i64.wrap ((i64.wrap ((i64.wrap (a0.getD a1.toNat 0))-224))*4096))+(i64.wrap (r1.1*64))))+r6.1))>=2048)=true then(xX n (i64.wrap ((i64.wrap ((i64.wrap ((i64.wrap ((i64.wrap (a0.getD a1.toNat 0))-224))*4096))+(i64.wrap (r1.1*64))))+r6.1))).bind λr7=>if r7.1=true then some (i64.wrap ((i64.wrap ((i64.wrap ((i64.wrap ((i64.wrap (a0.getD a1.toNat 0))-224))*4096))+(i64.wrap (r1.1*64))))+r6.1),3,())else some fJ else some fJ else some fJ else some fJ else some fJ else some fJ else none
def Yi:Entry:=⟨146,[.val (.sl 5 (.int .u8)) [],.val (.int .i64) []],[.val (.int .i64) [] [],.val (.int .i64) [] []],λn c=>KW n c.1 c.2.1⟩
theorem ak9[Fr][aI.LaidTab prog][aI.LaidErr prog][aS.bJ prog](n:Nat):bg prog n Yi:=bX mixed bR func146 (by kernel_rfl) (hi:=⟨0,[],[],[],[(162,some 21,Qb),(162,some 40,Qb),(125,some 67,KC)],[],[],[],[]⟩) (aH (Zb n) (aH (Zb n) (aH (QC n) bT))) (by intro n c;kernel_rfl)
def YI(n:Nat)(a0:Int)(a1:Int):Option (Int×Unit):=if decide (a0=3)=true then if decide (a1=253)=true then some (167,())else if decide (a0=3)=true then if decide (a1=240)=true then some (8470,())else if decide (a0=3)=true then if decide (a1>160)=true then if(!decide (a1=173))=true then(mo n a0 (i64.wrap (a1+864))).bind λr1=>if(!r1.1)=true then some ((-1),())else some (i64.wrap (a1+864),())else(mo n a0 a1).bind λr2=>if(!r2.1)=true then some ((-1),())else some (a1,())else(mo n a0 a1).bind λr3=>if(!r3.1)=true then some ((-1),())else some (a1,())else(mo n a0 a1).bind λr4=>if(!r4.1)=true then some ((-1),())else some (a1,())else if decide (a0=3)=true then if decide (a1>160)=true then if(!decide (a1=173))=true then(mo n a0 (i64.wrap (a1+864))).bind λr5=>if(!r5.1)=true then some ((-1),())else some (i64.wrap (a1+864),())else(mo n a0 a1).bind λr6=>if(!r6.1)=true then some ((-1),())else some (a1,())else(mo n a0 a1).bind λr7=>if(!r7.1)=true then some ((-1),())else some (a1,())else(mo n a0 a1).bind λr8=>if(!r8.1)=true then some ((-1),())else some (a1,())else if decide (a0=3)=true then if decide (a1=240)=true then some (8470,())else if decide (a0=3)=true then if decide (a1>160)=true then if(!decide (a1=173))=true then(mo n a0 (i64.wrap (a1+864))).bind λr9=>if(!r9.1)=true then some ((-1),())else some (i64.wrap (a1+864),())else(mo n a0 a1).bind λjG=>if(!jG.1)=true then some ((-1),())else some (a1,())else(mo n a0 a1).bind λiC=>if(!iC.1)=true then some ((-1),())else some (a1,())else(mo n a0 a1).bind λjH=>if(!jH.1)=true then some ((-1),())else some (a1,())else if decide (a0=3)=true then if decide (a1>160)=true then if(!decide (a1=173))=true then(mo n a0 (i64.wrap (a1+864))).bind λjK=>if(!jK.1)=true then some ((-1),())else some (i64.wrap (a1+864),())else(mo n a0 a1).bind λqV=>if(!qV.1)=true then some ((-1),())else some (a1,())else(mo n a0 a1).bind λiD=>if(!iD.1)=true then some ((-1),())else some (a1,())else(mo n a0 a1).bind λr16=>if(!r16.1)=true then some ((-1),())else some (a1,())
def Yj:Entry:=⟨147,[.val (.int .i64) [],.val (.int .i64) []],[.val (.int .i64) [] []],λn c=>YI n c.1 c.2.1⟩
theorem ak_[Fr][aI.LaidTab prog][aI.LaidErr prog][aS.bJ prog](n:Nat):bg prog n Yj:=bX mixed bR func147 (by kernel_rfl) (hi:=⟨0,[],[],[],[(122,some 31,PR)],[],[],[],[]⟩) (aH (YW n) bT) (by intro n c;kernel_rfl)
def Ga(n:Nat)(a0:Int)(a1:List Int)(a2:Int):Option aB:=if decide (a0=4)=true then(KW n a1 a2).bind λr1=>some (r1.1,r1.2.1,())else if decide (a0=5)=true then if decide ((i64.wrap (a2+1))>=(a1.length:Int))=true then some fJ else if aZ a2 a1.length then if aZ (i64.wrap (a2+1)) a1.length then(xX n (i64.wrap ((i64.wrap ((i64.wrap (a1.getD a2.toNat 0))*256))+(i64.wrap (a1.getD (i64.wrap (a2+1)).toNat 0))))).bind λr2=>if(!r2.1)=true then some fJ else some (i64.wrap ((i64.wrap ((i64.wrap (a1.getD a2.toNat 0))*256))+(i64.wrap (a1.getD (i64.wrap (a2+1)).toNat 0))),2,())else none else none else if aZ a2 a1.length then(YI n a0 (i64.wrap (a1.getD a2.toNat 0))).bind λr3=>if decide (r3.1<0)=true then some fJ else some (r3.1,1,())else none
def Yk:Entry:=⟨126,[.val (.int .i64) [],.val (.sl 5 (.int .u8)) [],.val (.int .i64) []],[.val (.int .i64) [] [],.val (.int .i64) [] []],λn c=>Ga n c.1 c.2.1 c.2.2.1⟩
theorem ala[Fr][aI.LaidTab prog][aI.LaidErr prog][aS.bJ prog](n:Nat):bg prog n Yk:=bX mixed bR func126 (by kernel_rfl) (hi:=⟨0,[],[],[],[(146,some 14,Yi),(125,some 38,KC),(147,some 47,Yj)],[],[],[],[]⟩) (aH (ak9 n) (aH (QC n) (aH (ak_ n) bT))) (by intro n c;kernel_rfl)
def xY(n:Nat)(a0:Int)(a1:List Int):Option ((List Int)×Bool×Unit):=rounds (λL1 (v1:Int×(List Int)×CS)=>if decide (v1.2.2.1<(v1.2.1.length:Int))=true then(Ga n v1.1 v1.2.1 v1.2.2.1).bind λr2=>if decide (r2.2.1=0)=true then some (([]:List Int),false,())else if(v1.2.2.2.1.length+[r2.1].length)*8<=140737488355328 then L1 (v1.1,v1.2.1,i64.wrap (v1.2.2.1+r2.2.1),v1.2.2.2.1++[r2.1],())else none else some (v1.2.2.2.1,true,())) n (a0,a1,0,([]:List Int),())
def Yl:Entry:=⟨104,[.val (.int .i64) [],.val (.sl 5 (.int .u8)) []],[.own (.sl 2 (.int .i64)) [2] [] [],.val .bool [] []],λn c=>xY n c.1 c.2.1⟩
theorem alb[Fr][aI.LaidTab prog][aI.LaidErr prog][aS.bJ prog](n:Nat):bg prog n Yl:=bX mixed bR func104 (by kernel_rfl) (hi:=⟨0,[],[(0,[0,1,6,7],[322])],[],[(126,some 19,Yk)],[],[],[],[]⟩) (aH (ala n) bT) (by intro n c;kernel_rfl)
def zS(n:Nat)(a0:List Int):Option (Int×Unit):=if decide (a0=[42])=true then some (0,())else(zV n a0).bind λr1=>(lS n r1.1 1 999).bind λr2=>if(!r2.1)=true then some ((-1),())else some (r1.1,())
def Qd:Entry:=⟨127,[.val .str []],[.val (.int .i64) [] []],λn c=>zS n c.1⟩
theorem Zd[Fr][aI.LaidTab prog][aI.LaidErr prog][aS.bJ prog](n:Nat):bg prog n Qd:=bX mixed bR func127 (by kernel_rfl) (hi:=⟨0,[],[],[],[(103,some 7,Qa),(97,some 9,pU)],[],[],[],[]⟩) (aH (Za n) (aH (qF n) bT)) (by intro n c;kernel_rfl)
def wM(n:Nat)(a0:List Int):Option ((List aB)×Bool×Unit):=(zR n a0 44).bind λr1=>rounds (λL2 (v2:Int×(List aB)×(List (List Int))×Unit)=>if decide (v2.1<(v2.2.2.1.length:Int))=true then if aZ v2.1 v2.2.2.1.length then(zR n (v2.2.2.1.getD v2.1.toNat ([]:List Int)) 58).bind λr3=>if aZ 0 r3.1.length then(zS n (r3.1.getD (0:Int).toNat ([]:List Int))).bind λr4=>if aZ (i64.wrap ((r3.1.length:Int)-1)) r3.1.length then(zS n (r3.1.getD (i64.wrap ((r3.1.length:Int)-1)).toNat ([]:List Int))).bind λr5=>if decide ((r3.1.length:Int)>2)=true then some (([]:List aB),false,())else if decide (r4.1<0)=true then some (([]:List aB),false,())else if decide (r5.1<0)=true then some (([]:List aB),false,())else if decide ((r3.1.length:Int)=2)=true then if decide (r4.1=r5.1)=true then some (([]:List aB),false,())else if(v2.2.1.length+[(r4.1,r5.1,())].length)*16<=140737488355328 then L2 (i64.wrap (v2.1+1),v2.2.1++[(r4.1,r5.1,())],v2.2.2.1,())else none else if(v2.2.1.length+[(r4.1,r5.1,())].length)*16<=140737488355328 then L2 (i64.wrap (v2.1+1),v2.2.1++[(r4.1,r5.1,())],v2.2.2.1,())else none else none else none else none else some (v2.2.1,decide ((v2.2.1.length:Int)<=8),())) n (0,([]:List aB),r1.1,())
def Ym:Entry:=⟨105,[.val .str []],[.own (.sl 96 nO) [96] [] [],.val .bool [] []],λn c=>wM n c.1⟩
theorem alc[Fr][aI.LaidTab prog][aI.LaidErr prog][aS.bJ prog](n:Nat):bg prog n Ym:=bX mixed bR func105 (by kernel_rfl) (hi:=⟨0,[],[(0,[4,5,6],[290,354])],[],[(18,some 11,KA),(18,some 22,KA),(127,some 26,Qd),(127,some 33,Qd)],[],[],[],[]⟩) (aH (QB n) (aH (QB n) (aH (Zd n) (aH (Zd n) bT)))) (by intro n c;kernel_rfl)
def uh(n:Nat)(a0:uy)(a1:aa):Option (uy×aa×Unit):=if decide (a1.1=2)=true then(kN n a0).bind λr1=>(KR n r1.1).bind λr2=>some (r1.2.1,(a1.1,r2.1.2.1,a1.2.2),())else if decide (a1.1=3)=true then if decide (a1.1=3)=true then(kN n a0).bind λr3=>(zV n r3.1).bind λr4=>some (r3.2.1,(a1.1,r4.1,a1.2.2),())else if decide (a1.1=6)=true then if decide (a1.1=6)=true then(kN n a0).bind λr5=>(xY n 4 r5.1).bind λr6=>if r5.2.1.2.2.2.1=true then some ((r5.2.1.1,r5.2.1.2.1,r5.2.1.2.2.1,true,r5.2.1.2.2.2.2),(a1.1,a1.2.1,r6.1,a1.2.2.2),())else some ((r5.2.1.1,r5.2.1.2.1,r5.2.1.2.2.1,!r6.2.1,r5.2.1.2.2.2.2),(a1.1,a1.2.1,r6.1,a1.2.2.2),())else if decide (a1.1=8)=true then(kN n a0).bind λr7=>(wM n r7.1).bind λr8=>if r7.2.1.2.2.2.1=true then some ((r7.2.1.1,r7.2.1.2.1,r7.2.1.2.2.1,true,r7.2.1.2.2.2.2),(a1.1,a1.2.1,a1.2.2.1,r8.1,a1.2.2.2.2),())else some ((r7.2.1.1,r7.2.1.2.1,r7.2.1.2.2.1,!r8.2.1,r7.2.1.2.2.2.2),(a1.1,a1.2.1,a1.2.2.1,r8.1,a1.2.2.2.2),())else some (a0,a1,())else if decide (a1.1=7)=true then(kN n a0).bind λr9=>(xY n 4 r9.1).bind λjG=>if r9.2.1.2.2.2.1=true then some ((r9.2.1.1,r9.2.1.2.1,r9.2.1.2.2.1,true,r9.2.1.2.2.2.2),(a1.1,a1.2.1,jG.1,a1.2.2.2),())else some ((r9.2.1.1,r9.2.1.2.1,r9.2.1.2.2.1,!jG.2.1,r9.2.1.2.2.2.2),(a1.1,a1.2.1,jG.1,a1.2.2.2),())else if decide (a1.1=8)=true then(kN n a0).bind λiC=>(wM n iC.1).bind λjH=>if iC.2.1.2.2.2.1=true then some ((iC.2.1.1,iC.2.1.2.1,iC.2.1.2.2.1,true,iC.2.1.2.2.2.2),(a1.1,a1.2.1,a1.2.2.1,jH.1,a1.2.2.2.2),())else some ((iC.2.1.1,iC.2.1.2.1,iC.2.1.2.2.1,!jH.2.1,iC.2.1.2.2.2.2),(a1.1,a1.2.1,a1.2.2.1,jH.1,a1.2.2.2.2),())else some (a0,a1,())else if decide (a1.1=4)=true then if decide (a1.1=4)=true then(kN n a0).bind λjK=>(zV n jK.1).bind λqV=>some (jK.2.1,(a1.1,qV.1,a1.2.2),())else if decide (a1.1=6)=true then if decide (a1.1=6)=true then(kN n a0).bind λiD=>(xY n 4 iD.1).bind λr16=>if iD.2.1.2.2.2.1=true then some ((iD.2.1.1,iD.2.1.2.1,iD.2.1.2.2.1,true,iD.2.1.2.2.2.2),(a1.1,a1.2.1,r16.1,a1.2.2.2),())else some ((iD.2.1.1,iD.2.1.2.1,iD.2.1.2.2.1,!r16.2.1,iD.2.1.2.2.2.2),(a1.1,a1.2.1,r16.1,a1.2.2.2),())else if decide (a1.1=8)=true then(kN n a0).bind λnC=>(wM n nC.1).bind λuV=>if nC.2.1.2.2.2.1=true then some ((nC.2.1.1,nC.2.1.2.1,nC.2.1.2.2.1,true,nC.2.1.2.2.2.2),(a1.1,a1.2.1,a1.2.2.1,uV.1,a1.2.2.2.2),())else some ((nC.2.1.1,nC.2.1.2.1,nC.2.1.2.2.1,!uV.2.1,nC.2.1.2.2.2.2),(a1.1,a1.2.1,a1.2.2.1,uV.1,a1.2.2.2.2),())else some (a0,a1,())else if decide (a1.1=7)=true then(kN n a0).bind λqo=>(xY n 4 qo.1).bind λl_=>if qo.2.1.2.2.2.1=true then some ((qo.2.1.1,qo.2.1.2.1,qo.2.1.2.2.1,true,qo.2.1.2.2.2.2),(a1.1,a1.2.1,l_.1,a1.2.2.2),())else some ((qo.2.1.1,qo.2.1.2.1,qo.2.1.2.2.1,!l_.2.1,qo.2.1.2.2.2.2),(a1.1,a1.2.1,l_.1,a1.2.2.2),())else if decide (a1.1=8)=true then(kN n a0).bind λmg=>(wM n mg.1).bind λJ6=>if mg.2.1.2.2.2.1=true then some ((mg.2.1.1,mg.2.1.2.1,mg.2.1.2.2.1,true,mg.2.1.2.2.2.2),(a1.1,a1.2.1,a1.2.2.1,J6.1,a1.2.2.2.2),())else some ((mg.2.1.1,mg.2.1.2.1,mg.2.1.2.2.1,!J6.2.1,mg.2.1.2.2.2.2),(a1.1,a1.2.1,a1.2.2.1,J6.1,a1.2.2.2.2),())else some (a0,a1,())else if decide (a1.1=5)=true then(kN n a0).bind λBQ=>(zV n BQ.1).bind λWM=>some (BQ.2.1,(a1.1,WM.1,a1.2.2),())else if decide (a1.1=6)=true then if decide (a1.1=6)=true then(kN n a0).bind λjL=>(xY n 4 jL.1).bind λxK=>if jL.2.1.2.2.2.1=true then some ((jL.2.1.1,jL.2.1.2.1,jL.2.1.2.2.1,true,jL.2.1.2.2.2.2),(a1.1,a1.2.1,xK.1,a1.2.2.2),())else some ((jL.2.1.1,jL.2.1.2.1,jL.2.1.2.2.1,!xK.2.1,jL.2.1.2.2.2.2),(a1.1,a1.2.1,xK.1,a1.2.2.2),())else if decide (a1.1=8)=true then(kN n a0).bind λtN=>(wM n tN.1).bind λuW=>if tN.2.1.2.2.2.1=true then some ((tN.2.1.1,tN.2.1.2.1,tN.2.1.2.2.1,true,tN.2.1.2.2.2.2),(a1.1,a1.2.1,a1.2.2.1,uW.1,a1.2.2.2.2),())else some ((tN.2.1.1,tN.2.1.2.1,tN.2.1.2.2.1,!uW.2.1,tN.2.1.2.2.2.2),(a1.1,a1.2.1,a1.2.2.1,uW.1,a1.2.2.2.2),())else some (a0,a1,())else if decide (a1.1=7)=true then(kN n a0).bind λjM=>(xY n 4 jM.1).bind λzy=>if jM.2.1.2.2.2.1=true then some ((jM.2.1.1,jM.2.1.2.1,jM.2.1.2.2.1,true,jM.2.1.2.2.2.2),(a1.1,a1.2.1,zy.1,a1.2.2.2),())else some ((jM.2.1.1,jM.2.1.2.1,jM.2.1.2.2.1,!zy.2.1,jM.2.1.2.2.2.2),(a1.1,a1.2.1,zy.1,a1.2.2.2),())else if decide (a1.1=8)=true then(kN n a0).bind λtO=>(wM n tO.1).bind λr32=>if tO.2.1.2.2.2.1=true then some ((tO.2.1.1,tO.2.1.2.1,tO.2.1.2.2.1,true,tO.2.1.2.2.2.2),(a1.1,a1.2.1,a1.2.2.1,r32.1,a1.2.2.2.2),())else some ((tO.2.1.1,tO.2.1.2.1,tO.2.1.2.2.1,!r32.2.1,tO.2.1.2.2.2.2),(a1.1,a1.2.1,a1.2.2.1,r32.1,a1.2.2.2.2),())else some (a0,a1,())
def Yn:Entry:=⟨77,[.rw Gv [2,51,96] [4294967295] [],.rw iL [2,96] [4294967295] [2,96]],[],λn c=>uh n c.1 c.2.1⟩
theorem ald[Fr][aI.LaidTab prog][aI.LaidErr prog][aS.bJ prog](n:Nat):bg prog n Yn:=bX mixed bR func77 (by kernel_rfl) (hi:=⟨0,[],[],[],[(75,some 16,Cn),(102,some 17,Yh),(75,some 27,Cn),(103,some 28,Qa),(75,some 36,Cn),(104,some 38,Yl),(75,some 60,Cn),(105,some 61,Ym)],[],[],[],[]⟩) (aH (Gi n) (aH (ak8 n) (aH (Gi n) (aH (Za n) (aH (Gi n) (aH (alb n) (aH (Gi n) (aH (alc n) bT)))))))) (by intro n c;kernel_rfl)
def xV:Nat->uy->Int->Option (Int×uy×Unit)
 |0,_,_=>none
 |n+1,a0,a1=>((kN n a0).bind λr1=>((KT n r1.1).bind λr2=>(if decide (r2.1=0)=true then some (0,(r1.2.1.1,r1.2.1.2.1,r1.2.1.2.2.1,true,r1.2.1.2.2.2.2),())else(if decide (a1>12)=true then some (0,(r1.2.1.1,r1.2.1.2.1,r1.2.1.2.2.1,true,r1.2.1.2.2.2.2),())else(if decide ((r1.2.1.2.2.1.length:Int)>12)=true then some (0,(r1.2.1.1,r1.2.1.2.1,r1.2.1.2.2.1,true,r1.2.1.2.2.2.2),())else(if r1.2.1.2.2.2.1=true then some (0,r1.2.1,())else(if decide (r2.1>=9)=true then((xV n r1.2.1 (i64.wrap (a1+1))).bind λr3=>((nK n r2.1).bind λr4=>(if r4.1=true then(if(!r3.2.1.2.2.2.1)=true then((xV n r3.2.1 (i64.wrap (a1+1))).bind λr5=>((uh n r5.2.1 (r2.1,0,([]:List Int),([]:List aB),r3.1,r5.1,())).bind λr6=>(if(r6.1.2.2.1.length+[r6.2.1].length)*80<=140737488355328 then some (i64.wrap (((r6.1.2.2.1++[r6.2.1]).length:Int)-1),(r6.1.1,r6.1.2.1,r6.1.2.2.1++[r6.2.1],r6.1.2.2.2),())else none)))else((uh n r3.2.1 (r2.1,0,([]:List Int),([]:List aB),r3.1,0,())).bind λr7=>(if(r7.1.2.2.1.length+[r7.2.1].length)*80<=140737488355328 then some (i64.wrap (((r7.1.2.2.1++[r7.2.1]).length:Int)-1),(r7.1.1,r7.1.2.1,r7.1.2.2.1++[r7.2.1],r7.1.2.2.2),())else none)))else((uh n r3.2.1 (r2.1,0,([]:List Int),([]:List aB),r3.1,0,())).bind λr8=>(if(r8.1.2.2.1.length+[r8.2.1].length)*80<=140737488355328 then some (i64.wrap (((r8.1.2.2.1++[r8.2.1]).length:Int)-1),(r8.1.1,r8.1.2.1,r8.1.2.2.1++[r8.2.1],r8.1.2.2.2),())else none)))))else((nK n r2.1).bind λr9=>(if r9.1=true then(if(!r1.2.1.2.2.2.1)=true then((xV n r1.2.1 (i64.wrap (a1+1))).bind λjG=>((uh n jG.2.1 (r2.1,0,([]:List Int),([]:List aB),0,jG.1,())).bind λiC=>(if(iC.1.2.2.1.length+[iC.2.1].length)*80<=140737488355328 then some (i64.wrap (((iC.1.2.2.1++[iC.2.1]).length:Int)-1),(iC.1.1,iC.1.2.1,iC.1.2.2.1++[iC.2.1],iC.1.2.2.2),())else none)))else((uh n r1.2.1 (r2.1,0,([]:List Int),([]:List aB),0,0,())).bind λjH=>(if(jH.1.2.2.1.length+[jH.2.1].length)*80<=140737488355328 then some (i64.wrap (((jH.1.2.2.1++[jH.2.1]).length:Int)-1),(jH.1.1,jH.1.2.1,jH.1.2.2.1++[jH.2.1],jH.1.2.2.2),())else none)))else((uh n r1.2.1 (r2.1,0,([]:List Int),([]:List aB),0,0,())).bind λjK=>(if(jK.1.2.2.1.length+[jK.2.1].length)*80<=140737488355328 then some (i64.wrap (((jK.1.2.2.1++[jK.2.1]).length:Int)-1),(jK.1.1,jK.1.2.1,jK.1.2.2.1++[jK.2.1],jK.1.2.2.2),())else none)))))))))))
def O4:List aM:=[.rw Gv [2,51,96] [2,51,96,4294967295] [2,9,51,96],.val (.int .i64) []]
def aia:List gJ:=[.val (.int .i64) [] []]
def Co:Entry:=⟨40,O4,aia,λn (c:Cont (kin O4))=>xV n c.1 c.2.1⟩
def YQ:Hint:=⟨0,[61,62],[],[],[(75,some 7,Cn),(74,some 8,Yg),(40,some 38,Co),(76,some 42,FP),(40,some 53,Co),(77,some 56,Yn)],[],[],[],[]⟩
theorem aje:∀n (c:Cont (kin O4)),sJ T YQ Tryz.f40 O4 aia n c=Co.F (n+1) c:=by intro n c;kernel_rfl
theorem QD[Fr][aI.LaidTab prog][aI.LaidErr prog][aS.bJ prog]:∀(n:Nat),bg prog n Co
 |0=>Cf λc=>rfl
 |n+1=>BR mixed bR (E:=Co) func40 (by kernel_rfl) (hi:=YQ) (aH (Gi n) (aH (ak7 n) (aH (QD n) (aH (K3 n) (aH (QD n) (aH (ald n) bT)))))) (aje n)
def F7(n:Nat)(a0:Int):Option (Bool×Unit):=if decide (a0=6)=true then some (true,())else some (decide (a0=7),())
def Yo:Entry:=⟨98,[.val (.int .i64) []],[.val .bool [] []],λn c=>F7 n c.1⟩
theorem ale[Fr][aI.LaidTab prog][aI.LaidErr prog][aS.bJ prog](n:Nat):bg prog n Yo:=bX mixed bR func98 (by kernel_rfl) (hi:=akG) bT (by intro n c;kernel_rfl)
def Cy(n:Nat)(a0:aa):Option (Bool×Unit):=(lS n a0.1 1 11).bind λr1=>if(!r1.1)=true then some (false,())else(lS n a0.1 2 5).bind λr2=>if(!r2.1)=true then if(!decide (a0.2.1=0))=true then some (false,())else(F7 n a0.1).bind λr3=>if(!r3.1)=true then if decide ((a0.2.2.1.length:Int)>0)=true then some (false,())else if(!decide (a0.1=8))=true then if decide ((a0.2.2.2.1.length:Int)>0)=true then some (false,())else(nK n a0.1).bind λr4=>if r4.1=true then if decide (a0.1>=9)=true then some (true,())else some (decide (a0.2.2.2.2.1=0),())else if decide (a0.2.2.2.2.2.1=0)=true then if decide (a0.1>=9)=true then some (true,())else some (decide (a0.2.2.2.2.1=0),())else some (false,())else(nK n a0.1).bind λr5=>if r5.1=true then if decide (a0.1>=9)=true then some (true,())else some (decide (a0.2.2.2.2.1=0),())else if decide (a0.2.2.2.2.2.1=0)=true then if decide (a0.1>=9)=true then some (true,())else some (decide (a0.2.2.2.2.1=0),())else some (false,())else if(!decide (a0.1=8))=true then if decide ((a0.2.2.2.1.length:Int)>0)=true then some (false,())else(nK n a0.1).bind λr6=>if r6.1=true then if decide (a0.1>=9)=true then some (true,())else some (decide (a0.2.2.2.2.1=0),())else if decide (a0.2.2.2.2.2.1=0)=true then if decide (a0.1>=9)=true then some (true,())else some (decide (a0.2.2.2.2.1=0),())else some (false,())else(nK n a0.1).bind λr7=>if r7.1=true then if decide (a0.1>=9)=true then some (true,())else some (decide (a0.2.2.2.2.1=0),())else if decide (a0.2.2.2.2.2.1=0)=true then if decide (a0.1>=9)=true then some (true,())else some (decide (a0.2.2.2.2.1=0),())else some (false,())else(F7 n a0.1).bind λr8=>if(!r8.1)=true then if decide ((a0.2.2.1.length:Int)>0)=true then some (false,())else if(!decide (a0.1=8))=true then if decide ((a0.2.2.2.1.length:Int)>0)=true then some (false,())else(nK n a0.1).bind λr9=>if r9.1=true then if decide (a0.1>=9)=true then some (true,())else some (decide (a0.2.2.2.2.1=0),())else if decide (a0.2.2.2.2.2.1=0)=true then if decide (a0.1>=9)=true then some (true,())else some (decide (a0.2.2.2.2.1=0),())else some (false,())else(nK n a0.1).bind λjG=>if jG.1=true then if decide (a0.1>=9)=true then some (true,())else some (decide (a0.2.2.2.2.1=0),())else if decide (a0.2.2.2.2.2.1=0)=true then if decide (a0.1>=9)=true then some (true,())else some (decide (a0.2.2.2.2.1=0),())else some (false,())else if(!decide (a0.1=8))=true then if decide ((a0.2.2.2.1.length:Int)>0)=true then some (false,())else(nK n a0.1).bind λiC=>if iC.1=true then if decide (a0.1>=9)=true then some (true,())else some (decide (a0.2.2.2.2.1=0),())else if decide (a0.2.2.2.2.2.1=0)=true then if decide (a0.1>=9)=true then some (true,())else some (decide (a0.2.2.2.2.1=0),())else some (false,())else(nK n a0.1).bind λjH=>if jH.1=true then if decide (a0.1>=9)=true then some (true,())else some (decide (a0.2.2.2.2.1=0),())else if decide (a0.2.2.2.2.2.1=0)=true then if decide (a0.1>=9)=true then some (true,())else some (decide (a0.2.2.2.2.1=0),())else some (false,())
def Yp:Entry:=⟨62,[.ro iL],[.val .bool [] []],λn c=>Cy n c.1⟩
theorem alf[Fr][aI.LaidTab prog][aI.LaidErr prog][aS.bJ prog](n:Nat):bg prog n Yp:=bX mixed bR func62 (by kernel_rfl) (hi:=⟨0,[],[],[],[(97,some 7,pU),(97,some 14,pU),(98,some 28,Yo),(76,some 57,FP)],[],[],[],[]⟩) (aH (qF n) (aH (qF n) (aH (ale n) (aH (K3 n) bT)))) (by intro n c;kernel_rfl)
def zW(n:Nat)(a0:List Int):Option (Bool×Unit):=rounds (λL1 (v1:au)=>if decide (v1.2.1<(v1.1.length:Int))=true then if aZ v1.2.1 v1.1.length then(xX n (v1.1.getD v1.2.1.toNat 0)).bind λr2=>if(!r2.1)=true then some (false,())else if aZ v1.2.1 v1.1.length then if decide ((v1.1.getD v1.2.1.toNat 0)<33)=true then some (false,())else if aZ v1.2.1 v1.1.length then if decide ((v1.1.getD v1.2.1.toNat 0)=127)=true then some (false,())else L1 (v1.1,i64.wrap (v1.2.1+1),())else none else none else none else(lS n (v1.1.length:Int) 1 20).bind λr3=>some (r3.1,())) n (a0,0,())
def Yq:Entry:=⟨99,[.val (.sl 2 (.int .i64)) []],[.val .bool [] []],λn c=>zW n c.1⟩
theorem alg[Fr][aI.LaidTab prog][aI.LaidErr prog][aS.bJ prog](n:Nat):bg prog n Yq:=bX mixed bR func99 (by kernel_rfl) (hi:=⟨0,[],[(0,[0,3],[])],[],[(125,some 14,KC),(97,some 32,pU)],[],[],[],[]⟩) (aH (QC n) (aH (qF n) bT)) (by intro n c;kernel_rfl)
def zT(n:Nat)(a0:List aB):Option (Int×Unit):=if decide ((a0.length:Int)<1)=true then some (2,())else if decide ((a0.length:Int)>8)=true then some (2,())else rounds (λL1 (v1:(List aB)×Int×Unit)=>if decide (v1.2.1<(v1.1.length:Int))=true then if aZ v1.2.1 v1.1.length then(lS n ((v1.1.getD v1.2.1.toNat fJ).1) 0 999).bind λr2=>if(!r2.1)=true then some (3,())else if aZ v1.2.1 v1.1.length then(lS n (((v1.1.getD v1.2.1.toNat fJ).2).1) 0 999).bind λr3=>if(!r3.1)=true then some (3,())else L1 (v1.1,i64.wrap (v1.2.1+1),())else none else none else some (0,())) n (a0,0,())
def Yt:Entry:=⟨100,[.val (.sl 96 nO) []],[.val (.int .i64) [] []],λn c=>zT n c.1⟩
theorem ali[Fr][aI.LaidTab prog][aI.LaidErr prog][aS.bJ prog](n:Nat):bg prog n Yt:=bX mixed bR func100 (by kernel_rfl) (hi:=⟨0,[],[(0,[0,3],[])],[],[(97,some 23,pU),(97,some 31,pU)],[],[],[],[]⟩) (aH (qF n) (aH (qF n) bT)) (by intro n c;kernel_rfl)
def KU(n:Nat)(a0:aa):Option (Int×Unit):=if decide (a0.1=2)=true then if decide (a0.2.1=1)=true then some (0,())else if decide (a0.2.1=2)=true then some (0,())else if decide (a0.2.1=4)=true then some (0,())else if(!(decide (a0.2.1=8)))=true then some (3,())else some (0,())else if decide (a0.1=3)=true then if decide (a0.1=3)=true then(lS n a0.2.1 0 9999).bind λr1=>if(!r1.1)=true then some (3,())else some (0,())else if decide (a0.1=5)=true then(lS n a0.2.1 0 400).bind λr2=>if(!r2.1)=true then some (3,())else some (0,())else if decide (a0.1=6)=true then if decide (a0.1=6)=true then(zW n a0.2.2.1).bind λr3=>if(!r3.1)=true then some (3,())else some (0,())else if decide (a0.1=8)=true then(zT n a0.2.2.2.1).bind λr4=>some (r4.1,())else some (0,())else if decide (a0.1=7)=true then(zW n a0.2.2.1).bind λr5=>if(!r5.1)=true then some (3,())else some (0,())else if decide (a0.1=8)=true then(zT n a0.2.2.2.1).bind λr6=>some (r6.1,())else some (0,())else if decide (a0.1=4)=true then(lS n a0.2.1 0 9999).bind λr7=>if(!r7.1)=true then some (3,())else some (0,())else if decide (a0.1=5)=true then(lS n a0.2.1 0 400).bind λr8=>if(!r8.1)=true then some (3,())else some (0,())else if decide (a0.1=6)=true then if decide (a0.1=6)=true then(zW n a0.2.2.1).bind λr9=>if(!r9.1)=true then some (3,())else some (0,())else if decide (a0.1=8)=true then(zT n a0.2.2.2.1).bind λjG=>some (jG.1,())else some (0,())else if decide (a0.1=7)=true then(zW n a0.2.2.1).bind λiC=>if(!iC.1)=true then some (3,())else some (0,())else if decide (a0.1=8)=true then(zT n a0.2.2.2.1).bind λjH=>some (jH.1,())else some (0,())
def Yu:Entry:=⟨63,[.ro iL],[.val (.int .i64) [] []],λn c=>KU n c.1⟩
theorem alj[Fr][aI.LaidTab prog][aI.LaidErr prog][aS.bJ prog](n:Nat):bg prog n Yu:=bX mixed bR func63 (by kernel_rfl) (hi:=⟨0,[],[],[],[(97,some 43,pU),(97,some 50,pU),(99,some 58,Yq),(100,some 65,Yt)],[],[],[],[]⟩) (aH (qF n) (aH (qF n) (aH (alg n) (aH (ali n) bT)))) (by intro n c;kernel_rfl)
def vo:Nat->(List aa)->Int->Option (Int×Unit)
 |0,_,_=>none
 |n+1,a0,a1=>(if aZ a1 a0.length then(if decide (((a0.getD a1.toNat aA).1)>=9)=true then(if aZ a1 a0.length then((vo n a0 ((((((a0.getD a1.toNat aA).2).2).2).2).1)).bind λr1=>some (r1.1,()))else none)else some (a1,()))else none)
def O5:List aM:=[.val (.sl 51 iL) [],.val (.int .i64) []]
def aib:List gJ:=[.val (.int .i64) [] []]
def zN:Entry:=⟨65,O5,aib,λn (c:Cont (kin O5))=>vo n c.1 c.2.1⟩
def YR:Hint:=⟨0,[],[],[],[(65,some 17,zN)],[],[],[],[]⟩
theorem ajf:∀n (c:Cont (kin O5)),sJ T YR Tryz.f65 O5 aib n c=zN.F (n+1) c:=by intro n c;kernel_rfl
theorem K6[Fr][aI.LaidTab prog][aI.LaidErr prog][aS.bJ prog]:∀(n:Nat),bg prog n zN
 |0=>Cf λc=>rfl
 |n+1=>BR mixed bR (E:=zN) func65 (by kernel_rfl) (hi:=YR) (aH (K6 n) bT) (ajf n)
def Cw(n:Nat)(a0:List aa)(a1:Int):Option (Bool×Unit):=if aZ a1 a0.length then if decide (((a0.getD a1.toNat aA).1)=9)=true then if decide (a1>0)=true then some (decide (((((((a0.getD a1.toNat aA).2).2).2).2).1)=(i64.wrap (a1-1))),())else some (false,())else(nK n ((a0.getD a1.toNat aA).1)).bind λr1=>if(!r1.1)=true then some (true,())else if decide (a1>1)=true then if decide ((((((((a0.getD a1.toNat aA).2).2).2).2).2).1)=(i64.wrap (a1-1)))=true then(vo n a0 (i64.wrap (a1-1))).bind λr2=>if decide (r2.1>0)=true then(vo n a0 (i64.wrap (a1-1))).bind λr3=>some (decide (((((((a0.getD a1.toNat aA).2).2).2).2).1)=(i64.wrap (r3.1-1))),())else some (false,())else some (false,())else some (false,())else none
def Yv:Entry:=⟨64,[.val (.sl 51 iL) [],.val (.int .i64) []],[.val .bool [] []],λn c=>Cw n c.1 c.2.1⟩
theorem alk[Fr][aI.LaidTab prog][aI.LaidErr prog][aS.bJ prog](n:Nat):bg prog n Yv:=bX mixed bR func64 (by kernel_rfl) (hi:=⟨0,[],[],[],[(76,some 29,FP),(65,some 46,zN),(65,some 57,zN)],[],[],[],[]⟩) (aH (K3 n) (aH (K6 n) (aH (K6 n) bT))) (by intro n c;kernel_rfl)
def vk(n:Nat)(a0:List aa):Option (Int×Unit):=if decide ((a0.length:Int)<1)=true then some (2,())else if decide ((a0.length:Int)>12)=true then some (2,())else rounds (λL1 (v1:(List aa)×Int×Unit)=>if decide (v1.2.1<(v1.1.length:Int))=true then if aZ v1.2.1 v1.1.length then(Cy n (v1.1.getD v1.2.1.toNat aA)).bind λr2=>if(!r2.1)=true then some (1,())else if aZ v1.2.1 v1.1.length then(KU n (v1.1.getD v1.2.1.toNat aA)).bind λr3=>if(!decide (r3.1=0))=true then some (r3.1,())else(Cw n v1.1 v1.2.1).bind λr4=>if(!r4.1)=true then some (1,())else L1 (v1.1,i64.wrap (v1.2.1+1),())else none else none else(vo n v1.1 (i64.wrap ((v1.1.length:Int)-1))).bind λr5=>if(!decide (r5.1=0))=true then some (1,())else some (0,())) n (a0,0,())
def Qe:Entry:=⟨32,[.val (.sl 51 iL) []],[.val (.int .i64) [] []],λn c=>vk n c.1⟩
theorem Ze[Fr][aI.LaidTab prog][aI.LaidErr prog][aS.bJ prog](n:Nat):bg prog n Qe:=bX mixed bR func32 (by kernel_rfl) (hi:=⟨0,[],[(0,[0,3],[])],[],[(62,some 22,Yp),(63,some 27,Yu),(64,some 33,Yv),(65,some 39,zN)],[],[],[],[]⟩) (aH (alf n) (aH (alj n) (aH (alk n) (aH (K6 n) bT)))) (by intro n c;kernel_rfl)
def Qq(n:Nat)(a0:List (List Int)):Option ((List aa)×Bool×Unit):=(xV n (a0,0,([]:List aa),false,()) 0).bind λr1=>if r1.2.1.2.2.2.1=true then some (([]:List aa),false,())else if(!decide (r1.2.1.2.1=(a0.length:Int)))=true then some (([]:List aa),false,())else(vk n r1.2.1.2.2.1).bind λr2=>if(!decide (r2.1=0))=true then some (([]:List aa),false,())else some (r1.2.1.2.2.1,true,())
def Yw:Entry:=⟨17,[.val (.sl 9 .str) []],[.own (.sl 51 iL) [2,51,96] [] [],.val .bool [] []],λn c=>Qq n c.1⟩
theorem alm[Fr][aI.LaidTab prog][aI.LaidErr prog][aS.bJ prog](n:Nat):bg prog n Yw:=bX mixed bR func17 (by kernel_rfl) (hi:=⟨0,[24],[],[],[(40,some 7,Co),(32,some 20,Qe)],[],[],[],[]⟩) (aH (QD n) (aH (Ze n) bT)) (by intro n c;kernel_rfl)
def zQ(n:Nat)(a0:List Int):Option (QZ×Unit):=(zR n a0 32).bind λr1=>(Qq n r1.1).bind λr2=>if(!r2.2.1)=true then some ((5,([]:List aa),()),())else some ((0,r2.1,()),())
def Yx:Entry:=⟨5,[.val .str []],[.own Ls [2,51,96] [] []],λn c=>zQ n c.1⟩
theorem aln[Fr][aI.LaidTab prog][aI.LaidErr prog][aS.bJ prog](n:Nat):bg prog n Yx:=bX mixed bR func5 (by kernel_rfl) (hi:=⟨0,[],[],[],[(18,some 7,KA),(17,some 8,Yw)],[],[],[],[]⟩) (aH (QB n) (aH (alm n) bT)) (by intro n c;kernel_rfl)
def wK(n:Nat)(a0:List aa):Option (CS×Unit):=(rY n a0).bind λr1=>if(!decide (r1.1=0))=true then some ((r1.1,([]:List Int),()),())else(kI n a0).bind λr2=>(ug n a0 (i64.wrap (r2.1-1))).bind λr3=>some ((0,r3.1,()),())
def Qf:Entry:=⟨12,[.val (.sl 51 iL) []],[.val Lr [] []],λn c=>wK n c.1⟩
theorem Zf[Fr][aI.LaidTab prog][aI.LaidErr prog][aS.bJ prog](n:Nat):bg prog n Qf:=bX mixed bR func12 (by kernel_rfl) (hi:=⟨0,[],[],[],[(15,some 5,Kz),(22,some 12,Ck),(21,some 14,xS)],[],[],[],[]⟩) (aH (QA n) (aH (Gg n) (aH (Gh n) bT))) (by intro n c;kernel_rfl)
def KS(n:Nat)(a0:au):Option ((List aa)×au×Unit):=(F6 n a0).bind λr1=>(iT n r1.2.1 (r1.1.length:Int)).bind λr2=>(iT n r2.2.1 12).bind λr3=>if decide (r3.1=0)=true then(mh n r3.2.1 [(0:Int),2,9,12]).bind λr4=>if aZ r2.1 r1.1.length then some ((xO r1.1 r2.1.toNat aA λz1=>(r4.1,z1.2)),r4.2.1,())else none else if decide (r3.1=1)=true then(mh n r3.2.1 [(3:Int),(-1),10000]).bind λr5=>if aZ r2.1 r1.1.length then some ((xO r1.1 r2.1.toNat aA λz1=>(z1.1,r5.1,z1.2.2)),r5.2.1,())else none else if decide (r3.1=2)=true then(mh n r3.2.1 [(0:Int),1,(-1)]).bind λr6=>if aZ r2.1 r1.1.length then some ((xO r1.1 r2.1.toNat aA λz1=>(z1.1,z1.2.1,z1.2.2.1,z1.2.2.2.1,r6.1,z1.2.2.2.2.2)),r6.2.1,())else none else if decide (r3.1=3)=true then(mh n r3.2.1 [(32:Int),127,97]).bind λr7=>if aZ r2.1 r1.1.length then some ((xO r1.1 r2.1.toNat aA λz1=>(z1.1,z1.2.1,[r7.1],z1.2.2.2)),r7.2.1,())else none else if decide (r3.1=4)=true then if(13:Int)=(13:Int)/\0<=(13:Int)/\(13:Int)*80<=140737488355328 then some (List.replicate (13:Int).toNat aA,r3.2.1,())else none else some (r1.1,r3.2.1,())
def Yy:Entry:=⟨31,[.rw wU [] [4294967295] []],[.own (.sl 51 iL) [2,51,96] [] []],λn c=>KS n c.1⟩
theorem alo[Fr][aI.LaidTab prog][aI.LaidErr prog][aS.bJ prog](n:Nat):bg prog n Yy:=bX mixed bR func31 (by kernel_rfl) (hi:=⟨0,[],[],[],[(27,some 6,P9),(29,some 10,pR),(29,some 12,pR),(30,some 19,tY),(30,some 28,tY),(30,some 37,tY),(30,some 46,tY)],[],[],[],[]⟩) (aH (Y9 n) (aH (qE n) (aH (qE n) (aH (vv n) (aH (vv n) (aH (vv n) (aH (vv n) bT))))))) (by intro n c;kernel_rfl)
def F3(n:Nat)(a0:List Int):Option ((List aa)×Unit):=(F9 n a0).bind λr1=>(KS n r1.1).bind λr2=>some (r2.1,())
def Yz:Entry:=⟨13,[.val (.sl 5 (.int .u8)) []],[.own (.sl 51 iL) [2,51,96] [] []],λn c=>F3 n c.1⟩
theorem alp[Fr][aI.LaidTab prog][aI.LaidErr prog][aS.bJ prog](n:Nat):bg prog n Yz:=bX mixed bR func13 (by kernel_rfl) (hi:=⟨0,[],[],[],[(26,some 4,PN),(31,some 5,Yy)],[],[],[],[]⟩) (aH (YU n) (aH (alo n) bT)) (by intro n c;kernel_rfl)
def F4(n:Nat)(a0:List aa):Option (CS×Unit):=(vk n a0).bind λr1=>if(!decide (r1.1=0))=true then some ((r1.1,([]:List Int),()),())else(qA n a0 (i64.wrap ((a0.length:Int)-1))).bind λr2=>some ((0,r2.1,()),())
def YA:Entry:=⟨14,[.val (.sl 51 iL) []],[.val Lr [] []],λn c=>F4 n c.1⟩
theorem alq[Fr][aI.LaidTab prog][aI.LaidErr prog][aS.bJ prog](n:Nat):bg prog n YA:=bX mixed bR func14 (by kernel_rfl) (hi:=⟨0,[],[],[],[(32,some 5,Qe),(28,some 14,wJ)],[],[],[],[]⟩) (aH (Ze n) (aH (Qw n) bT)) (by intro n c;kernel_rfl)
def KP(n:Nat)(a0:List Int)(a1:List Int):Option (Bool×Unit):=if(!decide ((a0.length:Int)=(a1.length:Int)))=true then some (false,())else rounds (λL1 (v1:(List Int)×(List Int)×aB)=>if decide (v1.2.2.2.1<v1.2.2.1)=true then if aZ v1.2.2.2.1 v1.1.length then if aZ v1.2.2.2.1 v1.2.1.length then if(!decide ((v1.1.getD v1.2.2.2.1.toNat 0)=(v1.2.1.getD v1.2.2.2.1.toNat 0)))=true then some (false,())else L1 (v1.1,v1.2.1,v1.2.2.1,i64.wrap (v1.2.2.2.1+1),())else none else none else some (true,())) n (a0,a1,(a0.length:Int),0,())
def YB:Entry:=⟨72,[.val (.sl 2 (.int .i64)) [],.val (.sl 2 (.int .i64)) []],[.val .bool [] []],λn c=>KP n c.1 c.2.1⟩
def akA:Hint:=⟨0,[],[(0,[0,1,12,13],[])],[],[],[],[],[],[]⟩
theorem alr[Fr][aI.LaidTab prog][aI.LaidErr prog][aS.bJ prog](n:Nat):bg prog n YB:=bX mixed bR func72 (by kernel_rfl) (hi:=akA) bT (by intro n c;kernel_rfl)
def KO(n:Nat)(a0:List aB)(a1:List aB):Option (Bool×Unit):=if(!decide ((a0.length:Int)=(a1.length:Int)))=true then some (false,())else rounds (λL1 (v1:(List aB)×(List aB)×aB)=>if decide (v1.2.2.2.1<v1.2.2.1)=true then if aZ v1.2.2.2.1 v1.1.length then if aZ v1.2.2.2.1 v1.2.1.length then if(!(decide (((v1.1.getD v1.2.2.2.1.toNat fJ).1)=((v1.2.1.getD v1.2.2.2.1.toNat fJ).1))&&decide ((((v1.1.getD v1.2.2.2.1.toNat fJ).2).1)=(((v1.2.1.getD v1.2.2.2.1.toNat fJ).2).1))))=true then some (false,())else L1 (v1.1,v1.2.1,v1.2.2.1,i64.wrap (v1.2.2.2.1+1),())else none else none else some (true,())) n (a0,a1,(a0.length:Int),0,())
def YC:Entry:=⟨73,[.val (.sl 96 nO) [],.val (.sl 96 nO) []],[.val .bool [] []],λn c=>KO n c.1 c.2.1⟩
theorem als[Fr][aI.LaidTab prog][aI.LaidErr prog][aS.bJ prog](n:Nat):bg prog n YC:=bX mixed bR func73 (by kernel_rfl) (hi:=akA) bT (by intro n c;kernel_rfl)
def FY(n:Nat)(a0:aa)(a1:aa):Option (Bool×Unit):=if decide (a0.1=a1.1)=true then if decide (a0.2.1=a1.2.1)=true then(KP n a0.2.2.1 a1.2.2.1).bind λr1=>if r1.1=true then(KO n a0.2.2.2.1 a1.2.2.2.1).bind λr2=>if r2.1=true then if decide (a0.2.2.2.2.1=a1.2.2.2.2.1)=true then some (decide (a0.2.2.2.2.2.1=a1.2.2.2.2.2.1),())else some (false,())else some (false,())else some (false,())else some (false,())else some (false,())
def YD:Entry:=⟨39,[.val iL [],.val iL []],[.val .bool [] []],λn c=>FY n c.1 c.2.1⟩
theorem alu[Fr][aI.LaidTab prog][aI.LaidErr prog][aS.bJ prog](n:Nat):bg prog n YD:=bX mixed bR func39 (by kernel_rfl) (hi:=⟨0,[],[],[],[(72,some 22,YB),(73,some 29,YC)],[],[],[],[]⟩) (aH (alr n) (aH (als n) bT)) (by intro n c;kernel_rfl)
def Qo(n:Nat)(a0:List aa)(a1:List aa):Option (Bool×Unit):=if(!decide ((a0.length:Int)=(a1.length:Int)))=true then some (false,())else rounds (λL1 (v1:(List aa)×(List aa)×aB)=>if decide (v1.2.2.2.1<v1.2.2.1)=true then if aZ v1.2.2.2.1 v1.2.1.length then if aZ v1.2.2.2.1 v1.1.length then(FY n (v1.2.1.getD v1.2.2.2.1.toNat aA) (v1.1.getD v1.2.2.2.1.toNat aA)).bind λr2=>if(!r2.1)=true then some (false,())else L1 (v1.1,v1.2.1,v1.2.2.1,i64.wrap (v1.2.2.2.1+1),())else none else none else some (true,())) n (a1,a0,(a0.length:Int),0,())
def YE:Entry:=⟨38,[.val (.sl 51 iL) [],.val (.sl 51 iL) [],.fn 39 []],[.val .bool [] []],λn c=>Qo n c.1 c.2.1⟩
theorem alv[Fr][aI.LaidTab prog][aI.LaidErr prog][aS.bJ prog](n:Nat):bg prog n YE:=bX mixed bR func38 (by kernel_rfl) (hi:=⟨0,[],[(0,[1,2,15,16,17],[])],[],[(39,some 29,YD)],[],[],[],[]⟩) (aH (alu n) bT) (by intro n c;kernel_rfl)
def Cr(n:Nat)(a0:List aa)(a1:List aa):Option (Bool×Unit):=(Qo n a0 a1).bind λr1=>some (r1.1,())
def YF:Entry:=⟨16,[.val (.sl 51 iL) [],.val (.sl 51 iL) []],[.val .bool [] []],λn c=>Cr n c.1 c.2.1⟩
theorem alx[Fr][aI.LaidTab prog][aI.LaidErr prog][aS.bJ prog](n:Nat):bg prog n YF:=bX mixed bR func16 (by kernel_rfl) (hi:=⟨0,[],[],[],[(38,some 7,YE)],[],[],[],[]⟩) (aH (alv n) bT) (by intro n c;kernel_rfl)
def Qm(n:Nat)(a0:List Int):Option (Bool×Unit):=(Qn n a0).bind λr1=>if r1.1=true then some (true,())else(KQ n a0).bind λr2=>(tZ n r2.1).bind λr3=>(zQ n r2.1).bind λr4=>if(!decide (r3.1.1=r4.1.1))=true then some (false,())else if decide (r3.1.1=0)=true then(wK n r3.1.2.1).bind λr5=>if(!decide (r5.1.2.1=r2.1))=true then some (false,())else(F3 n a0).bind λr6=>(wK n r6.1).bind λr7=>if(!decide (r7.1.1=0))=true then(F4 n r6.1).bind λr8=>if decide (r8.1.1=r7.1.1)=true then(rY n r6.1).bind λr9=>some (decide (r9.1=r7.1.1),())else some (false,())else(tZ n r7.1.2.1).bind λjG=>if decide (jG.1.1=0)=true then(Cr n jG.1.2.1 r6.1).bind λiC=>if iC.1=true then some (!decide (r7.1.2.1=([]:List Int)),())else some (false,())else some (false,())else(F3 n a0).bind λjH=>(wK n jH.1).bind λjK=>if(!decide (jK.1.1=0))=true then(F4 n jH.1).bind λqV=>if decide (qV.1.1=jK.1.1)=true then(rY n jH.1).bind λiD=>some (decide (iD.1=jK.1.1),())else some (false,())else(tZ n jK.1.2.1).bind λr16=>if decide (r16.1.1=0)=true then(Cr n r16.1.2.1 jH.1).bind λnC=>if nC.1=true then some (!decide (jK.1.2.1=([]:List Int)),())else some (false,())else some (false,())
def Fb:List aM:=[.val (.sl 5 (.int .u8)) []]
def axW:List gJ:=[.val .bool [] []]
def YG:Entry:=⟨4,Fb,axW,λn (c:Cont (kin Fb))=>Qm n c.1⟩
theorem aly[Fr][aI.LaidTab prog][aI.LaidErr prog][aS.bJ prog](n:Nat):bg prog n YG:=bX mixed bR func4 (by kernel_rfl) (hi:=⟨0,[],[],[],[(10,some 9,YH),(11,some 11,XT),(6,some 13,P_),(5,some 17,Yx),(12,some 27,Qf),(13,some 34,Yz),(12,some 36,Qf),(14,some 41,YA),(15,some 48,Kz),(6,some 55,P_),(16,some 63,YF)],[],[],[],[]⟩) (aH (alz n) (aH (akL n) (aH (Y_ n) (aH (aln n) (aH (Zf n) (aH (alp n) (aH (Zf n) (aH (alq n) (aH (QA n) (aH (Y_ n) (aH (alx n) bT))))))))))) (by intro n c;kernel_rfl)
end Go.Proofs.YtgppmpedglhhfaaGreatDoor.nL

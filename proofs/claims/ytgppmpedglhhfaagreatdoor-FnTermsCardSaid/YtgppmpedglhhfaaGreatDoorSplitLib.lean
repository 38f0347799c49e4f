/- strings.SplitN and strings.Cut, as functions that are known by their contracts. -/
import Derived.Test.YtgppmpedglhhfaaGreatDoorFieldsLib
import Derived.Shelf.Strings.Split
import Derived.Shelf.Strings.Cut
import Derived.Deep.Draws
import Derived.Conc.MuLone
set_option linter.unusedVariables false
set_option linter.unusedSimpArgs false
namespace Go.Proofs.YtgppmpedglhhfaaGreatDoor.aS
open Go Ow Go.RowKit r_
class bJ(P:Program)[Fr]:Prop where
 met:∃(W:World) (m:Int),(∀b,b<W.heap.size->Fr.free b/\hp W b=Fr.obj b)/\W.cell? ⟨0,0,none⟩=some (.int .i64 m)
section
variable [Fr]{P:Program}
theorem bJ.Ak[h:bJ P]{w:World}(hw:∀b,Fr.free b->hp w b=Fr.obj b):∃m,w.cell? ⟨0,0,none⟩=some (.int .i64 m):=by
 obtain⟨W,m,h1,h2⟩:=h.met
 refine⟨m,?_⟩
 rw[vN]at h2 ⊢
 have hlt:0<W.heap.size:=by
  unfold cellAt hp at h2
  cases hx:W.heap[0]? with
  |none=>rw[hx]at h2;simp at h2
  |some o=>exact(Array.getElem?_eq_some_iff.1 hx).1
 obtain⟨f1,f2⟩:=h1 0 hlt
 exact(yG ((hw 0 f1).trans f2.symm) 0).trans h2
theorem RJ{n:Nat}{f:FuncId}{ps:List aM}{t:TypeId}{k:K}{E:Nat->Cont (kin ps)->Option (Cont (iI [.val (.sl t k) [] []]++gM ps))}(hps:lH ps=true)(hk:k.flat=true)
  (h:∀c out,E n c=some out->∀(args:Array Value) (w:World),(∀b,Fr.free b->hp w b=Fr.obj b)->Gb ps c args.toList->ve P f args w λv w'=>qH w w'/\w'.tape=w.tape/\Zq w w' t k out.1 v) :
  bg P n ⟨f,ps,[.val (.sl t k) [] []],E⟩:=by
 intro c out hout cx J args w _ h0 hsz _ H
 have hA:=L8 (cx:=cx) (Z:=gD ps c) (J:=J) (F:=[]) (w:=w) (i:=0) (c:=c) (vs:=args.toList) hps (by simpa using hsz) (λj v hv=>by
  have:=H.slots j
  rw[rX]at hv
  rw[zL,hv]at this
  rw[jq]
  exact this)
 have hpost:∀v w',(qH w w'/\w'.tape=w.tape/\Zq w w' t k out.1 v)->Post cx ps [.val (.sl t k) [] []] out v w':=by
  rintro v w' ⟨h1,h2,h3⟩
  have H':=H.grown h1 h2
  rcases h3 with⟨p,rfl,hx⟩|⟨g,cap,cur,rfl,g1,g2,g3,g4,g5⟩
  ·refine⟨_,J,[],_,[_],[[]],H',rfl,⟨⟨rfl,[],[.slice p 0 0],.inr rfl,⟨rfl,by simp⟩,⟨p,0,0,rfl,?_,bZ _,λh=>absurd h (Nat.lt_irrefl 0)⟩⟩,trivial⟩,by simp,λb hb=>by simp at hb,G7 hps⟩
   have e:(show List (El k)from out.1)=[]:=hx
   show 0=(show List (El k)from out.1).length
   rw[e]
   rfl
  ·have hlt:g<w'.heap.size:=apW g2
   have hnew:∀{r R},aY (gD ps c) r R->g∉blk J R r:=λhr hb=>by
    have:=((H.roots _ _ hr).mine g hb).1
    omega
   refine⟨_,J,[],_,[_],[[]],H',rfl,⟨⟨rfl,[],[.slice (some ⟨g,0,none⟩) _ cap],.inr rfl,⟨rfl,by simp⟩,⟨_,_,cap,rfl,rfl,g3,λ_=>⟨g,0,rfl,⟨hlt,by simp,?_,λr R hr hb=>absurd hb (hnew hr),λhb=>?_⟩,.inl (by unfold iH;rw[g2]),λi hi=>?_⟩⟩⟩,trivial⟩,by simp,λb hb=>by simp at hb,G7 hps⟩
   ·rintro⟨j,pi,o,m,a1,a2⟩
    obtain⟨Q,hQ,hk',hl,_⟩:=H.kG j pi g o m a1 a2
    refine hnew hQ ?_
    unfold blk aL
    rw[hk',hl]
    simp
   ·have:=H.frame.2.2.2.1
    omega
   ·obtain⟨ds,d1,d2⟩:=g5 i hi
    exact⟨ds,by rw[jq];exact d1,lC hk d2⟩
 rcases h c out hout args w (λb hb=>H.fixed hb) hA with⟨h1,h2⟩|⟨v,w',h1,h2⟩
 ·refine .inl ⟨h1,h2.mono ?_⟩
  rintro e w' ⟨v,rfl,hv⟩
  exact⟨v,rfl,hpost v w' hv⟩
 ·exact .inr ⟨v,w',h1,hpost v w' h2⟩
end
def iK(s sep:List Int)(n:Nat):List (List Int):=(Lib.splitB (iM sep) 0 (min n (s.length+1)-1) (iM s)).map bytesOf
def Fy(s sep:List Int)(n:Int):Option (List (List Int)×Unit):=if s.length<=1048576/\1<=sep.length/\1<=n/\n<=1048576 then some (iK s sep n.toNat,())else none
theorem aiu(sep:ByteArray)(hsep:1<=sep.size):∀(k:Nat) (s:ByteArray),(Lib.splitB sep 0 k s).length<=k+1
 |0,_=>by simp[Lib.splitB]
 |k+1,s=>by
  unfold Lib.splitB
  split
  ·simp
  ·simp only[iy]
   have:=aiu sep hsep k (s.extract ((Lib.indexB s sep).toNat+sep.size) s.size)
   omega
theorem ayl[Fr]{P:Program}[bJ P]{n:Nat}{f:FuncId}{t:TypeId}
  (hC:∀(s sep:ByteArray) (n:Nat) (m:Int) (w:World),s.size<4294967281->w.cell? ⟨0,0,none⟩=some (.int .i64 m)->1<=sep.size->1<=n->n<=9223372036854775807->Calls P f #[.string s,.string sep,.int .i64 n] w λe w'=>
   e=.returned (.slice (some ⟨w.heap.size,0,none⟩) (Lib.splitB sep 0 (min n (s.size+1)-1) s).length (min n (s.size+1)))/\w'=w.alloc (.cells (Lib.cellsOf (Lib.splitB sep 0 (min n (s.size+1)-1) s) (min n (s.size+1))) t))
  (hcall:∀args w,(callFunc f args).run P w=.ok (.enter f args) w) :
  bg P n ⟨f,[.val .str [],.val .str [],.val (.int .i64) []],[.val (.sl t .str) [] []],λ_ c=>Fy c.1 c.2.1 c.2.2.1⟩:=by
 refine RJ (k:=.str) rfl rfl ?_
 intro c out hout args w hfix hA
 have hlen:((show List Int from c.1).length<=1048576/\1<=(show List Int from c.2.1).length/\1<=(show Int from c.2.2.1)/\(show Int from c.2.2.1)<=1048576)/\out=(iK c.1 c.2.1 (show Int from c.2.2.1).toNat,()):=by
  have hout:Fy c.1 c.2.1 c.2.2.1=some out:=hout
  unfold Fy at hout
  split at hout
  ·rename_i h;exact⟨h,(kJ hout).symm⟩
  ·simp at hout
 obtain⟨⟨hl1,hl2,hl3,hl4⟩,rfl⟩:=hlen
 obtain⟨a⟩:=args
 match a,hA with
 | [v1,v2,v3],⟨⟨cs1,a1,a2⟩,⟨cs2,b1,b2⟩,⟨RO,c1,c2⟩,_⟩=>
  obtain⟨B1,rfl,hB1⟩:=a2
  obtain⟨B2,rfl,hB2⟩:=b2
  obtain⟨rfl,_⟩:=c2
  obtain⟨e1,_⟩:=a1
  obtain⟨e2,_⟩:=b1
  obtain⟨e3,_⟩:=c1
  simp only[gW,eO]at e1 e2 e3
  subst e1 e2 e3
  have z1:(show List Int from c.1).length=B1.size:=by rw[hB1,Ow.rD]
  have z2:(show List Int from c.2.1).length=B2.size:=by rw[hB2,Ow.rD]
  have f1:iM c.1=B1:=(congrArg iM hB1).trans (Al B1)
  have f2:iM c.2.1=B2:=(congrArg iM hB2).trans (Al B2)
  obtain⟨m,hm⟩:=bJ.Ak (P:=P) hfix
  have hn:(show Int from c.2.2.1)=(((show Int from c.2.2.1).toNat:Nat):Int):=by omega
  generalize hN:(show Int from c.2.2.1).toNat=N at *
  have hx:iK c.1 c.2.1 N=(Lib.splitB B2 0 (min N (B1.size+1)-1) B1).map bytesOf:=by
   unfold iK
   rw[f1,f2]
   rw[show List.length (show List Int from c.1)=B1.size from z1]
  have hle:=aiu B2 (by omega) (min N (B1.size+1)-1) B1
  have hargs:(⟨[Value.string B1,Value.string B2,Value.int .i64 (show Int from c.2.2.1)]⟩:Array Value)=#[.string B1,.string B2,.int .i64 (N:Int)]:=by rw[hn]
  rw[hargs]
  refine .inl ⟨hcall _ _,(hC B1 B2 N m w (by omega) hm (by omega) (by omega) (by omega)).mono ?_⟩
  rintro e w' ⟨rfl,rfl⟩
  generalize hL:Lib.splitB B2 0 (min N (B1.size+1)-1) B1=L at *
  have hsz:=Lib.cellsOf_size (done:=L) (N:=min N (B1.size+1)) (by omega)
  have hnew:hp (w.alloc (.cells (Lib.cellsOf L (min N (B1.size+1))) t)) w.heap.size=some (.cells (Lib.cellsOf L (min N (B1.size+1))) t (0,0)):=by
   unfold hp World.alloc
   simp
  refine⟨_,rfl,⟨rfl,rfl,by simp,λb hb=>?_⟩,rfl,.inr ⟨w.heap.size,min N (B1.size+1),_,?_,bZ _,hnew,?_,?_,λi hi=>?_⟩⟩
  ·unfold hp World.alloc
   simp[Array.getElem?_push,Nat.ne_of_lt hb]
  ·show _=Value.slice _ (show List (List Int)from iK c.1 c.2.1 N).length _
   rw[show(show List (List Int)from iK c.1 c.2.1 N)=L.map bytesOf from hx,oq]
  ·show(show List (List Int)from iK c.1 c.2.1 N).length<=_
   rw[show(show List (List Int)from iK c.1 c.2.1 N)=L.map bytesOf from hx,oq]
   omega
  ·rw[hsz]
   exact Nat.le_of_eq (Nat.mul_one _)
  ·have hi':i<L.length:=by
    have:i<(show List (List Int)from iK c.1 c.2.1 N).length:=hi
    rw[show(show List (List Int)from iK c.1 c.2.1 N)=L.map bytesOf from hx,oq]at this
    exact this
   refine⟨[.string L[i]],λj hj=>?_,L[i],rfl,?_⟩
   ·have hj0:j=0:=by simpa using hj
    subst hj0
    unfold cellAt
    rw[hnew]
    show(Lib.cellsOf L (min N (B1.size+1)))[i*1+0]?=_
    unfold Lib.cellsOf
    rw[Nat.mul_one,mD,List.getElem?_toArray,vE (by simpa using hi')]
    simp[hi']
   ·have:(iK c.1 c.2.1 N)[i]'(by rw[hx,oq];exact hi')=bytesOf L[i]:=by simp[hx]
    exact this
def nQ(s sep:List Int):List Int×List Int×Bool:=
 let r:=Lib.cut (iM s).data.toList (iM sep).data.toList
 (bytesOf ⟨r.1.toArray⟩,bytesOf ⟨r.2.1.toArray⟩,r.2.2)
def De(s sep:List Int):Option (List Int×List Int×Bool×Unit):=if s.length<=1048576 then some ((nQ s sep).1,(nQ s sep).2.1,(nQ s sep).2.2,())else none
theorem amQ[Fr]{P:Program}[bJ P]{n:Nat}{f:FuncId}
  (hC:∀(s sep:ByteArray) (m:Int) (w:World),s.size<4294967281->w.cell? ⟨0,0,none⟩=some (.int .i64 m)->Calls P f #[.string s,.string sep] w λe w'=>
   e=.returned (.tuple #[.string ⟨(Lib.cut s.data.toList sep.data.toList).1.toArray⟩,.string ⟨(Lib.cut s.data.toList sep.data.toList).2.1.toArray⟩,.bool (Lib.cut s.data.toList sep.data.toList).2.2])/\∃n,w'=w.drewN n)
  (hcall:∀args w,(callFunc f args).run P w=.ok (.enter f args) w) :
  bg P n ⟨f,[.val .str [],.val .str []],[.val .str [] [],.val .str [] [],.val .bool [] []],λ_ c=>De c.1 c.2.1⟩:=by
 refine RI rfl ?_
 intro c out hout args w hfix hA
 have hlen:(show List Int from c.1).length<=1048576/\out=((nQ c.1 c.2.1).1,(nQ c.1 c.2.1).2.1,(nQ c.1 c.2.1).2.2,()):=by
  have hout:De c.1 c.2.1=some out:=hout
  unfold De at hout
  split at hout
  ·rename_i h;exact⟨h,(kJ hout).symm⟩
  ·simp at hout
 obtain⟨hl1,rfl⟩:=hlen
 obtain⟨a⟩:=args
 match a,hA with
 | [v1,v2],⟨⟨cs1,a1,a2⟩,⟨cs2,b1,b2⟩,_⟩=>
  obtain⟨B1,rfl,hB1⟩:=a2
  obtain⟨B2,rfl,hB2⟩:=b2
  obtain⟨e1,_⟩:=a1
  obtain⟨e2,_⟩:=b1
  simp only[gW,eO]at e1 e2
  subst e1 e2
  have z1:(show List Int from c.1).length=B1.size:=by rw[hB1,Ow.rD]
  have f1:iM c.1=B1:=(congrArg iM hB1).trans (Al B1)
  have f2:iM c.2.1=B2:=(congrArg iM hB2).trans (Al B2)
  obtain⟨m,hm⟩:=bJ.Ak (P:=P) hfix
  refine .inl ⟨hcall _ _,(hC B1 B2 m w (by omega) hm).mono ?_⟩
  rintro e w' ⟨rfl,k,rfl⟩
  refine⟨_,rfl,[_,_,_],rfl,⟨rfl,⟨_,⟨rfl,by simp⟩,_,rfl,?_⟩,rfl,⟨_,⟨rfl,by simp⟩,_,rfl,?_⟩,rfl,⟨_,⟨rfl,by simp⟩,?_⟩,trivial⟩,⟨rfl,rfl,bZ _,λ_ _=>rfl⟩,rfl⟩
  ·show(nQ c.1 c.2.1).1=_
   unfold nQ
   rw[f1,f2]
  ·show(nQ c.1 c.2.1).2.1=_
   unfold nQ
   rw[f1,f2]
  ·show [Value.bool _]=[Value.bool (nQ c.1 c.2.1).2.2]
   unfold nQ
   rw[f1,f2]
end Go.Proofs.YtgppmpedglhhfaaGreatDoor.aS

/- Numbers as texts, and texts as numbers: functions that are known by a contract and read package-level variables. -/
import Derived.Test.YtgppmpedglhhfaaGreatDoorSplitLib
import Derived.Lib.LaidTab
import Derived.Lib.ParseIntBMem
import Derived.Lib.ParseIntBTie
import Derived.Lib.ItoaNum
import Derived.Shelf.Strconv.Itoa4
import Derived.Shelf.Strconv.ErrVarParseInt
import Derived.WalkKit
import Derived.BigCall
import Derived.BigGuard
import Derived.Conc.MuLone
set_option linter.unusedVariables false
set_option linter.unusedSimpArgs false
namespace Go.Proofs.YtgppmpedglhhfaaGreatDoor.aI
open Go Ow Go.RowKit
class LaidTab(P:Program)[Fr]:Prop where
 met:∃W:World,(∀b,b<W.heap.size->Fr.free b/\hp W b=Fr.obj b)/\Lib.TabIs P W "internal/strconv.uint64pow10" .u64 Lib.pow10Tab
class LaidErr(P:Program)[Fr]:Prop where
 met:∃W:World,(∀b,b<W.heap.size->Fr.free b/\hp W b=Fr.obj b)/\(∃t p,W.var? P "strconv.ErrSyntax"=some #[.iface t p])/\∃t p,W.var? P "strconv.ErrRange"=some #[.iface t p]
theorem Xw{P:Program}{W w:World}{n:String}{cs:Array Value}(h:W.var? P n=some cs)(hs:∀b,b<W.heap.size->hp w b=hp W b):w.var? P n=some cs:=by
 unfold World.var? at h ⊢
 cases hg:P.globalNamed n with
 |none=>rw[hg]at h;simp at h
 |some g=>
  rw[hg]at h
  simp only[aQ]at h ⊢
  have hlt:g<W.heap.size:=by
   cases hx:W.heap[g]? with
   |none=>rw[hx]at h;simp at h
   |some o=>exact(Array.getElem?_eq_some_iff.1 hx).1
  have e:w.heap[g]?=W.heap[g]?:=hs g hlt
  rw[e]
  exact h
section
variable [Fr]{P:Program}
theorem LaidTab.Ak[h:LaidTab P]{w:World}(hw:∀b,Fr.free b->hp w b=Fr.obj b){w':World}(hb:Below w.heap.size w w'):Lib.TabIs P w' "internal/strconv.uint64pow10" .u64 Lib.pow10Tab:=by
 obtain⟨W,h1,h2⟩:=h.met
 refine Xw h2 λb hbW=>?_
 obtain⟨f1,f2⟩:=h1 b hbW
 have e:=hw b f1
 have hlt:b<w.heap.size:=by
  rw[<-f2]at e
  unfold hp at e
  rw[Array.getElem?_eq_getElem hbW]at e
  exact(Array.getElem?_eq_some_iff.1 e).1
 have e2:hp w' b=hp w b:=hb.block b hlt
 rw[e2,e,f2]
theorem LaidErr.Ak[h:LaidErr P]{w:World}(hw:∀b,Fr.free b->hp w b=Fr.obj b):(∃t p,w.var? P "strconv.ErrSyntax"=some #[.iface t p])/\∃t p,w.var? P "strconv.ErrRange"=some #[.iface t p]:=by
 obtain⟨W,h1,⟨t,p,h2⟩,t',p',h3⟩:=h.met
 have hs:∀b,b<W.heap.size->hp w b=hp W b:=λb hb=>by
  obtain⟨f1,f2⟩:=h1 b hb
  rw[hw b f1,f2]
 exact⟨⟨t,p,Xw h2 hs⟩,t',p',Xw h3 hs⟩
end
def kD(n:Int):List Int:=bytesOf ⟨(Lib.itoa n).toArray⟩
def Df(n:Int):Option (List Int×Unit):=if -9223372036854775808<=n/\n<=9223372036854775807 then some (kD n,())else none
theorem ag9{A:Type}(e:Lib.NumEnd A):(∃v,e=.ok v)\/e=Lib.NumEnd.syntax\/e=.range:=by
 cases e
 ·exact .inl ⟨_,rfl⟩
 all_goals first|exact .inr (.inl rfl)|exact .inr (.inr rfl)
def pJ(s:List Int):Int×Bool:=match Lib.parseIntB 64 (r_.iM s).data.toList with
 |.ok v=>(v,decide (0<=v)&&decide (v<=9999)&&(Lib.itoa v==(r_.iM s).data.toList))
 |Lib.NumEnd.syntax=>(0,false)
 |.range=>(Lib.intSat 64 (r_.iM s).data.toList,false)
def Fh(s:List Int):Option (Int×Bool×Unit):=if s.length<=1048576 then some ((pJ s).1,(pJ s).2,())else none
theorem ahd{w w':World}(hb:Below w.heap.size w w'):qH w w'/\w'.tape=w.tape:=⟨⟨hb.os,hb.output,hb.size,λb h=>hb.block b h⟩,hb.tape⟩
section
variable [Fr]{P:Program}{n:Nat}{f:FuncId}
theorem amW[LaidTab P](hC:∀(v:Int),-9223372036854775808<=v->v<=9223372036854775807->∀(w:World),Lib.TabIs P w "internal/strconv.uint64pow10" .u64 Lib.pow10Tab->
   Calls P f #[.int .i64 v] w λe w'=>e=.returned (.string ⟨(Lib.itoa v).toArray⟩)/\Below w.heap.size w w')
  (hcall:∀args w,(callFunc f args).run P w=.ok (.enter f args) w):bg P n ⟨f,[.val (.int .i64) []],[.val .str [] []],λ_ c=>Df c.1⟩:=by
 refine RI rfl ?_
 intro c out hout args w hfix hA
 have hlen:(-9223372036854775808<=(show Int from c.1)/\(show Int from c.1)<=9223372036854775807)/\out=(kD c.1,()):=by
  have hout:Df c.1=some out:=hout
  unfold Df at hout
  split at hout
  ·rename_i h;exact⟨h,(kJ hout).symm⟩
  ·simp at hout
 obtain⟨⟨h0,h1⟩,rfl⟩:=hlen
 obtain⟨a⟩:=args
 match a,hA with
 | [v1],⟨⟨cs,e1,e2⟩,_⟩=>
  obtain⟨rfl,_⟩:=e2
  obtain⟨e1,_⟩:=e1
  simp only[gW,eO]at e1
  subst e1
  refine .inl ⟨hcall _ _,(hC c.1 h0 h1 w (LaidTab.Ak hfix (Below.refl _ _))).mono ?_⟩
  rintro e w' ⟨rfl,hb⟩
  exact⟨_,rfl,[_],rfl,⟨rfl,⟨[.string ⟨(Lib.itoa c.1).toArray⟩],⟨rfl,by simp⟩,_,rfl,rfl⟩,trivial⟩,ahd hb⟩
theorem axG[LaidTab P][LaidErr P]
  (hok:∀(s:ByteArray),s.size<=281474976710656->∀v:Int,Lib.parseIntB 64 s.data.toList=.ok v->-9223372036854775808<=v->v<=9223372036854775807->∀w:World,(∀w',Below w.heap.size w w'->Lib.TabIs P w' "internal/strconv.uint64pow10" .u64 Lib.pow10Tab)->
   Calls P f #[.string s] w λe w'=>e=.returned (.tuple #[.int .i64 v,.bool (decide (0<=v)&&decide (v<=9999)&&(Lib.itoa v==s.data.toList))])/\Below w.heap.size w w')
  (hsy:∀(s:ByteArray),s.size<=281474976710656->Lib.parseIntB 64 s.data.toList=Lib.NumEnd.syntax->∀(w:World) (tp:TypeId) (p:Value),w.var? P "strconv.ErrSyntax"=some #[.iface tp p]->
   Calls P f #[.string s] w λe w'=>e=.returned (.tuple #[.int .i64 0,.bool false])/\Below w.heap.size w w')
  (hra:∀(s:ByteArray),s.size<=281474976710656->Lib.parseIntB 64 s.data.toList=.range->∀(w:World) (tp:TypeId) (p:Value),w.var? P "strconv.ErrRange"=some #[.iface tp p]->
   Calls P f #[.string s] w λe w'=>e=.returned (.tuple #[.int .i64 (Lib.intSat 64 s.data.toList),.bool false])/\Below w.heap.size w w')
  (hcall:∀args w,(callFunc f args).run P w=.ok (.enter f args) w):bg P n ⟨f,[.val .str []],[.val (.int .i64) [] [],.val .bool [] []],λ_ c=>Fh c.1⟩:=by
 refine RI rfl ?_
 intro c out hout args w hfix hA
 have hlen:(show List Int from c.1).length<=1048576/\out=((pJ c.1).1,(pJ c.1).2,()):=by
  have hout:Fh c.1=some out:=hout
  unfold Fh at hout
  split at hout
  ·rename_i h;exact⟨h,(kJ hout).symm⟩
  ·simp at hout
 obtain⟨hl,rfl⟩:=hlen
 obtain⟨a⟩:=args
 match a,hA with
 | [v1],⟨⟨cs,h1,h2⟩,_⟩=>
  obtain⟨B,rfl,hB⟩:=h2
  obtain⟨e1,_⟩:=h1
  simp only[gW,eO]at e1
  subst e1
  have hsz:B.size<=1048576:=by
   have:(show List Int from c.1).length=B.size:=by rw[hB,r_.rD]
   omega
  have e:r_.iM c.1=B:=(congrArg r_.iM hB).trans (r_.Al B)
  obtain⟨he1,he2⟩:=LaidErr.Ak (P:=P) hfix
  have fin:∀(x:Int) (b:Bool),pJ c.1=(x,b)->(Calls P f #[.string B] w λe w'=>e=.returned (.tuple #[.int .i64 x,.bool b])/\Below w.heap.size w w')->
    ve P f #[.string B] w λv w'=>∃vs,v=uY vs/\xZ [.val (.int .i64) [] [],.val .bool [] []] ((pJ c.1).1,(pJ c.1).2,()) vs/\qH w w'/\w'.tape=w.tape:=by
   intro x b hx hc
   refine .inl ⟨hcall _ _,hc.mono ?_⟩
   rintro e w' ⟨rfl,hb⟩
   refine⟨_,rfl,[.int .i64 x,.bool b],rfl,⟨rfl,⟨_,⟨rfl,by simp⟩,?_⟩,rfl,⟨_,⟨rfl,by simp⟩,?_⟩,trivial⟩,ahd hb⟩
   ·show [Value.int .i64 x]=[Value.int .i64 (pJ c.1).1]/\True
    rw[hx];exact⟨rfl,trivial⟩
   ·show [Value.bool b]=[Value.bool (pJ c.1).2]
    rw[hx]
  rcases ag9 (Lib.parseIntB 64 B.data.toList)with⟨v,hp⟩|hp|hp
  ·have hb:=Lib.parseIntB_bounds hp
   exact fin v _ (by unfold pJ;rw[e,hp]) (hok B (by omega) v hp (by omega) (by omega) w (λw' hb=>LaidTab.Ak hfix hb))
  ·obtain⟨t,p,hv⟩:=he1
   exact fin 0 false (by unfold pJ;rw[e,hp]) (hsy B (by omega) hp w t p hv)
  ·obtain⟨t,p,hv⟩:=he2
   exact fin _ false (by unfold pJ;rw[e,hp]) (hra B (by omega) hp w t p hv)
end
end Go.Proofs.YtgppmpedglhhfaaGreatDoor.aI

/- Numbers as texts, and texts as numbers: functions that are known by a contract and read package-level variables. -/
import Derived.Test.YtplpeegfeajkkaaGreatDoorFieldsLib
import Derived.Lib.LaidTab
import Derived.Lib.ParseIntBMem
import Derived.Lib.ParseIntBTie
import Derived.Lib.ItoaNum
import Derived.Shelf.Strconv.Itoa4
import Derived.Shelf.Strconv.ErrVarParseInt
import Derived.WalkKit
import Derived.BigCall
import Derived.BigGuard
import Derived.Conc.MuLone
set_option linter.unusedVariables false
set_option linter.unusedSimpArgs false
namespace Go.Proofs.YtplpeegfeajkkaaGreatDoor.aI
open Go Ow Go.RowKit
class LaidTab(P:Program)[Fr]:Prop where
 met:∃W:World,(∀b,b<W.heap.size->Fr.free b/\hp W b=Fr.obj b)/\Lib.TabIs P W "internal/strconv.uint64pow10" .u64 Lib.pow10Tab
class LaidErr(P:Program)[Fr]:Prop where
 met:∃W:World,(∀b,b<W.heap.size->Fr.free b/\hp W b=Fr.obj b)/\(∃t p,W.var? P "strconv.ErrSyntax"=some #[.iface t p])/\∃t p,W.var? P "strconv.ErrRange"=some #[.iface t p]
theorem Vz{P:Program}{W w:World}{n:String}{cs:Array Value}(h:W.var? P n=some cs)(hs:∀b,b<W.heap.size->hp w b=hp W b):w.var? P n=some cs:=by
 unfold World.var? at h ⊢
 cases hg:P.globalNamed n with
 |none=>rw[hg]at h;simp at h
 |some g=>
  rw[hg]at h
  simp only[aG]at h ⊢
  have hlt:g<W.heap.size:=by
   cases hx:W.heap[g]? with
   |none=>rw[hx]at h;simp at h
   |some o=>exact(Array.getElem?_eq_some_iff.1 hx).1
  have e:w.heap[g]?=W.heap[g]?:=hs g hlt
  rw[e]
  exact h
section
variable [Fr]{P:Program}
theorem LaidTab.Zc[h:LaidTab P]{w:World}(hw:∀b,Fr.free b->hp w b=Fr.obj b){w':World}(hb:Below w.heap.size w w'):Lib.TabIs P w' "internal/strconv.uint64pow10" .u64 Lib.pow10Tab:=by
 obtain⟨W,h1,h2⟩:=h.met
 refine Vz h2 λb hbW=>?_
 obtain⟨f1,f2⟩:=h1 b hbW
 have e:=hw b f1
 have hlt:b<w.heap.size:=by
  rw[<-f2]at e
  unfold hp at e
  rw[Array.getElem?_eq_getElem hbW]at e
  exact(Array.getElem?_eq_some_iff.1 e).1
 have e2:hp w' b=hp w b:=hb.block b hlt
 rw[e2,e,f2]
theorem LaidErr.Zc[h:LaidErr P]{w:World}(hw:∀b,Fr.free b->hp w b=Fr.obj b):(∃t p,w.var? P "strconv.ErrSyntax"=some #[.iface t p])/\∃t p,w.var? P "strconv.ErrRange"=some #[.iface t p]:=by
 obtain⟨W,h1,⟨t,p,h2⟩,t',p',h3⟩:=h.met
 have hs:∀b,b<W.heap.size->hp w b=hp W b:=λb hb=>by
  obtain⟨f1,f2⟩:=h1 b hb
  rw[hw b f1,f2]
 exact⟨⟨t,p,Vz h2 hs⟩,t',p',Vz h3 hs⟩
end
def nX(n:Int):List Int:=bytesOf ⟨(Lib.itoa n).toArray⟩
def Ew(n:Int):Option (List Int×Unit):=if -9223372036854775808<=n/\n<=9223372036854775807 then some (nX n,())else none
theorem aqK{w w':World}(hb:Below w.heap.size w w'):zB w w'/\w'.tape=w.tape:=⟨⟨hb.os,hb.output,hb.size,λb h=>hb.block b h⟩,hb.tape⟩
section
variable [Fr]{P:Program}{n:Nat}{f:FuncId}
theorem alp[LaidTab P](hC:∀(v:Int),-9223372036854775808<=v->v<=9223372036854775807->∀(w:World),Lib.TabIs P w "internal/strconv.uint64pow10" .u64 Lib.pow10Tab->
   Calls P f #[.int .i64 v] w λe w'=>e=.returned (.string ⟨(Lib.itoa v).toArray⟩)/\Below w.heap.size w w')
  (hcall:∀args w,(callFunc f args).run P w=.ok (.enter f args) w):aA P n ⟨f,[.val (.int .i64) []],[.val .str [] []],λ_ c=>Ew c.1⟩:=by
 refine alg rfl ?_
 intro c out hout args w hfix hA
 have hlen:(-9223372036854775808<=(show Int from c.1)/\(show Int from c.1)<=9223372036854775807)/\out=(nX c.1,()):=by
  have hout:Ew c.1=some out:=hout
  unfold Ew at hout
  split at hout
  ·rename_i h;exact⟨h,(jc hout).symm⟩
  ·simp at hout
 obtain⟨⟨h0,h1⟩,rfl⟩:=hlen
 obtain⟨a⟩:=args
 match a,hA with
 | [v1],⟨⟨cs,e1,e2⟩,_⟩=>
  obtain⟨rfl,_⟩:=e2
  obtain⟨e1,_⟩:=e1
  simp only[jr,fM]at e1
  subst e1
  refine .inl ⟨hcall _ _,(hC c.1 h0 h1 w (LaidTab.Zc hfix (Below.refl _ _))).mono ?_⟩
  rintro e w' ⟨rfl,hb⟩
  exact⟨_,rfl,[_],rfl,⟨rfl,⟨[.string ⟨(Lib.itoa c.1).toArray⟩],⟨rfl,by simp⟩,_,rfl,rfl⟩,trivial⟩,aqK hb⟩
end
end Go.Proofs.YtplpeegfeajkkaaGreatDoor.aI

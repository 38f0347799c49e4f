/- strings.Join, as a function that is known by its contract. -/
import Derived.Test.YtgppmpedglhhfaaGreatDoorNumLib
import Derived.Shelf.Strings.OnBuilder
import Derived.Conc.MuLone
set_option linter.unusedVariables false
set_option linter.unusedSimpArgs false
namespace Go.Proofs.YtgppmpedglhhfaaGreatDoor.qD
open Go Ow Go.RowKit r_
def u8(s:List Int):List UInt8:=(iM s).data.toList
def joinL(xs:List (List Int))(sep:List Int):List Int:=bytesOf ⟨(Lib.join (xs.map u8) (u8 sep)).toArray⟩
def Bg(xs:List (List Int))(sep:List Int):Option (List Int×Unit):=
 if xs.length<=140737488355328/\(Lib.join (xs.map u8) (u8 sep)).length<=140737488355328 then some (joinL xs sep,())else none
theorem aqL[Fr]{P:Program}{n:Nat}{f:FuncId}{t:TypeId}
  (h0:∀(a:Option Addr) (c:Nat) (sep:ByteArray) (w:World),Calls P f #[.slice a 0 c,.string sep] w λe w'=>e=.returned (.string ⟨#[]⟩)/\w'=w)
  (hC:∀(bk o c:Nat) (xs:List ByteArray) (sep:ByteArray) (w:World),(∀(j:Nat) x,xs[j]?=some x->w.cell? ⟨bk,o+j,none⟩=some (.string x))->bk<w.heap.size->xs.length<=140737488355328->xs.length<=c->
   (Lib.join (xs.map (·.data.toList)) sep.data.toList).length<=140737488355328->
   Calls P f #[.slice (some ⟨bk,o,none⟩) xs.length c,.string sep] w λe w'=>e=.returned (.string ⟨(Lib.join (xs.map (·.data.toList)) sep.data.toList).toArray⟩)/\Below w.heap.size w w')
  (hcall:∀args w,(callFunc f args).run P w=.ok (.enter f args) w) :
  bg P n ⟨f,[.val (.sl t .str) [],.val .str []],[.val .str [] []],λ_ c=>Bg c.1 c.2.1⟩:=by
 refine RJ rfl ?_
 intro c out hout args w _ hA
 have hlen:((show List (List Int)from c.1).length<=140737488355328/\(Lib.join ((show List (List Int)from c.1).map u8) (u8 c.2.1)).length<=140737488355328)/\out=(joinL c.1 c.2.1,()):=by
  have hout:Bg c.1 c.2.1=some out:=hout
  unfold Bg at hout
  split at hout
  ·rename_i h;exact⟨h,(kJ hout).symm⟩
  ·simp at hout
 obtain⟨⟨hl,hl2⟩,rfl⟩:=hlen
 obtain⟨a⟩:=args
 match a,hA with
 | [v1,v2],⟨⟨cs,h1,h2⟩,⟨cs2,h3,h4⟩,_⟩=>
  obtain⟨B,rfl,hB⟩:=h4
  obtain⟨p,m,cap,rfl,hm,hmc,hcells⟩:=h2
  obtain⟨e1,_⟩:=h1
  obtain⟨e2,_⟩:=h3
  simp only[gW,eO]at e1 e2
  subst e1
  subst e2
  have eB:u8 c.2.1=B.data.toList:=by
   unfold u8
   rw[show iM c.2.1=B from(congrArg iM hB).trans (Al B)]
  have fin:∀(s:ByteArray),s=⟨(Lib.join ((show List (List Int)from c.1).map u8) (u8 c.2.1)).toArray⟩->(Calls P f #[.slice p m cap,.string B] w λe w'=>e=.returned (.string s)/\Below w.heap.size w w')->
    ve P f #[.slice p m cap,.string B] w λv w'=>∃vs,v=uY vs/\xZ [.val .str [] []] (joinL c.1 c.2.1,()) vs/\qH w w'/\w'.tape=w.tape:=by
   intro s hs hc
   refine .inl ⟨hcall _ _,hc.mono ?_⟩
   rintro e w' ⟨rfl,hb⟩
   refine⟨_,rfl,[.string s],rfl,⟨rfl,⟨[.string s],⟨rfl,by simp⟩,s,rfl,?_⟩,trivial⟩,⟨hb.os,hb.output,hb.size,λb h=>hb.block b h⟩,hb.tape⟩
   rw[hs]
   rfl
  by_cases hz:0<m
  ·obtain⟨b,o,rfl,hb,_,hat⟩:=hcells hz
   have hel:∀(i:Nat) (hi:i<(show List (List Int)from c.1).length),w.cell? ⟨b,o+i,none⟩=some (.string (iM ((show List (List Int)from c.1)[i]))):=by
    intro i hi
    obtain⟨ds,d1,d2⟩:=hat i hi
    obtain⟨S,rfl,hS⟩:=d2
    have hc0:=d1 0 (by simp)
    rw[vN]
    have:K.str.size=1:=rfl
    rw[this,Nat.mul_one,mD]at hc0
    rw[hc0]
    rw[show iM ((show List (List Int)from c.1)[i])=S from(congrArg iM hS).trans (Al S)]
    rfl
   have hxl:((show List (List Int)from c.1).map iM).length=m:=by rw[oq];exact hm.symm
   have hmap:((show List (List Int)from c.1).map iM).map (·.data.toList)=(show List (List Int)from c.1).map u8:=by rw[Gn];rfl
   refine fin _ rfl ?_
   have hK:=hC b o cap ((show List (List Int)from c.1).map iM) B w (λj x hj=>by
    rw[CJ]at hj
    cases hjj:(show List (List Int)from c.1)[j]? with
    |none=>rw[hjj]at hj;simp at hj
    |some y=>
     rw[hjj]at hj
     simp only[gq,ak]at hj
     subst hj
     obtain⟨hlt,rfl⟩:=oh.1 hjj
     exact hel j hlt) hb (by rw[oq];exact hl) (by omega) (by rw[hmap,<-eB];exact hl2)
   rw[hxl,hmap,<-eB]at hK
   exact hK
  ·have hm0:m=0:=by omega
   subst hm0
   have hx:(show List (List Int)from c.1)=[]:=List.length_eq_zero_iff.1 hm.symm
   refine fin ⟨#[]⟩ ?_ ((h0 p cap B w).mono ?_)
   ·rw[hx]
    rfl
   ·rintro e w' ⟨rfl,rfl⟩
    exact⟨rfl,Below.refl _ _⟩
end Go.Proofs.YtgppmpedglhhfaaGreatDoor.qD

/- A verified reading of translated code: values in place of memory; part A of 6, spaces and remarks taken out. No condition. Own work of this seat. -/
import Derived.Calls
import Derived.Orders
import Derived.Laws.Cells
import Derived.Laws.IdiomCopy
import Derived.Laws.Entries
import Derived.ChangeKeysEq
import Derived.WalkKit
set_option linter.unusedSectionVars false
set_option linter.unusedVariables false
set_option linter.unusedSimpArgs false
namespace Go.Proofs.YtailcbngagacaabGreat.Ow
open Go
abbrev anh := @Option.some.injEq
abbrev ani := @Option.bind_some
abbrev anj := @List.mem_append_right
abbrev ank := @Bool.false_eq_true
abbrev anl := @Nat.eq_of_beq_eq_true
abbrev anm := @List.mem_append_left
abbrev ann := @Bool.and_eq_true
abbrev ano := @List.nodup_append
abbrev anp := @List.length_append
abbrev anq := @List.mem_append
abbrev anr := @Int.toNat_natCast
abbrev ant := @Prod.mk.injEq
abbrev anu := @List.mem_cons
abbrev anv := @List.getD_eq_getElem?_getD
abbrev anw := @List.getElem?_eq_getElem
abbrev anx := @List.all_eq_true
abbrev anz := @Nat.le_refl
abbrev anA := @List.mem_filter
abbrev anB := @Result.andThen_ok
abbrev anC := @List.mem_singleton
abbrev anD := @List.length_singleton
abbrev anE := @List.append_assoc
abbrev anF := @Classical.byContradiction
abbrev anG := @List.length_cons
abbrev anH := @List.mem_cons_of_mem
abbrev anI := @Sem.run_bind
abbrev anJ := @Int.ofNat_lt
abbrev anK := @Bool.not_true
abbrev anL := @List.getElem_mem
abbrev anM := @List.append_nil
abbrev anN := @Sem.run_pure
abbrev anO := @Nat.mul_le_mul_right
abbrev anP := @List.mem_cons_self
abbrev anQ := @List.nodup_cons
abbrev anR := @Nat.zero_le
abbrev anS := @Option.some.inj
abbrev anT := @List.mem_map
abbrev anU := @List.mem_flatMap
abbrev anV := @Bool.not_false
section
open Go
inductive K where
 | int (k:IntKind)
 | bool
 | str
 | sl (e:TypeId) (k:K)
 | unit
 | pair (a b:K)
 | st (f:K)
 | gap (n:Nat)
 | id (e:TypeId)
 deriving Inhabited
abbrev El:K→Type
 | .int _=>Int
 | .bool=>Bool
 | .str=>List Int
 | .sl _ k=>List (El k)
 | .unit=>Unit
 | .pair a b=>El a×El b
 | .st f=>El f
 | .gap _=>Unit
 | .id _=>Nat
def K.size:K→Nat
 | .int _ | .bool | .str | .sl _ _ | .id _=>1
 | .unit=>0
 | .pair a b=>a.size+b.size
 | .st f=>f.size
 | .gap n=>n
def K.zero:(k:K)→El k
 | .int _=>(0:Int)
 | .bool=>false
 | .str=>([]:List Int)
 | .sl _ _=>[]
 | .unit=>()
 | .pair a b=>(a.zero,b.zero)
 | .st f=>f.zero
 | .gap _=>()
 | .id _=>(0:Nat)
def zX:IntKind→IntKind→Bool
 | .i8, .i8 | .i16, .i16 | .i32, .i32 | .i64, .i64 | .u8, .u8 | .u16, .u16 | .u32, .u32 | .u64, .u64=>true
 | _,_=>false
def K.beq:K→K→Bool
 | .int a, .int b=>zX a b
 | .bool, .bool=>true
 | .str, .str=>true
 | .sl e a, .sl f b=>Nat.beq e f && a.beq b
 | .unit, .unit=>true
 | .pair a b, .pair c d=>a.beq c && b.beq d
 | .st a, .st b=>a.beq b
 | .gap n, .gap m=>Nat.beq n m
 | .id e, .id f=>Nat.beq e f
 | _,_=>false
theorem AU {a b:IntKind} (h:zX a b=true):a=b:=by cases a <;> cases b <;> simp_all [zX]
theorem K.eq_of_beq:∀{a b:K},a.beq b=true→a=b:=by
 intro a
 induction a with
 | int k=>intro b h; cases b <;> simp_all [K.beq]; exact AU h
 | sl e k ih=>intro b h; cases b <;> simp_all [K.beq]; exact ih h.2
 | pair a b iha ihb=>intro c h; cases c <;> simp_all [K.beq]; exact ⟨iha h.1,ihb h.2⟩
 | st f ih=>intro b h; cases b <;> simp_all [K.beq]; exact ih h
 | gap n=>intro b h; cases b <;> simp_all [K.beq]
 | id e=>intro b h; cases b <;> simp_all [K.beq]
 | _=>intro b h; cases b <;> simp_all [K.beq]
def K.like:K→K→Bool
 | .gap n,k=>Nat.beq n k.size
 | .pair a b, .pair c d=>a.like c && b.like d
 | .st a, .st b=>a.like b
 | a,b=>a.beq b
def bP (a b:K) (x:El a):Option (El b):=if h:a.beq b=true then some (K.eq_of_beq h▸x) else none
def K.hole:K→K
 | .sl _ _=>.gap 1
 | .pair a b=>.pair a.hole b.hole
 | .st f=>.st f.hole
 | k=>k
def um:(k:K)→El k→El k.hole
 | .sl _ _,_=>()
 | .pair a b,x=>(um a x.1,um b x.2)
 | .st f,x=>um f x
 | .int _,x=>x
 | .bool,x=>x
 | .str,x=>x
 | .unit,_=>()
 | .gap _,_=>()
 | .id _,x=>x
def K.tys:K→List TypeId
 | .sl e k=>e :: k.tys
 | .pair a b=>a.tys++b.tys
 | .st f=>f.tys
 | _=>[]
def K.flat:K→Bool
 | .sl _ _ | .gap _=>false
 | .pair a b=>a.flat && b.flat
 | .st f=>f.flat
 | _=>true
def Cont:List K→Type
 | []=>Unit
 | k :: ks=>El k×Cont ks
def Cont.app:(ks ls:List K)→Cont ks→Cont ls→Cont (ks++ls)
 | [],_,_,d=>d
 | _ :: ks,ls,c,d=>(c.1,Cont.app ks ls c.2 d)
inductive Stp where
 | fJ (n:Nat)
 | idx (i:Int)
abbrev Dat:=(k:K)×El k
def rJ (d:Dat):Dat:=⟨d.1.hole,um d.1 d.2⟩
def aO:Nat→(c:K)→El c→Option Dat
 | 0, .pair a _,x=>some ⟨a,x.1⟩
 | n+1, .pair _ b,x=>aO n b x.2
 | _,_,_=>none
def aQ:List Stp→(k:K)→El k→Option Dat
 | [],k,x=>some ⟨k,x⟩
 | .fJ n :: p, .st c,x=>match aO n c x with
  | some d=>aQ p d.1 d.2
  | none=>none
 | .idx i :: p, .sl _ k,xs=>aQ p k ((show List (El k) from xs).getD i.toNat k.zero)
 | _,_,_=>none
def cz:Nat→(c:K)→El c→Dat→Option Dat
 | 0, .pair _ b,x,d=>some ⟨.pair d.1 b,(d.2,x.2)⟩
 | n+1, .pair a b,x,d=>match cz n b x.2 d with
  | some z=>some ⟨.pair a z.1,(x.1,z.2)⟩
  | none=>none
 | _,_,_,_=>none
def dX:List Stp→(k:K)→El k→Dat→Option Dat
 | [],_,_,d=>some d
 | .fJ n :: p, .st c,x,d=>match aO n c x with
  | some s=>match dX p s.1 s.2 d with
   | some t=>match cz n c x t with
    | some z=>some ⟨.st z.1,z.2⟩
    | none=>none
   | none=>none
  | none=>none
 | .idx i :: p, .sl e k,xs,d=>match dX p k ((show List (El k) from xs).getD i.toNat k.zero) d with
  | some t=>match bP t.1 k t.2 with
   | some y=>some ⟨.sl e k,(show List (El k) from xs).set i.toNat y⟩
   | none=>none
  | none=>none
 | _,_,_,_=>none
def Stp.qH:Stp→Bool
 | .fJ _=>true
 | .idx _=>false
def ah:List Stp→K→List TypeId
 | .fJ n :: p, .st c=>match Hu n c with
  | some k=>ah p k
  | none=>[]
 | .idx _ :: p, .sl e k=>e :: ah p k
 | _,_=>[]
where Hu:Nat→K→Option K
 | 0, .pair a _=>some a
 | n+1, .pair _ b=>Hu n b
 | _,_=>none
abbrev Tag:=Nat×Nat
inductive AV where
 | undef
 | val (k:K) (x:El k) (tags:List Tag)
 | iQ
 | ref (r g:Nat)
 | sM (r:Nat) (p:List Stp) (v:Nat)
 | ptr (r:Nat) (p:List Stp) (h:Nat)
 | iZ (bt:TypeId) (k:K) (x:El k) (tags:List Tag)
 | rV
 | JA (r g:Nat) (k:K) (p:List Stp)
 | Aj (e:Bool)
 | part (r g lo hi sz:Nat)
 | xU (r:Nat) (p:List Stp) (v m:Nat)
 | app (r:Nat) (p:List Stp) (v q:Nat)
 | fn (f:Nat) (caps:List (TypeId×Dat×List Tag))
inductive xJ where
 | one (a:AV)
 | KX (l:List AV)
 | lit (t:TypeId) (c:K) (l:List AV)
inductive Gs where
 | anon
 | var (t:TypeId)
 | par
 | dead
structure Root where
 k:K
 x:El k
 own:List TypeId
 tags:List Tag
 w:List TypeId
 h:List TypeId
 g:Nat
 kind:Gs
 fixed:Bool
 keep:Bool
 ew:List TypeId:=[]
 eh:List TypeId:=[]
def Root.bg (R:Root):Bool:=match R.kind with
 | .dead=>true
 | _=>false
def Root.isVar (R:Root):Bool:=match R.kind with
 | .var _=>true
 | _=>false
def bT:Root:={ k:=.unit,x:=(),own:=[],tags:=[],w:=[],h:=[],g:=0,kind:=.dead,fixed:=true,keep:=true }
structure St where
 slots:Nat→xJ
 roots:Nat→Option Root
inductive Loc where
 | s (n:Nat)
 | r (n:Nat)
inductive Wr where
 | s (n:Nat) (a:xJ)
 | r (n:Nat) (o:Option Root)
def Loc.beq:Loc→Loc→Bool
 | .s a, .s b=>Nat.beq a b
 | .r a, .r b=>Nat.beq a b
 | _,_=>false
def Wr.loc:Wr→Loc
 | .s n _=>.s n
 | .r n _=>.r n
def upd {α:Type} (f:Nat→α) (n:Nat) (v:α):Nat→α:=fun m=>bif Nat.beq m n then v else f m
def Wr.app (w:Wr) (σ:St):St:=match w with
 | .s n a=>{ σ with slots:=upd σ.slots n a }
 | .r n (some R)=>{ σ with roots:=upd σ.roots n (some R) }
 | .r n none=>{ σ with roots:=upd σ.roots n (some bT) }
def aB:List Wr→St→St
 | [],σ=>σ
 | w :: ws,σ=>aB ws (w.app σ)
inductive Prog (α:Type):Type 1 where
 | ret (a:α)
 | fail
 | slot (n:Nat) (k:xJ→Prog α)
 | root (r:Nat) (k:Option Root→Prog α)
 | uY (c:Prop) (d:Decidable c) (k:Prog α)
 | br (c:Bool) (t e:Prog α)
 | opt (β:Type) (o:Option β) (k:β→Prog α)
def Prog.bind {α β:Type}:Prog α→(α→Prog β)→Prog β
 | .ret a,f=>f a
 | .fail,_=>.fail
 | .slot n k,f=>.slot n fun v=>(k v).bind f
 | .root r k,f=>.root r fun v=>(k v).bind f
 | .uY c d k,f=>.uY c d (k.bind f)
 | .br c t e,f=>.br c (t.bind f) (e.bind f)
 | .opt β o k,f=>.opt β o fun b=>(k b).bind f
def Prog.run {α R:Type}:Prog α→St→(α→Option R)→Option R
 | .ret a,_,K=>K a
 | .fail,_,_=>none
 | .slot n k,σ,K=>(k (σ.slots n)).run σ K
 | .root r k,σ,K=>(k (σ.roots r)).run σ K
 | .uY c d k,σ,K=>@ite _ c d (k.run σ K) none
 | .br c t e,σ,K=>if c=true then t.run σ K else e.run σ K
 | .opt _ o k,σ,K=>o.bind fun b=>(k b).run σ K
def Prog.Ik {α R:Type}:Prog α→St→List Loc→(α→List Loc→Option R)→Option R
 | .ret a,_,l,K=>K a l
 | .fail,_,_,_=>none
 | .slot n k,σ,l,K=>(k (σ.slots n)).Ik σ (.s n :: l) K
 | .root r k,σ,l,K=>(k (σ.roots r)).Ik σ (.r r :: l) K
 | .uY c d k,σ,l,K=>@ite _ c d (k.Ik σ l K) none
 | .br c t e,σ,l,K=>if c=true then t.Ik σ l K else e.Ik σ l K
 | .opt _ o k,σ,l,K=>o.bind fun b=>(k b).Ik σ l K
def Ba:List Wr→Nat→Option xJ
 | [],_=>none
 | .s m a :: ws,n=>match Ba ws n with
  | some b=>some b
  | none=>bif Nat.beq n m then some a else none
 | .r _ _ :: ws,n=>Ba ws n
def CR:List Wr→Nat→Option (Option Root)
 | [],_=>none
 | .r m o :: ws,n=>match CR ws n with
  | some b=>some b
  | none=>bif Nat.beq n m then some (some (o.getD bT)) else none
 | .s _ _ :: ws,n=>CR ws n
def Prog.over {α:Type} (ws:List Wr):Prog α→Prog α
 | .ret a=>.ret a
 | .fail=>.fail
 | .slot n k=>match Ba ws n with
  | some v=>(k v).over ws
  | none=>.slot n fun v=>(k v).over ws
 | .root r k=>match CR ws r with
  | some v=>(k v).over ws
  | none=>.root r fun v=>(k v).over ws
 | .uY c d k=>.uY c d (k.over ws)
 | .br c t e=>.br c (t.over ws) (e.over ws)
 | .opt β o k=>.opt β o fun b=>(k b).over ws
def aaq (p q:Prog (List Wr)):Prog (List Wr):=p.bind fun ws=>(q.over ws).bind fun vs=>.ret (ws++vs)
end
section
open Go
def az (n:Nat):List Nat→Bool
 | []=>false
 | m :: l=>bif Nat.beq n m then true else az n l
def mO (l m:List Nat):Bool:=l.all fun n=>az n m
def gH {α:Type}:List α→Nat
 | []=>0
 | _ :: l=>gH l+1
def ay (j:Nat):Nat:=4 * j
def pY (j:Nat):Nat:=4 * j+1
def aY (d c:Nat):Nat:=4 * (8 * d+c)+2
def fI (r:Nat):Bool:=Nat.beq (r % 4) 1
def since (l:List Nat) (n:Nat):List Nat:=l.take (gH l - n)
def clean (l:List Nat) (n:Nat) (tys:List Nat):Bool:=(since l n).all fun t=>!az t tys
def bytesOf (s:ByteArray):List Int:=s.data.toList.map fun b=>(b.toNat:Int)
inductive dG where
 | val (k:K) (ig:List Nat)
 | ro (k:K)
 | rw (k:K) (ow wt ht:List TypeId)
 | into (j:Nat) (p:List (Option Nat))
 | jK (k:K) (ow wt:List TypeId)
 | own (k:K) (ow:List TypeId)
 | fn (f:Nat) (ks:List K)
inductive lU where
 | val (k:K) (exts ig:List Nat)
 | own (k:K) (ow:List TypeId) (exts ig:List Nat)
 | ptr (t:TypeId) (k:K) (ow:List TypeId) (exts:List Nat)
 | into (j:Nat) (p:List (Option Nat))
def dG.kin:dG→List K
 | .val k _ | .ro k | .rw k _ _ _ | .jK k _ _ | .own k _=>[k]
 | .into _ p=>p.filterMap fun | none=>some (.int .i64) | some _=>none
 | .fn _ ks=>ks
def dG.kD:dG→List K
 | .rw k _ _ _ | .jK k _ _=>[k]
 | _=>[]
def lU.iB:lU→List K
 | .val k _ _ | .own k _ _ _ | .ptr _ k _ _=>[k]
 | .into _ _=>[.int .i64]
def kin:List dG→List K
 | []=>[]
 | p :: ps=>p.kin++kin ps
def kD:List dG→List K
 | []=>[]
 | p :: ps=>p.kD++kD ps
def iB:List lU→List K
 | []=>[]
 | p :: ps=>p.iB++iB ps
structure Entry where
 f:FuncId
 ps:List dG
 rs:List lU
 F:Nat→Cont (kin ps)→Option (Cont (iB rs++kD ps))
structure iT where
 ty:TypeId→Option K
 bytes:TypeId→Nat
 ptr:TypeId→Bool
 eq:TypeId→Bool
 ids:Bool:=false
structure Hint where
 nt:Nat
 ajm:List Nat
 loops:List (Nat×List Nat×List Nat)
 less:List (Nat×List TypeId)
 calls:List (Nat×Option Nat×Entry)
 iY:List (Nat×K×List TypeId×List TypeId)
 wide:List (Nat×List Nat):=[]
 parts:List Nat:=[]
 apps:List Nat:=[]
section
variable {α:Type}
def nO:List Tag→List TypeId→Prog α→Prog α
 | [],_,k=>k
 | (r,n) :: ts,tys,k=>bif fI r then nO ts tys k else .root r fun
  | some R=>bif !R.bg && clean R.w n tys then nO ts tys k else .fail
  | none=>.fail
def aU (own:List TypeId):K→List TypeId
 | .sl e k=>bif az e own then aU own k else e :: k.tys
 | .pair a b=>aU own a++aU own b
 | .st f=>aU own f
 | _=>[]
def Root.Ce (R:Root):List TypeId:=aU R.own R.k
def rX (r:Nat) (k:Root→Prog α):Prog α:=.root r fun
 | some R=>bif R.bg then .fail else nO R.tags R.Ce (k R)
 | none=>.fail
def Root.wK (R:Root):Nat:=gH R.w+gH R.h
def Root.out (R:Root) (r:Nat) (k:K):List Tag:=bif k.flat then [] else bif k.tys.any (fun t=>az t R.own) then (r,gH R.w) :: R.tags else R.tags
def iH (r:Nat) (k:Prog α):Prog α:=.root r fun
 | none=>k
 | some _=>.fail
def inK:IntKind→Int→Bool
 | .u8,n=>Int.blt n 256 && Int.ble 0 n
 | _,_=>true
where
 Int.blt (a b:Int):Bool:=decide (a<b)
 Int.ble (a b:Int):Bool:=decide (a≤b)
def Ye:Value→AV
 | .int k n=>bif inK k n then .val (.int k) n [] else .undef
 | .bool b=>.val .bool b []
 | .string s=>.val .str (bytesOf s) []
 | .slice none 0 0=>.iQ
 | .pointer none=>.rV
 | _=>.undef
def uJ (x:Operand) (k:xJ→Prog α):Prog α:=match x with
 | .tmp t=>.slot t k
 | .const v=>k (.one (Ye v))
 | .func f=>k (.one (.fn f []))
 | .global _=>.fail
def dN (x:Operand) (k:AV→Prog α):Prog α:=uJ x fun
 | .one a=>k a
 | _=>.fail
def uO (a:AV) (k:(kk:K)→El kk→List Tag→Prog α):Prog α:=match a with
 | .val kk x tags=>nO tags kk.tys (k kk x tags)
 | .ref r g=>rX r fun R=>bif Nat.beq R.g g then k R.k R.x (R.out r R.k) else .fail
 | .sM r p h=>rX r fun R=>bif Nat.beq R.wK h then
   match aQ p R.k R.x with
   | some d=>k d.1 d.2 (R.out r d.1)
   | none=>.fail
  else .fail
 | _=>.fail
def asInt (a:AV) (k:IntKind→Int→Prog α):Prog α:=match a with
 | .val (.int ik) n _=>k ik n
 | _=>.fail
def asBool (a:AV) (k:Bool→Prog α):Prog α:=match a with
 | .val .bool b _=>k b
 | _=>.fail
def Wr.tX:Wr→List Nat
 | .r n _=>[n]
 | .s _ _=>[]
def FC:List Nat→Bool
 | []=>true
 | n :: l=>!az n l && FC l
def Az (ws:List Wr) (tags:List Tag):Bool:=tags.all fun t=>!az t.1 (ws.flatMap Wr.tX)
def ER (ws:List Wr) (tags:List Tag):Bool:=FC (ws.flatMap Wr.tX) && Az ws tags
structure iy where
 k:K
 x:El k
 own:List TypeId
 tags:List Tag
 ws:List Wr
 keep:Bool
abbrev qo:Nat:=4294967294
def dY:List Stp→K→List TypeId
 | [],_=>[]
 | p,k=>qo :: ah p k
def sP (k:K):List TypeId:=match k.tys with
 | []=>[qo]
 | _=>[]
def Co (R:Root) (p:List Stp) (d:Dat):Option Root:=
 match dX p R.k R.x (rJ d) with
 | some z=>some { R with k:=z.1,x:=z.2,w:=d.1.tys++R.w,h:=sP d.1++d.1.tys++R.h }
 | none=>none
def xD (want:K) (a:AV) (k:iy→Prog α):Prog α:=match a with
 | .val kk x tags=>nO tags kk.tys (k ⟨kk,x,[],tags,[],false⟩)
 | .iQ=>match want with
  | .sl e kk=>k ⟨.sl e kk,[],e :: kk.tys,[],[],false⟩
  | _=>.fail
 | .ref r g=>rX r fun R=>bif Nat.beq R.g g && !R.fixed then k ⟨R.k,R.x,R.own,R.tags,[.r r none],R.keep⟩ else .fail
 | .sM r p h=>rX r fun R=>bif Nat.beq R.wK h then
   match aQ p R.k R.x with
   | some d=>bif p.all Stp.qH && !R.fixed && (!p.isEmpty || R.isVar) then
     match Co R p d with
     | some R'=>k ⟨d.1,d.2,d.1.tys.filter (fun t=>az t R.own),R.tags,[.r r (some R')],R.keep⟩
     | none=>.fail
    else nO (R.out r d.1) d.1.tys (k ⟨d.1,d.2,[],R.out r d.1,[],false⟩)
   | none=>.fail
  else .fail
 | .part r g lo hi sz=>rX r fun R=>bif Nat.beq R.g g && !R.fixed && Nat.beq lo 0 then match R.k,R.x with
   | .sl e kk,xs=>bif kk.flat && az e R.own && Nat.beq kk.size sz then k ⟨.sl e kk,(show List (El kk) from xs).take hi,R.own,R.tags,[.r r none],R.keep⟩ else .fail
   | _,_=>.fail
  else .fail
 | _=>.fail
def zY:List Int→List Int→Bool
 | _,[]=>false
 | [],_ :: _=>true
 | a :: x,b :: y=>decide (a<b) || (decide (a=b) && zY x y)
def zw:(k:K)→El k→El k→Bool
 | .int _,x,y=>decide ((show Int from x)=y)
 | .bool,x,y=>(show Bool from x) == y
 | .str,x,y=>decide ((show List Int from x)=y)
 | .pair .unit .unit,_,_=>true
 | .pair a .unit,x,y=>zw a x.1 y.1
 | .pair a b,x,y=>zw a x.1 y.1 && zw b x.2 y.2
 | .st f,x,y=>zw f x y
 | _,_,_=>true
def v1 (k:K) (x:El k):xJ:=.one (.val k x [])
def TJ (op:BinOp) (ik:IntKind) (x y:Int) (k:xJ→Prog α):Prog α:=match op with
 | .add=>k (v1 (.int ik) (ik.wrap (x+y)))
 | .sub=>k (v1 (.int ik) (ik.wrap (x - y)))
 | .mul=>k (v1 (.int ik) (ik.wrap (x * y)))
 | .quo=>.uY (y≠0) inferInstance (k (v1 (.int ik) (ik.wrap (x.tdiv y))))
 | .rem=>.uY (y≠0) inferInstance (k (v1 (.int ik) (x.tmod y)))
 | .and=>k (v1 (.int ik) (ik.wrap (BitVec.ofInt ik.bits x &&& BitVec.ofInt ik.bits y).toNat))
 | .or=>k (v1 (.int ik) (ik.wrap (BitVec.ofInt ik.bits x ||| BitVec.ofInt ik.bits y).toNat))
 | .xor=>k (v1 (.int ik) (ik.wrap (BitVec.ofInt ik.bits x ^^^ BitVec.ofInt ik.bits y).toNat))
 | .andNot=>k (v1 (.int ik) (ik.wrap (BitVec.ofInt ik.bits x &&& ~~~ BitVec.ofInt ik.bits y).toNat))
 | .eql=>k (v1 .bool (decide (x=y)))
 | .neq=>k (v1 .bool (!decide (x=y)))
 | .lss=>k (v1 .bool (decide (x<y)))
 | .leq=>k (v1 .bool (decide (x≤y)))
 | .gtr=>k (v1 .bool (decide (x>y)))
 | .geq=>k (v1 .bool (decide (x≥y)))
 | _=>.fail
def YO (op:BinOp) (x y:List Int) (k:xJ→Prog α):Prog α:=match op with
 | .add=>.uY (x.length+y.length≤9223372036854775807) inferInstance (k (v1 .str (x++y)))
 | .eql=>k (v1 .bool (decide (x=y)))
 | .neq=>k (v1 .bool (!decide (x=y)))
 | .lss=>k (v1 .bool (zY x y))
 | .leq=>k (v1 .bool (zY x y || decide (x=y)))
 | .gtr=>k (v1 .bool (!(zY x y || decide (x=y))))
 | .geq=>k (v1 .bool (!zY x y))
 | _=>.fail
def Qf (a b:AV):Option Bool:=match a,b with
 | .rV, .rV=>some true
 | .rV, .ptr _ _ _ | .ptr _ _ _, .rV=>some false
 | .rV, .iZ _ _ _ _ | .iZ _ _ _ _, .rV=>some false
 | _,_=>none
def O8 (T:iT) (t:TypeId) (op:BinOp) (a b:AV) (k:xJ→Prog α):Prog α:=match a,b with
 | .val (.int ik) x _, .val (.int jk) y _=>match op with
  | .shl=>.uY (0≤y) inferInstance (k (v1 (.int ik) (ik.wrap (x * 2 ^ min y.toNat ik.bits))))
  | .shr=>.uY (0≤y) inferInstance (k (v1 (.int ik) (x.fdiv (2 ^ min y.toNat ik.bits))))
  | _=>bif zX ik jk then TJ op ik x y k else .fail
 | .val .bool x _, .val .bool y _=>match T.ty t,op with
  | some .bool, .eql=>k (v1 .bool (x == y))
  | some .bool, .neq=>k (v1 .bool (!(x == y)))
  | _,_=>.fail
 | .val .str x _, .val .str y _=>YO op x y k
 | .val (.st c) x _, .val (.st d) y _=>match bP (.st d) (.st c) y with
  | some y'=>bif (c.flat && T.eq t) && (match T.ty t with | some kk=>kk.beq (.st c) | none=>false) then match op with
    | .eql=>k (v1 .bool (zw c x y'))
    | .neq=>k (v1 .bool (!zw c x y'))
    | _=>.fail
   else .fail
  | none=>.fail
 | a,b=>bif T.ptr t then match Qf a b,op with
  | some t, .eql=>k (v1 .bool t)
  | some t, .neq=>k (v1 .bool (!t))
  | _,_=>.fail
  else .fail
def XZ:Operand→Bool
 | .const (.slice none 0 0)=>true
 | _=>false
def aa8:BinOp→Bool
 | .eql=>true
 | _=>false
def agm (T:iT) (t:TypeId) (a:AV) (k:AV→Prog α):Prog α:=match T.ty t with
 | some (.sl _ _)=>uO a fun kk x _=>match kk,x with
  | .sl _ kk,xs=>k (.Aj (show List (El kk) from xs).isEmpty)
  | _,_=>.fail
 | _=>.fail
def Ri (T:iT) (t:TypeId) (op:BinOp) (x y:Operand) (k:xJ→Prog α):Prog α:=
 bif XZ y && aa8 op then dN x fun a=>agm T t a fun v=>k (.one v) else dN x fun a=>dN y fun b=>O8 T t op a b k
def unP (op:UnOp) (a:AV) (k:xJ→Prog α):Prog α:=match op,a with
 | .neg, .val (.int ik) x _=>k (v1 (.int ik) (ik.wrap (0 - x)))
 | .xor, .val (.int ik) x _=>k (v1 (.int ik) (ik.wrap (BitVec.ofInt ik.bits (if ik.signed then -1 else ik.max) ^^^ BitVec.ofInt ik.bits x).toNat))
 | .not, .val .bool b _=>k (v1 .bool (!b))
 | _,_=>.fail
def aL (k:K) (x:El k) (ow:List TypeId) (tags:List Tag) (kind:Gs) (keep:Bool:=false):Root:={ k,x,own:=ow,tags,w:=[],h:=[],g:=0,kind,fixed:=false,keep }
def Root.bt (R:Root):TypeId:=match R.kind with
 | .var t=>t
 | _=>4294967295
def eP (R:Root) (p:List Stp):TypeId:=(ah p R.k).getLastD R.bt
def IB (p:List Stp) (R:Root):Bool:=(ah p R.k).all fun t=>az t R.own
def addrOf (a:AV) (rd:Root→Nat→List Stp→Dat→Prog α) (ro:TypeId→Dat→List Tag→Prog α):Prog α:=match a with
 | .ptr r p h=>rX r fun R=>bif clean R.h h (dY p R.k) && IB p R then
   match aQ p R.k R.x with
   | some d=>rd R r p d
   | none=>.fail
  else .fail
 | .iZ bt k x tags=>nO tags (bt :: k.tys) (ro bt ⟨k,x⟩ tags)
 | _=>.fail
def Eg (T:iT) (sM:Bool) (t:TypeId) (a:AV) (k:AV→Prog α):Prog α:=
 match T.ty t with
 | none=>.fail
 | some kk=>match a with
  | .JA r g k0 p=>rX r fun R=>bif Nat.beq R.g g && R.k.beq k0 && p.all Stp.qH then
    match aQ p R.k R.x with
    | some d=>bif d.1.beq kk then (bif d.1.flat then k (.val d.1 d.2 []) else k (.sM r p R.wK)) else .fail
    | none=>.fail
   else .fail
  | a=>addrOf a
   (fun R r p d=>bif d.1.beq kk then (bif sM && !d.1.flat then k (.sM r p R.wK) else k (.val d.1 d.2 (R.out r d.1))) else .fail)
   (fun _ d tags=>bif d.1.beq kk then k (.val d.1 d.2 (bif d.1.flat then [] else tags)) else .fail)
def bF (own bad:List TypeId):List TypeId:=own.filter fun t=>!az t bad
def iK:List Tag→List Tag→List Tag
 | [],m=>m
 | (r,n) :: l,m=>bif m.any fun t=>Nat.beq t.1 r && Nat.beq t.2 n then iK l m else (r,n) :: iK l m
def w9 (r:Nat) (l:List Tag):List Tag:=l.filter fun t=>!Nat.beq t.1 r
def iy.bad (tk:iy):List TypeId:=aU tk.own tk.k
def Ou (R:Root) (r:Nat) (tags:List Tag) (bad:List TypeId):Bool:=tags.all (fun t=>!Nat.beq t.1 r) || match R.kind with
 | .par=>false
 | .var t=>!az t bad
 | _=>true
def Oj (R:Root) (r:Nat) (p:List Stp) (d:Dat) (tk:iy):Option (Root×Dat):=
 bif !d.1.flat && p.all Stp.qH && !R.keep && (!p.isEmpty || R.isVar) && tk.tags.all (fun t=>!Nat.beq t.1 r) then
  match Co R p d with
  | some Rg=>match tk.own.filter (fun t=>!az t R.own && az t d.1.tys && !az t Rg.k.tys) with
   | []=>none
   | l=>some ({ Rg with own:=l++R.own },rJ d)
  | none=>none
 else none
def storeAt (kk:K) (r:Nat) (p:List Stp) (tk:iy) (R:Root) (d:Dat) (k:List Wr→Prog α):Prog α:=
 bif (d.1.beq kk || (d.1.beq kk.hole && p.all Stp.qH)) && (kk.flat || Ou R r tk.tags tk.bad) && (ah p R.k).all (fun t=>!az t tk.bad) then
  match dX p R.k R.x ⟨tk.k,tk.x⟩ with
  | some z=>bif R.keep && !kk.tys.all (fun t=>!az t R.own || az t tk.own) then .fail else
   k (tk.ws++[.r r (some { R with
    keep:=R.keep || tk.keep
    k:=z.1,x:=z.2
    own:=bF R.own tk.bad
    tags:=bif kk.flat then R.tags else iK (w9 r tk.tags) R.tags
    w:=eP R p :: R.w
    h:=(bif d.1.beq kk then [] else sP kk)++kk.tys++R.h })])
  | none=>.fail
 else .fail
def SF (T:iT) (t:TypeId) (a v:AV) (k:List Wr→Prog α):Prog α:=
 match T.ty t,a with
 | some kk, .ptr r p h=>xD kk v fun tk=>bif tk.k.beq kk && tk.ws.all (fun w=>!w.loc.beq (.r r)) then
   rX r fun R=>bif clean R.h h (dY p R.k) && IB p R && Az tk.ws R.tags then
    match aQ p R.k R.x with
    | some d=>match Oj R r p d tk with
     | some q=>nO q.1.tags q.1.Ce (storeAt kk r p tk q.1 q.2 k)
     | none=>storeAt kk r p tk R d k
    | none=>.fail
   else .fail
  else .fail
 | _,_=>.fail
def JO (kk:K) (a:AV) (n:Nat) (k:AV→Prog α):Prog α:=match a with
 | .val (.st c) x tags=>bif (K.st c).beq kk then match aO n c x with
  | some d=>nO tags c.tys (k (.val d.1 d.2 (bif d.1.flat then [] else tags)))
  | none=>.fail
  else .fail
 | .ref r g=>rX r fun R=>bif Nat.beq R.g g && R.k.beq kk then
   match aQ [.fJ n] R.k R.x with
   | some d=>bif d.1.flat then k (.val d.1 d.2 []) else k (.sM r [.fJ n] R.wK)
   | none=>.fail
  else .fail
 | .sM r p h=>rX r fun R=>bif Nat.beq R.wK h then
   match aQ p R.k R.x,aQ (p++[.fJ n]) R.k R.x with
   | some d0,some d=>bif !d0.1.beq kk then .fail else bif d.1.flat then k (.val d.1 d.2 []) else k (.sM r (p++[.fJ n]) R.wK)
   | _,_=>.fail
  else .fail
 | _=>.fail
def NM (kk:K) (n:Nat):Bool:=match kk with
 | .st c=>(ah.Hu n c).isSome
 | _=>false
def ME:List Stp→K→Option K
 | [],k=>some k
 | .fJ n :: p, .st c=>match ah.Hu n c with
  | some k=>ME p k
  | none=>none
 | _,_=>none
def ZC (a:AV) (kk:K) (yes:Nat→Nat→Prog α) (no:Prog α):Prog α:=match a with
 | .ref r g=>.root r fun
  | some R=>bif R.fixed then (rX r fun R=>bif Nat.beq R.g g && R.k.beq kk then yes r g else .fail) else no
  | none=>no
 | _=>no
def vP (kk:K) (a:AV) (n:Nat) (k:AV→Prog α):Prog α:=match a with
 | .ptr r p h=>.root r fun
  | some R=>match aQ p R.k R.x with
   | some d=>bif d.1.like kk && NM kk n then k (.ptr r (p++[.fJ n]) h) else .fail
   | none=>.fail
  | none=>.fail
 | .iZ bt (.st c) x tags=>bif (K.st c).beq kk then match aO n c x with
  | some d=>nO tags (bt :: c.tys) (k (.iZ bt d.1 d.2 tags))
  | none=>.fail
  else .fail
 | .JA r g k0 p=>match ME p k0 with
  | some k1=>bif k1.beq kk && NM kk n then k (.JA r g k0 (p++[.fJ n])) else .fail
  | none=>.fail
 | _=>.fail
def aJ (i:Int) (n:Nat):Prop:=0≤i∧i<(n:Int)
instance (i:Int) (n:Nat):Decidable (aJ i n):=inferInstanceAs (Decidable (_∧_))
def vR (k0:K) (a:AV) (i:Int) (k:AV→Prog α):Prog α:=match a with
 | .val (.sl e kk) xs tags=>bif (K.sl e kk).beq k0 then nO tags (e :: kk.tys) (.uY (aJ i (show List (El kk) from xs).length) inferInstance
   (k (.iZ e kk ((show List (El kk) from xs).getD i.toNat kk.zero) tags))) else .fail
 | .ref r g=>rX r fun R=>bif Nat.beq R.g g then
   match R.k,R.x with
   | .sl e kk,xs=>bif az e R.own && (K.sl e kk).beq k0 then .uY (aJ i (show List (El kk) from xs).length) inferInstance (k (.ptr r [.idx i] (gH R.h))) else .fail
   | _,_=>.fail
  else .fail
 | .sM r p h=>rX r fun R=>bif Nat.beq R.wK h then
   match aQ p R.k R.x with
   | some ⟨.sl e kk,xs⟩=>bif !(K.sl e kk).beq k0 then .fail else bif az e R.own then .uY (aJ i (show List (El kk) from xs).length) inferInstance (k (.ptr r (p++[.idx i]) (gH R.h)))
     else .uY (aJ i (show List (El kk) from xs).length) inferInstance (k (.iZ e kk ((show List (El kk) from xs).getD i.toNat kk.zero) (R.out r (.sl e kk))))
   | _=>.fail
  else .fail
 | _=>.fail
structure Dp where
 k:K
 x:El k
 bad:List TypeId
 tags:List Tag
 ws:List Wr
 keep:Bool
 all:List Tag
def iy.gL (tk:iy):List Tag:=match tk.bad with
 | []=>[]
 | _=>tk.tags
def CB:List (Nat×AV)→Dp→(Dp→Prog α)→Prog α
 | [],b,k=>k b
 | (n,a) :: l,b,k=>match b.k,b.x with
  | .st c,x=>match aO n c x with
   | some d=>xD d.1 a fun tk=>bif tk.k.beq d.1 then
     match cz n c x ⟨tk.k,tk.x⟩ with
     | some z=>CB l { k:=.st z.1,x:=z.2,bad:=tk.bad++b.bad,tags:=iK (tk.gL) b.tags,ws:=b.ws++tk.ws,keep:=tk.keep || b.keep,all:=tk.tags++b.all } k
     | none=>.fail
    else .fail
   | none=>.fail
  | _,_=>.fail
def Cm:List (Nat×Operand)→(List (Nat×AV)→Prog α)→Prog α
 | [],k=>k []
 | (n,x) :: l,k=>dN x fun a=>Cm l fun r=>k ((n,a) :: r)
def jL:List Operand→(List AV→Prog α)→Prog α
 | [],k=>k []
 | x :: l,k=>dN x fun a=>jL l fun r=>k (a :: r)
structure vG (kk:K) where
 xs:List (El kk)
 bad:List TypeId
 tags:List Tag
 ws:List Wr
 keep:Bool
 all:List Tag
def JI (kk:K):List (Nat×AV)→vG kk→(vG kk→Prog α)→Prog α
 | [],b,k=>k b
 | (n,a) :: l,b,k=>xD kk a fun tk=>match bP tk.k kk tk.x with
  | some y=>bif Nat.beq n (gH b.xs) then JI kk l { xs:=b.xs++[y],bad:=tk.bad++b.bad,tags:=iK (tk.gL) b.tags,ws:=b.ws++tk.ws,keep:=tk.keep || b.keep,all:=tk.tags++b.all } k else .fail
  | none=>.fail
def YN (e:TypeId) (kk:K) (a:AV) (k:vG kk→Prog α):Prog α:=match a with
 | .val .str s _=>match bP (.int .u8) kk (0:Int) with
  | some _=>match bP (.sl e (.int .u8)) (.sl e kk) (show List Int from s) with
   | some xs=>k ⟨xs,[],[],[],false,[]⟩
   | none=>.fail
  | none=>.fail
 | .iQ=>k ⟨[],[],[],[],false,[]⟩
 | .ref r g=>rX r fun R=>bif Nat.beq R.g g then
   match bP R.k (.sl e kk) R.x with
   | some xs=>bif kk.flat then k ⟨xs,[],[],[],false,[]⟩ else bif R.fixed then .fail else k ⟨xs,bif az e R.own then aU R.own kk else kk.tys,bif az e R.own && kk.tys.all (fun t=>az t R.own) then [] else R.tags,[.r r none],R.keep,R.tags⟩
   | none=>.fail
  else .fail
 | a=>uO a fun k' x tags=>match bP k' (.sl e kk) x with
   | some xs=>k ⟨xs,kk.tys,bif kk.flat then [] else tags,[],false,[]⟩
   | none=>.fail
def BC (T:iT) (d:Nat) (t:TypeId) (a b:AV) (k:List Wr→Prog α):Prog α:=
 match T.ty t with
 | some (.sl e kk)=>YN e kk b fun s=>bif az e s.bad then .fail else match a with
  | .iQ=>.uY (s.xs.length * T.bytes e≤140737488355328) inferInstance (iH (aY d 0)
    (k (s.ws++[.r (aY d 0) (some (aL (.sl e kk) s.xs (e :: bF kk.tys s.bad) s.tags .anon s.keep)), .s d (.one (.ref (aY d 0) 0))])))
  | .ref r g=>rX r fun R=>bif Nat.beq R.g g && !R.fixed && az e R.own && !(R.keep && !kk.tys.all (fun t=>!az t R.own || !az t s.bad)) && s.ws.all (fun w=>!w.loc.beq (.r r)) && Az s.ws R.tags then
    match bP R.k (.sl e kk) R.x with
    | some xs=>.uY (((show List (El kk) from xs).length+s.xs.length) * T.bytes e≤140737488355328) inferInstance
      (k (s.ws++[.r r (some { R with
        k:=.sl e kk,x:=(show List (El kk) from xs)++s.xs
        own:=bF R.own s.bad
        tags:=iK (w9 r s.tags) R.tags
        w:=e :: R.w,h:=qo :: e :: R.h,g:=R.g+1,keep:=R.keep || s.keep }), .s d (.one (.ref r (R.g+1)))]))
    | none=>.fail
   else .fail
  | .sM r p h=>rX r fun R=>bif Nat.beq R.wK h && p.all Stp.qH && (!p.isEmpty || R.isVar) && !R.fixed && az e R.own && !(R.keep && !kk.tys.all (fun t=>!az t R.own || !az t s.bad)) && s.ws.all (fun w=>!w.loc.beq (.r r)) && Az s.ws R.tags then
    match aQ p R.k R.x with
    | some dd=>match bP dd.1 (.sl e kk) dd.2,Co R p dd with
     | some xs,some R'=>.uY (((show List (El kk) from xs).length+s.xs.length) * T.bytes e≤140737488355328) inferInstance (iH (aY d 0)
       (k (s.ws++[.r r (some R'), .r (aY d 0) (some (aL (.sl e kk) ((show List (El kk) from xs)++s.xs)
          (bF ((e :: kk.tys).filter fun t=>az t R.own) s.bad) (iK s.tags R.tags) .anon (R.keep || s.keep))), .s d (.one (.ref (aY d 0) 0))])))
     | _,_=>.fail
    | none=>.fail
   else .fail
  | _=>.fail
 | _=>.fail
def ownRow (r g:Nat) (k:Root→(e:TypeId)→(kk:K)→List (El kk)→Prog α):Prog α:=rX r fun R=>bif Nat.beq R.g g then match R.k,R.x with
  | .sl e kk,xs=>bif kk.flat && az e R.own then k R e kk (show List (El kk) from xs) else .fail
  | _,_=>.fail
 else .fail
def TW (k0:K) (a:AV) (lo hi mx:Option Int) (k:AV→Prog α):Prog α:=match a with
 | .ref r g=>ownRow r g fun _ e kk xs=>bif (K.sl e kk).beq k0 then
   match mx with
   | none=>.uY (0≤lo.getD 0∧lo.getD 0≤hi.getD (xs.length:Int)∧hi.getD (xs.length:Int)≤(xs.length:Int)) inferInstance (k (.part r g (lo.getD 0).toNat (hi.getD (xs.length:Int)).toNat kk.size))
   | some m=>bif hi.isSome then .uY (0≤lo.getD 0∧lo.getD 0≤hi.getD 0∧hi.getD 0≤m∧m≤(xs.length:Int)) inferInstance (k .undef) else .fail
  else .fail
 | .part r g l0 h0 sz=>ownRow r g fun _ e kk xs=>bif (K.sl e kk).beq k0 && Nat.beq kk.size sz && mx.isNone then
   .uY (0≤lo.getD 0∧lo.getD 0≤hi.getD ((h0 - l0:Nat):Int)∧(l0:Int)+hi.getD ((h0 - l0:Nat):Int)≤(xs.length:Int)) inferInstance
    (k (.part r g (l0+(lo.getD 0).toNat) (l0+(hi.getD ((h0 - l0:Nat):Int)).toNat) sz))
  else .fail
 | _=>.fail
def Rt (k0:K) (a:AV) (k:List Wr→Prog α):Prog α:=match a with
 | .part r g lo hi sz=>ownRow r g fun R e kk xs=>bif (K.sl e kk).beq k0 && Nat.beq kk.size sz then
   k [.r r (some { R with k:=.sl e kk,x:=xs.take lo++List.replicate (hi - lo) kk.zero++xs.drop hi,w:=e :: R.w })]
  else .fail
 | _=>.fail
def Ru (k0:K) (d:Nat) (a b:AV) (k:List Wr→Prog α):Prog α:=match a,b with
 | .part r g l0 h0 sz, .part r' g' l1 h1 sz'=>ownRow r g fun R e kk xs=>bif (K.sl e kk).beq k0 && Nat.beq r r' && Nat.beq g g' && Nat.beq sz sz' && Nat.beq l0 0 && Nat.beq kk.size sz then
   .uY (h0≤l1) inferInstance (k [.r r (some { R with k:=.sl e kk,x:=xs.take h0++(xs.take h1).drop l1++xs.drop (h0+(h1 - l1)),w:=e :: R.w }), .s d (.one (.part r g 0 (h0+(h1 - l1)) sz))])
  else .fail
 | _,_=>.fail
def WW (k0:K) (d:Nat) (a b:AV) (k:List Wr→Prog α):Prog α:=match a with
 | .ref r g=>ownRow r g fun R e kk xs=>bif (K.sl e kk).beq k0 then YN e kk b fun s=>
   .uY (s.xs.length≤xs.length) inferInstance (k [.r r (some { R with k:=.sl e kk,x:=s.xs++xs.drop s.xs.length,w:=e :: R.w }), .s d (.one (.val (.int .i64) (s.xs.length:Int) []))])
  else .fail
 | _=>.fail
abbrev O5 (e:TypeId) (kk:K):K:=.st (.pair kk (.pair (.sl e (.gap kk.size)) .unit))
def PY:List Stp→List Int
 | []=>[]
 | .fJ _ :: p=>PY p
 | .idx i :: p=>i :: PY p
def vY:List Stp→List Stp→Bool
 | [],[]=>true
 | .fJ n :: p, .fJ m :: q=>Nat.beq n m && vY p q
 | .idx _ :: p, .idx _ :: q=>vY p q
 | _,_=>false
def ace (T:iT) (d:Nat) (t:TypeId) (a b:AV) (k:List Wr→Prog α):Prog α:=match T.ty t,a,b with
 | some (.sl e kk), .sM r p h, .ref rb gb=>rX rb fun B=>bif Nat.beq B.g gb && !B.fixed && !Nat.beq r rb && p.all Stp.qH && !az qo (K.sl e kk).tys && (K.sl e kk).tys.all (fun t=>az t B.own) then
   match bP B.k (.sl e kk) B.x with
   | some ys=>rX r fun R=>bif Nat.beq R.wK h && !R.fixed && (K.sl e kk).tys.all (fun t=>az t R.own) && R.tags.all (fun t=>!Nat.beq t.1 rb) then
     match aQ p R.k R.x with
     | some dd=>match bP dd.1 (.sl e kk) dd.2 with
      | some xs=>match dX p R.k R.x dd with
       | some z=>.uY ((show List (El kk) from ys).length=1∧((show List (El kk) from xs).length+1) * T.bytes e≤140737488355328) inferInstance (iH (aY d 0)
         (k [.r rb none, .r r (some { R with k:=z.1,x:=z.2,w:=e :: R.w,h:=(K.sl e kk).tys++R.h }), .r (aY d 0) (some (aL (O5 e kk) ((show List (El kk) from ys).getD 0 kk.zero,(([]:List Unit),())) (e :: kk.tys) [] .anon)),
          .s d (.one (.app r p (gH (e :: R.w)+gH ((K.sl e kk).tys++R.h)) (aY d 0)))]))
       | none=>.fail
      | none=>.fail
     | none=>.fail
    else .fail
   | none=>.fail
  else .fail
 | _,_,_=>.fail
def FD (k0:K) (a:AV) (r:Nat) (p:List Stp) (n q:Nat) (k:List Wr→Prog α):Prog α:=match k0,a with
 | .sl e kk, .ptr r' p' h=>bif Nat.beq r r' && vY p p' && p.all Stp.qH && !Nat.beq r q then rX q fun Q=>bif Nat.beq Q.wK 0 && (e :: kk.tys).all (fun t=>az t Q.own) then
    match bP Q.k (O5 e kk) Q.x with
    | some y=>rX r fun R=>bif Nat.beq R.wK n && !R.fixed && clean R.h h (dY p' R.k) && (K.sl e kk).tys.all (fun t=>az t R.own) && R.tags.all (fun t=>!Nat.beq t.1 q) then
      match aQ p R.k R.x with
      | some dd=>match bP dd.1 (.sl e kk) dd.2 with
       | some xs=>match dX p R.k R.x ⟨.sl e kk,(show List (El kk) from xs)++[(show El kk from y.1)]⟩ with
        | some z=>k [.r q none, .r r (some { R with k:=z.1,x:=z.2,w:=eP R p :: e :: R.w,h:=(K.sl e kk).tys++R.h })]
        | none=>.fail
       | none=>.fail
      | none=>.fail
     else .fail
    | none=>.fail
   else .fail
  else .fail
 | _,_=>.fail
def FK (k0:K) (a:AV) (r:Nat) (p:List Stp) (n m:Nat) (k:List Wr→Prog α):Prog α:=match k0,a with
 | .sl e kk, .ptr r' p' h=>bif Nat.beq r r' && vY p p' then .uY (PY p=PY p') inferInstance (rX r fun R=>bif Nat.beq R.wK n && !R.fixed && clean R.h h (dY p' R.k) && (K.sl e kk).tys.all (fun t=>az t R.own) then
      match aQ p R.k R.x with
      | some dd=>match bP dd.1 (.sl e kk) dd.2 with
       | some xs=>match dX p R.k R.x ⟨.sl e kk,(show List (El kk) from xs).take m⟩ with
        | some z=>k [.r r (some { R with k:=z.1,x:=z.2,w:=eP R p :: (K.sl e kk).tys++R.w,h:=(K.sl e kk).tys++R.h })]
        | none=>.fail
       | none=>.fail
      | none=>.fail
     else .fail)
  else .fail
 | _,_=>.fail
end
end
section
open Go
def Cont.fst:(ks ls:List K)→Cont (ks++ls)→Cont ks
 | [],_,_=>()
 | _ :: ks,ls,c=>(c.1,Cont.fst ks ls c.2)
def Cont.snd:(ks ls:List K)→Cont (ks++ls)→Cont ls
 | [],_,c=>c
 | _ :: ks,ls,c=>Cont.snd ks ls c.2
abbrev SENT:Nat:=4294967295
structure cK where
 ids:List Tag
 wb:Option (Nat×List Stp×List TypeId×List TypeId)
 ws:List Wr
 bt:List TypeId:=[]
def idxOf:(p:List (Option Nat))→List Stp→Option (Cont (dG.into 0 p).kin)
 | [],[]=>some ()
 | some n :: p, .fJ m :: q=>bif Nat.beq n m then idxOf p q else none
 | none :: p, .idx i :: q=>match idxOf p q with
  | some c=>some (i,c)
  | none=>none
 | _,_=>none
def pathOf:(p:List (Option Nat))→Cont (dG.into 0 p).kin→List Stp
 | [],_=>[]
 | some n :: p,c=>.fJ n :: pathOf p c
 | none :: p,c=>.idx c.1 :: pathOf p c.2
section
variable {α:Type}
def oL (k:K) (own ow:List TypeId):Bool:=k.tys.all fun t=>az t own == az t ow
def Tu:(ks:List K)→List (TypeId×Dat×List Tag)→(Cont ks→List Tag→Prog α)→Prog α
 | [],[],k=>k () []
 | kk :: ks,(t,d,tags) :: l,k=>nO tags (t :: d.1.tys) (match bP d.1 kk d.2 with
  | some x=>Tu ks l fun c ts=>k (x,c) (iK tags ts)
  | none=>.fail)
 | _,_,_=>.fail
def jM:(ps:List dG)→List AV→(Cont (kin ps)→List cK→Prog α)→Prog α
 | [],[],k=>k () []
 | .val kk _ :: ps,a :: l,k=>
  let go (x:El kk) (tags:List Tag):Prog α:=jM ps l fun c is=>k (x,c) (⟨tags,none,[],[]⟩ :: is)
  match a with
  | .iQ=>match kk,go with
   | .sl _ _,go=>go [] []
   | _,_=>.fail
  | a=>uO a fun k' x tags=>match bP k' kk x with
   | some y=>go y (bif kk.flat then [] else tags)
   | none=>.fail
 | .ro kk :: ps,a :: l,k=>
  let go (d:Dat) (tags:List Tag):Prog α:=match bP d.1 kk d.2 with
   | some y=>jM ps l fun c is=>k (y,c) (⟨tags,none,[],[]⟩ :: is)
   | none=>.fail
  addrOf a (fun R r _ d=>go d ((r,gH R.w) :: R.tags)) (fun _ d tags=>go d tags)
 | .rw kk ow wt ht :: ps,a :: l,k=>match a with
  | .ptr r p h=>rX r fun R=>bif clean R.h h (dY p R.k) && IB p R then
    match aQ p R.k R.x with
    | some d=>match bP d.1 kk d.2 with
     | some y=>bif oL kk R.own ow then jM ps l fun c is=>k (y,c) (⟨R.tags,some (r,p,wt,ht),[],[eP R p]⟩ :: is) else .fail
     | none=>.fail
    | none=>.fail
   else .fail
  | _=>.fail
 | .jK kk ow wt :: ps,a :: l,k=>
  let go (R:Root) (r:Nat) (p:List Stp) (d:Dat):Prog α:=match bP d.1 kk d.2 with
   | some y=>bif oL kk R.own ow then jM ps l fun c is=>k (y,c) (⟨R.tags,some (r,p,wt,kk.tys),[],[]⟩ :: is) else .fail
   | none=>.fail
  match a with
  | .sM r p h=>rX r fun R=>bif Nat.beq R.wK h then
    match aQ p R.k R.x with
    | some d=>go R r p d
    | none=>.fail
   else .fail
  | .ref r g=>rX r fun R=>bif Nat.beq R.g g then go R r [] ⟨R.k,R.x⟩ else .fail
  | _=>.fail
 | .own kk ow :: ps,a :: l,k=>xD kk a fun tk=>match bP tk.k kk tk.x with
  | some y=>bif oL kk tk.own ow then jM ps l fun c is=>k (y,c) (⟨tk.tags,none,tk.ws,[]⟩ :: is) else .fail
  | none=>.fail
 | .fn f ks :: ps,a :: l,k=>match a with
  | .fn f' caps=>bif Nat.beq f f' then Tu ks caps fun c tags=>jM ps l fun c' is=>k (Cont.app ks (kin ps) c c') (⟨tags,none,[],[]⟩ :: is) else .fail
  | _=>.fail
 | .into _ [] :: ps,a :: l,k=>match a with
  | .iQ=>jM ps l fun c is=>k c (⟨[],none,[],[]⟩ :: is)
  | _=>.fail
 | _,_,_=>.fail
def cK.touched (i:cK):List Nat:=(match i.wb with | some (r,_)=>[r] | none=>[])++i.ws.flatMap Wr.tX
def Eo:List cK→Bool
 | []=>true
 | i :: l=>match i.wb with
  | some _=>l.all fun j=>j.wb.isNone
  | none=>Eo l
def zZ (r:Nat):List cK→Nat→Option Nat
 | [],_=>none
 | i :: is,n=>match i.wb with
  | some (r',_)=>bif Nat.beq r r' then some n else zZ r is (n+1)
  | none=>zZ r is (n+1)
def xH (is:List cK):List dG→List cK→Bool
 | .val k ig :: ps,i :: l=>(ig.all fun j=>match is[j]? with | some q=>q.wb.isSome | none=>false) && i.ids.all (fun t=>match zZ t.1 is 0 with
   | some n=>az n ig && (match is[n]? with
     | some j=>j.bt.all fun b=>!az b k.tys
     | none=>false)
   | none=>!az t.1 (is.flatMap fun j=>j.ws.flatMap Wr.tX)) && xH is ps l
 | _ :: ps,i :: l=>i.ids.all (fun t=>!az t.1 (is.flatMap cK.touched)) && xH is ps l
 | [],[]=>true
 | _,_=>false
def Jj:(ps:List dG)→List cK→Cont (kD ps)→(List Wr→Prog α)→Prog α
 | [],[],_,k=>k []
 | .rw kk _ _ _ :: ps,⟨_,some (r,p,wt,ht),_,_⟩ :: is,c,k=>.root r fun
  | some R=>match dX p R.k R.x ⟨kk,c.1⟩ with
   | some z=>Jj ps is c.2 fun ws=>k (.r r (some { R with k:=z.1,x:=z.2,w:=(eP R p :: wt)++R.w,h:=ht++R.h }) :: ws)
   | none=>.fail
  | none=>.fail
 | .jK kk _ _ :: ps,⟨_,some (r,p,wt,ht),_,_⟩ :: is,c,k=>.root r fun
  | some R=>match dX p R.k R.x ⟨kk,c.1⟩ with
   | some z=>Jj ps is c.2 fun ws=>k (.r r (some { R with k:=z.1,x:=z.2,w:=(SENT :: (kk.tys++wt))++R.w,h:=ht++R.h }) :: ws)
   | none=>.fail
  | none=>.fail
 | .val _ _ :: ps,_ :: is,c,k | .ro _ :: ps,_ :: is,c,k | .own _ _ :: ps,_ :: is,c,k | .fn _ _ :: ps,_ :: is,c,k | .into _ _ :: ps,_ :: is,c,k=>Jj ps is c k
 | _,_,_,_=>.fail
def Qh (ws:List Wr):List Nat→(List Tag→Prog α)→Prog α
 | [],k=>k []
 | r :: l,k=>bif fI r then Qh ws l fun ts=>k ((r,0) :: ts) else
  match ws.find? (fun w=>w.loc.beq (.r r)) with
  | some (.r _ (some R))=>Qh ws l fun ts=>k ((r,gH R.w) :: ts)
  | some _=>.fail
  | none=>.root r fun
   | some R=>Qh ws l fun ts=>k ((r,gH R.w) :: ts)
   | none=>.fail
def Eb (is:List cK) (exts ig:List Nat):List Nat:=
 exts.flatMap (fun j=>match is[j]? with | some i=>i.ids.map (·.1) | none=>[])++
 ig.flatMap (fun j=>match is[j]? with
  | some i=>match i.wb with
   | some q=>[q.1]
   | none=>[]
  | none=>[])
def xP:List Nat→List Nat
 | []=>[]
 | n :: l=>bif az n l then xP l else n :: xP l
def yN (d:Nat) (is:List cK) (ws:List Wr):(rs:List lU)→(c:Nat)→Cont (iB rs)→(List AV→List Wr→Prog α)→Prog α
 | [],_,_,k=>k [] []
 | .val kk exts ig :: rs,c,x,k=>Qh ws (bif kk.flat then [] else xP (Eb is exts ig)) fun tags=>
   yN d is ws rs (c+1) x.2 fun as ws'=>k (.val kk x.1 tags :: as) ws'
 | .own kk ow exts ig :: rs,c,x,k=>Qh ws (bif kk.tys.all (fun t=>az t ow) then [] else xP (Eb is exts ig)) fun tags=>
   iH (aY d c) (yN d is ws rs (c+1) x.2 fun as ws'=>k (.ref (aY d c) 0 :: as) (.r (aY d c) (some (aL kk x.1 ow tags .anon)) :: ws'))
 | .ptr t kk ow exts :: rs,c,x,k=>Qh ws (bif kk.tys.all (fun t=>az t ow) then [] else xP (Eb is exts [])) fun tags=>
   iH (aY d c) (yN d is ws rs (c+1) x.2 fun as ws'=>k (.ptr (aY d c) [] 0 :: as) (.r (aY d c) (some (aL kk x.1 ow tags (.var t))) :: ws'))
 | .into j p :: rs,c,x,k=>bif Nat.beq c 0 && p.isEmpty && rs.isEmpty then match is[j]? with
   | some i=>match i.wb with
    | some (r,q,_,ht)=>match ws.find? (fun w=>w.loc.beq (.r r)) with
     | some (.r _ (some R))=>bif az qo ht then .fail else k [.xU r q (gH R.w+gH R.h) (show Int from x.1).toNat] []
     | _=>.fail
    | none=>.fail
   | none=>.fail
  else .fail
def WO:List AV→xJ
 | [a]=>.one a
 | l=>.KX l
def WT (n:Nat) (E:Entry) (dst:Option Nat) (Me:List AV) (k:List Wr→Prog α):Prog α:=
 jM E.ps Me fun c is=>bif FC (is.flatMap cK.touched) && Eo is && xH is E.ps is then
  .opt _ (E.F n c) fun out=>Jj E.ps is (Cont.snd (iB E.rs) (kD E.ps) out) fun ws=>
   match dst with
   | some d=>yN d is ws E.rs 0 (Cont.fst (iB E.rs) (kD E.ps) out) fun as ws'=>k (is.flatMap cK.ws++ws++ws'++[.s d (WO as)])
   | none=>k (is.flatMap cK.ws++ws)
 else .fail
def uj (f d:Nat):List (Nat×Option Nat×Entry)→Option Entry
 | []=>none
 | (g,none,E) :: l=>bif Nat.beq f g then some E else uj f d l
 | (g,some e,E) :: l=>bif Nat.beq f g && Nat.beq d e then some E else uj f d l
def VE (mx:Bool):IntKind→Int→List AV→(Int→Prog α)→Prog α
 | _,x,[],k=>k x
 | ik,x, .val (.int jk) y _ :: l,k=>bif zX ik jk then VE mx ik (if mx then (if y>x then y else x) else (if y<x then y else x)) l k else .fail
 | _,_,_,_=>.fail
def WV (T:iT) (d:Nat) (src dst:TypeId) (a:AV) (k:List Wr→Prog α):Prog α:=match T.ty src,T.ty dst with
 | some _,some (.int ik)=>match a with
  | .val (.int _) n _=>k [.s d (v1 (.int ik) (ik.wrap n))]
  | _=>.fail
 | some .str,some .str=>match a with
  | .val .str s _=>k [.s d (v1 .str s)]
  | _=>.fail
 | some (.sl _ (.int .u8)),some .str=>match a with
  | .iQ=>k [.s d (v1 .str [])]
  | a=>uO a fun kk x _=>match kk,x with
   | .sl _ (.int .u8),xs=>k [.s d (v1 .str xs)]
   | _,_=>.fail
 | some .str,some (.sl e (.int .u8))=>match a with
  | .val .str s _=>iH (aY d 0) (k [.r (aY d 0) (some (aL (.sl e (.int .u8)) s [e] [] .anon)), .s d (.one (.ref (aY d 0) 0))])
  | _=>.fail
 | _,_=>.fail
def UG:List AV→(List (TypeId×Dat×List Tag)→Prog α)→Prog α
 | [],k=>k []
 | a :: l,k=>addrOf a
   (fun R r p d=>bif Nat.beq (eP R p) SENT then .fail else UG l fun cs=>k ((eP R p,d,(r,gH R.w) :: R.tags) :: cs))
   (fun bt d tags=>UG l fun cs=>k ((bt,d,tags) :: cs))
def SA (k0:K) (a:AV) (lo hi:Option Int) (k:AV→Prog α):Prog α:=match a with
 | .val .str s _=>bif !k0.beq .str then .fail else
  let n:=(show List Int from s).length
  match lo,hi with
  | none,none=>k (.val .str s [])
  | some l,none=>.uY (0≤l∧l≤(n:Int)) inferInstance (k (.val .str ((show List Int from s).drop l.toNat) []))
  | none,some h=>.uY (0≤h∧h≤(n:Int)) inferInstance (k (.val .str ((show List Int from s).take h.toNat) []))
  | some l,some h=>.uY (0≤l∧l≤h∧h≤(n:Int)) inferInstance (k (.val .str (((show List Int from s).take h.toNat).drop l.toNat) []))
 | a=>uO a fun kk x tags=>match kk,x with
  | .sl e kk,xs=>bif !k0.beq (.sl e kk) then .fail else
   let xs:=(show List (El kk) from xs)
   match lo,hi with
   | none,none=>k (.val (.sl e kk) xs tags)
   | some l,none=>.uY (0≤l∧l≤(xs.length:Int)) inferInstance (k (.val (.sl e kk) (xs.drop l.toNat) tags))
   | none,some h=>.uY (0≤h∧h≤(xs.length:Int)) inferInstance (k (.val (.sl e kk) (xs.take h.toNat) tags))
   | some l,some h=>.uY (0≤l∧l≤h∧h≤(xs.length:Int)) inferInstance (k (.val (.sl e kk) ((xs.take h.toNat).drop l.toNat) tags))
  | _,_=>.fail
def H6 (x:Option Operand) (k:Option Int→Prog α):Prog α:=match x with
 | none=>k none
 | some y=>dN y fun a=>asInt a fun _ i=>k (some i)
def isZero:Option Operand→Bool
 | some (.const (.int _ 0))=>true
 | _=>false
def Tt (hi:Hint) (n:Nat) (dst:Option Nat) (c:Call) (k:List Wr→Prog α):Prog α:=match c.callee with
 | .value f=>dN f fun
  | .fn f caps=>jL c.args.toList fun l=>match uj f (dst.getD 0) hi.calls with
   | some E=>bif Nat.beq E.f f then WT n E dst (l++caps.map fun (t,dd,tags)=>.iZ t dd.1 dd.2 tags) k else .fail
   | none=>.fail
  | _=>.fail
 | _=>.fail
def vQ (d:Nat):List (Nat×List TypeId)→List TypeId
 | []=>[]
 | (e,l) :: m=>bif Nat.beq d e then l else vQ d m
def TN (hi:Hint) (d:Nat) (k:K):List TypeId:=match vQ d hi.less with
 | []=>k.tys
 | l=>bF k.tys l
def Dk {A:Type}:Nat→List A→List (Nat×A)
 | _,[]=>[]
 | i,a :: l=>(i,a) :: Dk (i+1) l
def Yf:K→List (Nat×AV)→Nat→Prog α→Prog α
 | .pair kk r,(n,a) :: l,i,p=>bif Nat.beq n i then xD kk a fun tk=>bif tk.k.beq kk then Yf r l (i+1) p else .fail else .fail
 | .unit,[],_,p=>p
 | _,_,_,_=>.fail
def KU (T:iT) (o:Oper) (d:Nat) (k:List Wr→Prog α):Prog α:=match o.op with
 | .slice t x lo hi mx=>match T.ty t with
  | some kk=>dN x fun a=>H6 lo fun lo=>H6 hi fun hi=>H6 mx fun mx=>TW kk a lo hi mx fun u=>k [.s d (.one u)]
  | none=>.fail
 | .call c=>match c.callee with
  | .builtin .len=>jL c.args.toList fun
   | [.part _ _ lo hi _]=>match (c.argTypes[0]?).bind T.ty with
    | some (.sl _ _)=>k [.s d (.one (.val (.int .i64) ((hi - lo:Nat):Int) []))]
    | _=>.fail
   | _=>.fail
  | .builtin .append=>jL c.args.toList fun
   | [a,b]=>match (c.argTypes[0]?).bind T.ty,(c.argTypes[1]?).bind T.ty with
    | some (.sl e0 k0),some (.sl _ _)=>Ru (.sl e0 k0) d a b k
    | _,_=>.fail
   | _=>.fail
  | .builtin .copy=>jL c.args.toList fun
   | [a,b]=>match (c.argTypes[0]?).bind T.ty,(c.argTypes[1]?).bind T.ty with
    | some (.sl e0 k0),some (.sl _ _)=>WW (.sl e0 k0) d a b k
    | _,_=>.fail
   | _=>.fail
  | _=>.fail
 | .build t ps=>match T.ty t with
  | some (.st c)=>Cm ps.toList fun l=>Yf c l 0 (k [.s d (.lit t c (l.map (·.2)))])
  | _=>.fail
 | _=>.fail
def ada (T:iT) (s:Nat) (k:List Wr→Prog α):Prog α:=.slot s fun
 | .lit t c l=>bif (match T.ty t with | some kk=>kk.beq (.st c) | none=>false) then CB (Dk 0 l) ⟨.st c,(K.st c).zero,[],[],[],false,[]⟩ fun b=>
   bif !ER b.ws b.all then .fail else iH (aY s 1) (k (b.ws++[.r (aY s 1) (some (aL b.k b.x (bF b.k.tys b.bad) b.tags .anon b.keep)), .s s (.one (.ref (aY s 1) 0))]))
  else .fail
 | _=>.fail
def Bf:List Stp→List Stp→Bool
 | [.fJ i],[.fJ j]=>!Nat.beq i j
 | _,_=>false
def freshen (r:Nat) (p:List Stp) (v v':Nat):AV→AV
 | .sM q p' n=>bif Nat.beq r q && Nat.beq n v && Bf p p' then .sM q p' v' else .sM q p' n
 | a=>a
def RX (r:Nat) (p:List Stp) (v:Nat):List Wr→AV→AV
 | [.r _ (some R)]=>freshen r p v R.wK
 | _=>fun a=>a
def SB (s s2:Nat) (k:List Wr→Prog α):Prog α:=.slot s fun
 | .one (.sM r p v)=>xD .unit (.sM r p v) fun tk=>bif Nat.beq s s2 || tk.ws.isEmpty then .fail else iH (aY s 1) (.slot s2 fun
  | .lit t c l=>k (tk.ws++[.r (aY s 1) (some (aL tk.k tk.x tk.own tk.gL .anon tk.keep)), .s s (.one (.ref (aY s 1) 0)), .s s2 (.lit t c (l.map (RX r p v tk.ws)))])
  | _=>.fail)
 | _=>.fail
def shares (r:Nat) (l:List AV):Bool:=l.any fun
 | .sM q _ _=>Nat.beq r q
 | _=>false
def splits (s2:Nat):List (Nat×Operand)→Prog (List Wr)
 | []=>.ret []
 | (_, .tmp s) :: l=>.slot s fun
  | .one (.sM r _ _)=>.slot s2 fun
   | .lit _ _ m=>bif shares r m then aaq (SB s s2 .ret) (splits s2 l) else splits s2 l
   | _=>.fail
  | _=>splits s2 l
 | _ :: l=>splits s2 l
def BG:List (Nat×Operand)→(Nat→Prog α)→Prog α
 | [],_=>.fail
 | (_, .tmp s) :: l,k=>.slot s fun
  | .lit _ _ _=>k s
  | _=>BG l k
 | _ :: l,k=>BG l k
def acg (T:iT) (d:Nat) (t:TypeId) (ps:Array (Nat×Operand)):Prog (List Wr):=match T.ty t with
 | some (.st c)=>Cm ps.toList fun l=>CB l ⟨.st c,(K.st c).zero,[],[],[],false,[]⟩ fun b=>bif !ER b.ws b.all then .fail else bif b.k.tys.all fun t=>az t b.bad then
   .ret (b.ws++[.s d (.one (.val b.k b.x b.tags))])
  else iH (aY d 0) (.ret (b.ws++[.r (aY d 0) (some (aL b.k b.x (bF b.k.tys b.bad) b.tags .anon b.keep)), .s d (.one (.ref (aY d 0) 0))]))
 | _=>.fail
def M3 (T:iT) (d:Nat) (t:TypeId) (ps:Array (Nat×Operand)):Prog (List Wr):=
 BG ps.toList fun s=>aaq (splits s ps.toList) (aaq (ada T s .ret) (acg T d t ps))
def Oy (T:iT) (o:Oper) (d:Nat) (k:List Wr→Prog α):Prog α:=match o.op with
 | .build t ps=>(M3 T d t ps).bind k
 | .call c=>match c.callee with
  | .builtin .append=>jL c.args.toList fun
   | [a,b]=>match c.argTypes[0]?,(c.argTypes[1]?).bind T.ty with
    | some t,some (.sl _ _)=>ace T d t a b k
    | _,_=>.fail
   | _=>.fail
  | _=>.fail
 | .load t x=>dN x fun a=>Eg T true t a fun u=>match T.ty t with
  | some kk=>xD kk u fun tk=>iH (aY d 0) (k (tk.ws++[Wr.r (aY d 0) (some (aL tk.k tk.x tk.own tk.gL .anon tk.keep)),Wr.s d (.one (.ref (aY d 0) 0))]))
  | none=>.fail
 | _=>.fail
def SG (T:iT) (t:TypeId) (a v:AV) (k:List Wr→Prog α):Prog α:=match v with
 | .xU r p n m=>match T.ty t with
  | some k0=>FK k0 a r p n m k
  | none=>.fail
 | .app r p n q=>match T.ty t with
  | some k0=>FD k0 a r p n q k
  | none=>.fail
 | v=>SF T t a v k
def abo (T:iT) (hi:Hint) (n:Nat) (o:Oper) (k:List Wr→Prog α):Prog α:=match o.op with
 | .store t x v=>dN x fun a=>dN v fun v=>SG T t a v k
 | .call c=>match c.callee with
  | .builtin .clear=>jL c.args.toList fun
   | [a]=>match (c.argTypes[0]?).bind T.ty with
    | some (.sl e0 k0)=>Rt (.sl e0 k0) a k
    | _=>.fail
   | _=>.fail
  | _=>Tt hi n none c k
 | _=>.fail
def abn (T:iT) (hi:Hint) (n:Nat) (o:Oper) (d:Nat) (k:List Wr→Prog α):Prog α:=
 let put (a:AV):Prog α:=k [.s d (.one a)]
 match o.op with
 | .move x=>uJ x fun a=>k [.s d a]
 | .assign x=>uJ x fun
  | .one .iQ=>match T.ty o.type with
   | some (.sl e kk)=>.root (aY d 0) fun
    | none=>k [.r (aY d 0) (some (aL (.sl e kk) [] (e :: TN hi d kk) [] .anon)), .s d (.one (.ref (aY d 0) 0))]
    | some _=>k [.s d (.one .iQ)]
   | _=>.fail
  | a=>k [.s d a]
 | .pick c a b=>dN c fun c=>asBool c fun c=>uJ a fun a=>uJ b fun b=>.br c (k [.s d a]) (k [.s d b])
 | .alloc t=>match T.ty t with
  | some kk=>iH (aY d 0) (k [.r (aY d 0) (some (aL kk kk.zero kk.tys [] (.var t))), .s d (.one (.ptr (aY d 0) [] 0))])
  | none=>.fail
 | .box t x=>match T.ty t with
  | some kk=>dN x fun a=>ZC a kk (fun r g=>put (.JA r g kk [])) <| xD kk a fun tk=>bif tk.k.beq kk && !az t tk.bad then
    iH (aY d 0) (k (tk.ws++[.r (aY d 0) (some (aL tk.k tk.x tk.own tk.gL (.var t) tk.keep)), .s d (.one (.ptr (aY d 0) [] 0))]))
   else .fail
  | none=>.fail
 | .load t x=>dN x fun a=>Eg T (az d hi.ajm) t a put
 | .nilCheck x=>dN x fun
  | .ptr r p h=>put (.ptr r p h)
  | .iZ bt kk y tags=>put (.iZ bt kk y tags)
  | _=>.fail
 | .binOp op t x y _=>Ri T t op x y fun v=>k [.s d v]
 | .unOp op _ x=>dN x fun a=>unP op a fun v=>k [.s d v]
 | .convert s t x=>dN x fun a=>WV T d s t a k
 | .field t x f=>match T.ty t with
  | some kk=>dN x fun a=>JO kk a f put
  | none=>.fail
 | .fieldAddr t x f=>match T.ty t with
  | some kk=>dN x fun a=>vP kk a f put
  | none=>.fail
 | .indexAddr t x i=>match T.ty t with
  | some kk=>dN x fun a=>dN i fun i=>asInt i fun _ i=>vR kk a i put
  | none=>.fail
 | .index t x i=>dN x fun a=>dN i fun i=>asInt i fun _ i=>match T.ty t,a with
  | some .str, .val .str s _=>.uY (aJ i (show List Int from s).length) inferInstance (put (.val (.int .u8) ((show List Int from s).getD i.toNat 0) []))
  | _,_=>.fail
 | .extract x i=>uJ x fun
  | .KX l=>match l[i]? with
   | some a=>put a
   | none=>.fail
  | _=>.fail
 | .build t ps=>match T.ty t with
  | some (.st c)=>Cm ps.toList fun l=>CB l ⟨.st c,(K.st c).zero,[],[],[],false,[]⟩ fun b=>bif !ER b.ws b.all then .fail else bif b.k.tys.all fun t=>az t b.bad then
    k (b.ws++[.s d (.one (.val b.k b.x b.tags))])
   else iH (aY d 0) (k (b.ws++[.r (aY d 0) (some (aL b.k b.x (bF b.k.tys b.bad) b.tags .anon b.keep)), .s d (.one (.ref (aY d 0) 0))]))
  | _=>.fail
 | .buildSlice t len ps=>match T.ty t with
  | some (.sl e kk)=>Cm ps.toList fun l=>JI kk l ⟨[],[],[],[],false,[]⟩ fun b=>bif !(ER b.ws b.all && Nat.ble (len * kk.size) 16777216) then .fail else bif Nat.beq (gH b.xs) len && !az e b.bad then
    iH (aY d 0) (k (b.ws++[.r (aY d 0) (some (aL (.sl e kk) b.xs (e :: bF (TN hi d kk) b.bad) b.tags .anon b.keep)), .s d (.one (.ref (aY d 0) 0))]))
   else bif Nat.beq (gH b.xs) 0 then
    iH (aY d 0) (k [.r (aY d 0) (some (aL (.sl e kk) (List.replicate len kk.zero) (e :: kk.tys) [] .anon)), .s d (.one (.ref (aY d 0) 0))])
   else .fail
  | _=>.fail
 | .makeSlice t x y=>match T.ty t with
  | some (.sl e kk)=>dN x fun a=>dN y fun b=>asInt a fun ik i=>asInt b fun jk j=>bif zX ik .i64 && zX jk .i64 then
    .uY (i=j∧0≤i∧i * T.bytes e≤140737488355328) inferInstance (iH (aY d 0)
     (k [.r (aY d 0) (some (aL (.sl e kk) (List.replicate i.toNat kk.zero) (e :: kk.tys) [] .anon)), .s d (.one (.ref (aY d 0) 0))]))
   else .fail
  | _=>.fail
 | .makeFunc (.func f) first caps=>bif first.isEmpty then jL caps.toList fun l=>UG l fun cs=>put (.fn f cs) else .fail
 | .slice t x lo hi mx=>match T.ty t with
  | some kk=>bif isZero lo && isZero hi && isZero mx then match kk with
    | .sl _ _=>dN x fun
     | .iQ=>put .iQ
     | a=>uO a fun k' _ _=>bif k'.beq kk then put .iQ else .fail
    | _=>.fail
   else match mx with
    | none=>dN x fun a=>H6 lo fun lo=>H6 hi fun hi=>SA kk a lo hi put
    | some _=>.fail
  | none=>.fail
 | .call c=>match c.callee with
  | .builtin .len=>jL c.args.toList fun
   | [.iQ]=>match (c.argTypes[0]?).bind T.ty with
    | some (.sl _ _)=>put (.val (.int .i64) 0 [])
    | _=>.fail
   | [.val .str s _]=>match (c.argTypes[0]?).bind T.ty with
    | some .str=>put (.val (.int .i64) ((show List Int from s).length:Int) [])
    | _=>.fail
   | [a]=>match (c.argTypes[0]?).bind T.ty with
    | some (.sl _ _)=>uO a fun kk x _=>match kk,x with
     | .sl _ kk,xs=>put (.val (.int .i64) ((show List (El kk) from xs).length:Int) [])
     | _,_=>.fail
    | _=>.fail
   | _=>.fail
  | .builtin .append=>jL c.args.toList fun
   | [a,b]=>match c.argTypes[0]?,(c.argTypes[1]?).bind T.ty with
    | some t,some (.sl _ _)=>BC T d t a b k
    | some t,some .str=>BC T d t a b k
    | _,_=>.fail
   | _=>.fail
  | .builtin .min=>jL c.args.toList fun
   | .val (.int ik) x _ :: l=>VE false ik x l fun z=>put (.val (.int ik) z [])
   | _=>.fail
  | .builtin .max=>jL c.args.toList fun
   | .val (.int ik) x _ :: l=>VE true ik x l fun z=>put (.val (.int ik) z [])
   | _=>.fail
  | .value _=>Tt hi n (some d) c k
  | _=>.fail
 | _=>.fail
def GX (T:iT) (hi:Hint) (n:Nat) (o:Oper) (k:List Wr→Prog α):Prog α:=match o.dst with
 | some d=>bif Nat.blt d hi.nt then (bif az d hi.parts then KU T o d k else bif az d hi.apps then Oy T o d k else abn T hi n o d k) else .fail
 | none=>abo T hi n o k
end
variable {R:Type}
def refine (σ:St) (s:Nat) (b:Bool) (T:List Tag):St:={ σ with slots:=upd σ.slots s (.one (.val .bool b T)) }
def guardOf (ops:Array Oper) (o:Oper):Option (Option Nat×Bool):=match o.guard with
 | none=>none
 | some (g,want)=>some ((ops[g]?).bind (·.dst),want)
def guarded (σ:St) (ops:Array Oper) (o:Oper) (go:List Loc→St→Option R) (skip:List Loc→St→Option R):Option R:=match guardOf ops o with
 | none=>go [] σ
 | some (some s,want)=>match σ.slots s with
  | .one (.val .bool b T)=>if b=true then (bif want then go [.s s] (refine σ s true T) else skip [.s s] (refine σ s true T))
    else (bif want then skip [.s s] (refine σ s false T) else go [.s s] (refine σ s false T))
  | .KX []=>skip [.s s] σ
  | _=>none
 | some (none,_)=>none
def JF (hi:Hint) (o:Oper):Bool:=match o.dst with
 | some d=>Nat.blt d hi.nt
 | none=>true
def GV (o:Oper):List Wr:=match o.dst with
 | some d=>[.s d (.KX [])]
 | none=>[]
def D5 (T:iT) (hi:Hint) (n:Nat) (ops:Array Oper):List Oper→St→(St→Option R)→Option R
 | [],σ,K=>K σ
 | o :: l,σ,K=>guarded σ ops o
   (fun _ σ=>(GX T hi n o .ret).run σ fun ws=>D5 T hi n ops l (aB ws σ) K)
   (fun _ σ=>bif JF hi o then D5 T hi n ops l (aB (GV o) σ) K else none)
structure Eff where
 i:Nat
 rd:List Loc
 wr:List Loc
def VB (x:Loc):List Loc→Bool
 | []=>false
 | y :: l=>bif x.beq y then true else VB x l
def Nu (a b:List Loc):Bool:=a.all fun x=>!VB x b
def binders (ops:Array Oper) (i:Nat):List Nat:=((((ops[i]?).getD default).after.toList.filter (Region.binds .any)).map (·.on))
def leads (ops:Array Oper):Nat→Nat→Nat→Bool
 | 0,_,_=>false
 | f+1,j,i=>az j (binders ops i) || (binders ops i).any fun b=>Nat.blt j b && leads ops f j b
def Gw (ops:Array Oper) (e:Eff) (l:List Eff):Bool:=
 (binders ops e.i).all (fun b=>Nat.blt b e.i) && l.all fun b=>az b.i (binders ops e.i) || ((Nu b.wr (e.rd++e.wr) && Nu b.rd e.wr) || leads ops 6 b.i e.i)
def JL (T:iT) (hi:Hint) (n:Nat) (ops:Array Oper):List Oper→Nat→List Eff→St→(St→Option R)→Option R
 | [],_,_,σ,K=>K σ
 | o :: l,i,es,σ,K=>guarded σ ops o
   (fun g σ=>(GX T hi n o .ret).Ik σ g fun ws rd=>
    bif Gw ops ⟨i,rd,ws.map Wr.loc⟩ es then JL T hi n ops l (i+1) (⟨i,rd,ws.map Wr.loc⟩ :: es) (aB ws σ) K else none)
   (fun g σ=>bif JF hi o && Gw ops ⟨i,g,(GV o).map Wr.loc⟩ es then JL T hi n ops l (i+1) (⟨i,g,(GV o).map Wr.loc⟩ :: es) (aB (GV o) σ) K else none)
inductive OB where
 | undef
 | val (k:K) (ids:List Nat)
 | iQ
 | ref (r:Nat)
 | ptr (r:Nat) (p:List (Option Nat))
 | iZ (bt:TypeId) (k:K) (ids:List Nat)
 | rV
 | fn (f:Nat) (caps:List (TypeId×K×List Nat))
def Rm:List (TypeId×K×List Nat)→List K
 | []=>[]
 | c :: l=>c.2.1 :: Rm l
def OB.ks:OB→List K
 | .val k _ | .iZ _ k _=>[k]
 | .ptr _ p=>(dG.into 0 p).kin
 | .fn _ caps=>Rm caps
 | _=>[]
structure OX where
 k:K
 own:List TypeId
 ids:List Nat
 kind:Gs
 fixed:Bool
 keep:Bool
 log:Option (K×List TypeId×List TypeId)
def bq (σ:St) (tys:List TypeId):List Tag→Bool
 | []=>true
 | (r,n) :: l=>(bif fI r then true else match σ.roots r with
  | some R=>!R.bg && clean R.w n tys
  | none=>false) && bq σ tys l
def oI (rs:List Nat):List Tag→List Nat
 | []=>[]
 | (r,_) :: l=>bif (fI r || az r rs) && !az r (oI rs l) then r :: oI rs l else oI rs l
def shP:List Stp→List (Option Nat)
 | []=>[]
 | .fJ n :: p=>some n :: shP p
 | .idx _ :: p=>none :: shP p
def KS (rs:List Nat):List (TypeId×Dat×List Tag)→List (TypeId×K×List Nat)
 | []=>[]
 | (t,d,tags) :: l=>(t,d.1,oI rs tags) :: KS rs l
def Xf (rs ex:List Nat):List Nat:=ex.filter fun i=>fI i || az i rs
def shA (rs ex:List Nat):AV→OB
 | .undef=>.undef
 | .val k _ tags=>.val k (oI rs tags++Xf rs ex)
 | .iQ=>.iQ
 | .ref r _=>.ref r
 | .sM _ _ _=>.undef
 | .ptr r p _=>.ptr r (shP p)
 | .iZ bt k _ tags=>.iZ bt k (oI rs tags)
 | .rV=>.rV
 | .JA _ _ _ _=>.undef
 | .Aj _=>.undef
 | .part _ _ _ _ _=>.undef
 | .xU _ _ _ _=>.undef
 | .app _ _ _ _=>.undef
 | .fn f caps=>.fn f (KS rs caps)
def Mm (t:TypeId) (ids:List Nat):Bool:=!Nat.beq t SENT || ids.all fI
def zo (σ:St) (rs:List Nat):(cs:List (TypeId×K×List Nat))→List (TypeId×Dat×List Tag)→Option (Cont (Rm cs))
 | [],[]=>some ()
 | (t,k,ids) :: cs,(t',d,tags) :: l=>bif Nat.beq t t' && bq σ (t :: k.tys) tags && mO (oI rs tags) ids && Mm t ids then
   match bP d.1 k d.2,zo σ rs cs l with
   | some x,some c=>some (x,c)
   | _,_=>none
  else none
 | _,_=>none
def UM (σ:St) (rs:List Nat):(sh:OB)→AV→Option (Cont sh.ks)
 | .undef,_=>some ()
 | .val k ids, .val k' x tags=>bif bq σ k.tys tags && mO (oI rs tags) ids then
   match bP k' k x with
   | some y=>some (y,())
   | none=>none
  else none
 | .iQ, .iQ=>some ()
 | .ref r, .ref r' g=>bif Nat.beq r r' && az r rs && (match σ.roots r with | some R=>Nat.beq R.g g | none=>false) then some () else none
 | .ptr r p, .ptr r' q h=>bif Nat.beq r r' && az r rs && (match σ.roots r with | some R=>clean R.h h (dY q R.k) | none=>false) then idxOf p q else none
 | .iZ bt k ids, .iZ bt' k' x tags=>bif Nat.beq bt bt' && bq σ (bt :: k.tys) tags && mO (oI rs tags) ids && Mm bt ids then
   match bP k' k x with
   | some y=>some (y,())
   | none=>none
  else none
 | .rV, .rV=>some ()
 | .fn f cs, .fn f' caps=>bif Nat.beq f f' then zo σ rs cs caps else none
 | _,_=>none
def Kq:(cs:List (TypeId×K×List Nat))→Cont (Rm cs)→List (TypeId×Dat×List Tag)
 | [],_=>[]
 | (t,k,ids) :: cs,c=>(t,⟨k,c.1⟩,ids.map fun r=>(r,0)) :: Kq cs c.2
def mkA:(sh:OB)→Cont sh.ks→AV
 | .undef,_=>.undef
 | .val k ids,c=>.val k c.1 (ids.map fun r=>(r,0))
 | .iQ,_=>.iQ
 | .ref r,_=>.ref r 0
 | .ptr r p,c=>.ptr r (pathOf p c) 0
 | .iZ bt k ids,c=>.iZ bt k c.1 (ids.map fun r=>(r,0))
 | .rV,_=>.rV
 | .fn f cs,c=>.fn f (Kq cs c)
def shS (wd:List (Nat×List Nat)) (rs:List Nat) (σ:St):List Nat→List (Nat×OB)
 | []=>[]
 | s :: l=>(match σ.slots s with
  | .one a=>(s,shA rs (vQ (2 * s) wd) a)
  | _=>(s, .undef)) :: shS wd rs σ l
def Vq:List (Nat×OB)→List K
 | []=>[]
 | (_,sh) :: l=>sh.ks++Vq l
def iX (r:Nat):List (Nat×K×List TypeId×List TypeId)→Option (K×List TypeId×List TypeId)
 | []=>none
 | (q,l) :: ls=>bif Nat.beq r q then some l else iX r ls
def shR (wd:List (Nat×List Nat)) (iY:List (Nat×K×List TypeId×List TypeId)) (rs:List Nat) (σ:St):List Nat→Option (List (Nat×OX))
 | []=>some []
 | r :: l=>match σ.roots r,shR wd iY rs σ l with
  | some R,some q=>some ((r,⟨R.k,R.own,oI rs R.tags++(Xf rs (vQ (2 * r+1) wd)).filter (fun q=>!Nat.beq q r),R.kind,R.fixed,R.keep,iX r iY⟩) :: q)
  | _,_=>none
def Y9:List (Nat×OX)→List K
 | []=>[]
 | (_,sh) :: l=>sh.k :: Y9 l
def ctS (σ:St) (rs:List Nat):(l:List (Nat×OB))→Option (Cont (Vq l))
 | []=>some ()
 | (s,sh) :: l=>match σ.slots s with
  | .one a=>match UM σ rs sh a,ctS σ rs l with
   | some c,some d=>some (Cont.app sh.ks (Vq l) c d)
   | _,_=>none
  | _=>match sh with
   | .undef=>match ctS σ rs l with
    | some d=>some d
    | none=>none
   | _=>none
def YF:Gs→Gs→Bool
 | .anon, .anon | .par, .par | .dead, .dead=>true
 | .var a, .var b=>Nat.beq a b
 | _,_=>false
def Cr (R:Root):Option (List TypeId×List TypeId)→Bool
 | some (wt,ht)=>mO R.w wt && mO R.ew wt && mO R.h ht && mO R.eh ht && Nat.beq R.g 0
 | none=>true
def ac7 (R:Root):Option (K×List TypeId×List TypeId)→Bool
 | some (k,l)=>R.k.beq k && Cr R (some l)
 | none=>true
def vX (R:Root) (l:List TypeId):Root:={ R with own:=bF R.own l,w:=l++R.w }
def Yi (l:List TypeId) (r:Nat) (σ:St):St:=match l with
 | []=>σ
 | l=>match σ.roots r with
  | some R=>bif R.bg || !bq σ R.Ce R.tags || !R.own.any (fun t=>az t l) then σ else { σ with roots:=upd σ.roots r (some (vX R l)) }
  | none=>σ
def CS (hi:Hint):List Nat→St→St
 | [],σ=>σ
 | r :: rs,σ=>CS hi rs (Yi (vQ (1000000+r) hi.less) r σ)
def ctR (σ:St) (rs:List Nat):(l:List (Nat×OX))→Option (Cont (Y9 l))
 | []=>some ()
 | (r,sh) :: l=>match σ.roots r with
  | some R=>bif bq σ R.Ce R.tags && mO (oI rs R.tags) sh.ids && oL sh.k R.own sh.own && YF R.kind sh.kind && (R.fixed == sh.fixed) && (R.keep == sh.keep) && !R.bg && ac7 R sh.log then
    match bP R.k sh.k R.x,ctR σ rs l with
    | some x,some d=>some (x,d)
    | _,_=>none
   else none
  | none=>none
def mkS:(l:List (Nat×OB))→Cont (Vq l)→Nat→xJ
 | [],_,_=>.one .undef
 | (s,sh) :: l,c,n=>bif Nat.beq n s then .one (mkA sh (Cont.fst sh.ks (Vq l) c)) else mkS l (Cont.snd sh.ks (Vq l) c) n
def agi:Option (K×List TypeId×List TypeId)→List TypeId
 | some (_,l,_)=>l
 | none=>[]
def agh:Option (K×List TypeId×List TypeId)→List TypeId
 | some (_,_,l)=>l
 | none=>[]
def mkR:(l:List (Nat×OX))→Cont (Y9 l)→Nat→Option Root
 | [],_,_=>none
 | (r,sh) :: l,c,n=>bif Nat.beq n r then some { k:=sh.k,x:=c.1,own:=sh.own,tags:=sh.ids.map fun r=>(r,0),w:=[],h:=[],g:=0,kind:=sh.kind,fixed:=sh.fixed,keep:=sh.keep,ew:=agi sh.log,eh:=agh sh.log } else mkR l c.2 n
structure PSt where
 ss:List (Nat×OB)
 rs:List (Nat×OX)
abbrev PSt.V (s:PSt):Type:=Cont (Vq s.ss++Y9 s.rs)
def adl (wd:List (Nat×List Nat)) (iY:List (Nat×K×List TypeId×List TypeId)) (ss rs:List Nat) (σ:St):Option PSt:=match shR wd iY rs σ rs with
 | some q=>bif iY.all (fun p=>az p.1 rs) then some ⟨shS wd rs σ ss,q⟩ else none
 | none=>none
def UN (rs:List Nat) (s:PSt) (σ:St):Option s.V:=match ctS σ rs s.ss,ctR σ rs s.rs with
 | some a,some b=>some (Cont.app (Vq s.ss) (Y9 s.rs) a b)
 | _,_=>none
def Oa (s:PSt) (c:s.V):St:=⟨mkS s.ss (Cont.fst _ _ c),mkR s.rs (Cont.snd _ _ c)⟩
inductive Ex where
 | normal
 | exit (id:Nat)
 | ret
def rounds {V:Type} (B:(V→Option R)→V→Option R):Nat→V→Option R
 | 0=>fun _=>none
 | n+1=>B (rounds B n)
def PG (b:Nat):List (Nat×List Nat×List Nat)→Option (List Nat×List Nat)
 | []=>none
 | (c,h) :: l=>bif Nat.beq b c then some h else PG b l
def GL {A:Type} (f:A→A→Bool):List A→List A→Bool
 | [],[]=>true
 | a :: l,b :: m=>f a b && GL f l m
 | _,_=>false
def DY:(k:K)→El k→El k→Bool
 | .int _,x,y=>decide ((show Int from x)=y)
 | .bool,x,y=>(show Bool from x) == y
 | .str,x,y=>decide ((show List Int from x)=y)
 | .sl _ k,xs,ys=>GL (DY k) xs ys
 | .unit,_,_=>true
 | .pair a b,x,y=>DY a x.1 y.1 && DY b x.2 y.2
 | .st f,x,y=>DY f x y
 | .gap _,_,_=>true
 | .id _,x,y=>Nat.beq x y
def zn:(ks:List K)→Cont ks→Cont ks→Bool
 | [],_,_=>true
 | k :: ks,c,d=>DY k c.1 d.1 && zn ks c.2 d.2
def agC (ks:List K):Option (Cont ks)→Option (Cont ks)→Option (Cont ks)
 | some a,some b=>bif zn ks a b then some a else none
 | _,_=>none
theorem Qb {A:Type} {f:A→A→Bool} (hf:∀x y,f x y=true→x=y):∀{l m:List A},GL f l m=true→l=m
 | [],[],_=>rfl
 | a :: l,b :: m,h=>by
  simp only [GL,ann] at h
  rw [hf a b h.1,Qb hf h.2]
 | [],_ :: _,h=>by simp [GL] at h
 | _ :: _,[],h=>by simp [GL] at h
theorem Km {A:Type} {f:A→A→Bool} (hf:∀x,f x x=true):∀{l:List A},GL f l l=true
 | []=>rfl
 | a :: l=>by simp [GL,hf a,Km hf]
theorem Xd:∀{k:K} {x y:El k},DY k x y=true→x=y:=by
 intro k
 induction k with
 | int ik=>intro x y h; exact of_decide_eq_true h
 | bool=>intro x y h; exact eq_of_beq h
 | str=>intro x y h; exact of_decide_eq_true h
 | sl e k ih=>intro x y h; exact Qb (fun x y h=>ih h) h
 | unit=>intro x y _; rfl
 | pair a b iha ihb=>
  intro x y h
  simp only [DY,ann] at h
  exact Prod.ext (iha h.1) (ihb h.2)
 | st f ih=>intro x y h; exact ih (x:=x) (y:=y) h
 | gap n=>intro x y _; rfl
 | id e=>intro x y h; exact anl h
theorem RI:∀{k:K} {x:El k},DY k x x=true:=by
 intro k
 induction k with
 | int ik=>intro x; exact decide_eq_true rfl
 | bool=>intro x; exact beq_self_eq_true (α:=Bool) x
 | str=>intro x; exact decide_eq_true rfl
 | sl e k ih=>intro x; exact Km fun x=>ih
 | unit=>intro x; rfl
 | pair a b iha ihb=>intro x; simp [DY,iha,ihb]
 | st f ih=>intro x; exact ih (x:=x)
 | gap n=>intro x; rfl
 | id e=>intro x; exact Nat.beq_refl x
theorem Jz:∀{ks:List K} {c d:Cont ks},zn ks c d=true→c=d
 | [],_,_,_=>rfl
 | k :: ks,c,d,h=>by
  simp only [zn,ann] at h
  exact Prod.ext (Xd h.1) (Jz h.2)
theorem DX:∀{ks:List K} {c:Cont ks},zn ks c c=true
 | [],_=>rfl
 | k :: ks,c=>by simp [zn,RI,DX]
theorem WK {ks:List K} (a:Option (Cont ks)):agC ks a a=a:=by
 cases a with
 | none=>rfl
 | some a=>simp [agC,DX]
theorem WL {ks:List K} {a b:Option (Cont ks)} {z:Cont ks} (h:agC ks a b=some z):a=some z∧b=some z:=by
 cases a with
 | none=>simp [agC] at h
 | some a=>
  cases b with
  | none=>simp [agC] at h
  | some b=>
   simp only [agC] at h
   cases hb:zn ks a b with
   | false=>rw [hb] at h; simp at h
   | true=>
    rw [hb] at h
    simp only [cond_true,anh] at h
    have:=Jz hb
    subst h
    exact ⟨rfl,by rw [this]⟩
def den (T:iT) (hi:Hint) (n:Nat) (ag:Option R→Option R→Option R):Nat→Code→St→(Ex→St→Option R)→Option R
 | _, .skip,σ,K=>K .normal σ
 | _, .region _ ops draw,σ,K=>bif draw then JL T hi n ops ops.toList 0 [] σ (K .normal) else D5 T hi n ops ops.toList σ (K .normal)
 | b, .seq x y,σ,K=>den T hi n ag b x σ fun
  | .normal,σ'=>den T hi n ag b y σ' K
  | e,σ'=>K e σ'
 | b, .cond c x y,σ,K=>(dN c fun a=>.ret a).run σ fun
  | .Aj e=>if e=true then ag (den T hi n ag b x σ K) (den T hi n ag b y σ K) else den T hi n ag b y σ K
  | a=>(asBool a .ret).run σ fun t=>if t=true then den T hi n ag b x σ K else den T hi n ag b y σ K
 | _, .block id x,σ,K=>den T hi n ag id x σ fun
  | .exit i,σ'=>bif Nat.beq i id then K .normal σ' else K (.exit i) σ'
  | e,σ'=>K e σ'
 | b, .loop x,σ,K=>match PG b hi.loops with
  | some (ss,rs)=>match adl hi.wide hi.iY ss rs (CS hi rs σ) with
   | some s=>match UN rs s (CS hi rs σ) with
    | some c=>rounds (fun L v=>den T hi n ag b x (Oa s v) fun
     | .normal,σ'=>match UN rs s (CS hi rs σ') with
      | some v'=>L v'
      | none=>none
     | e,σ'=>K e σ') n c
    | none=>none
   | none=>none
  | none=>none
 | _, .exit id,σ,K=>K (.exit id) σ
 | _, .ret,σ,K=>K .ret σ
 | _,_,_,_=>none
def jE:(ps:List dG)→(i:Nat)→Cont (kin ps)→List (Nat×AV)
 | [],_,_=>[]
 | .val k ig :: ps,i,c=>(i, .val k c.1 (bif k.flat then [] else (pY i,0) :: ig.map fun j=>(ay j,0))) :: jE ps (i+1) c.2
 | .ro k :: ps,i,c=>(i, .iZ SENT k c.1 [(pY i,0)]) :: jE ps (i+1) c.2
 | .rw _ _ _ _ :: ps,i,c=>(i, .ptr (ay i) [] 0) :: jE ps (i+1) c.2
 | .jK _ _ _ :: ps,i,c=>(i, .ref (ay i) 0) :: jE ps (i+1) c.2
 | .own _ _ :: ps,i,c=>(i, .ref (ay i) 0) :: jE ps (i+1) c.2
 | .fn f ks :: ps,i,c=>(i, .fn f (zf i ks (Cont.fst ks (kin ps) c))) :: jE ps (i+1) (Cont.snd ks (kin ps) c)
 | .into _ p :: ps,i,c=>(i, .iQ) :: jE ps (i+1) (Cont.snd (dG.into 0 p).kin (kin ps) c)
where zf (i:Nat):(ks:List K)→Cont ks→List (TypeId×Dat×List Tag)
 | [],_=>[]
 | k :: ks,c=>(SENT,⟨k,c.1⟩,[(pY i,0)]) :: zf i ks c.2
def gG:(ps:List dG)→(i:Nat)→Cont (kin ps)→List (Nat×Root)
 | [],_,_=>[]
 | .val _ _ :: ps,i,c=>gG ps (i+1) c.2
 | .ro _ :: ps,i,c=>gG ps (i+1) c.2
 | .rw k ow _ _ :: ps,i,c=>(ay i,aL k c.1 ow (bif k.tys.all (fun t=>az t ow) then [] else [(pY i,0)]) .par true) :: gG ps (i+1) c.2
 | .jK k ow _ :: ps,i,c=>(ay i,{ aL k c.1 ow (bif k.tys.all (fun t=>az t ow) then [] else [(pY i,0)]) .anon true with fixed:=true }) :: gG ps (i+1) c.2
 | .own k ow :: ps,i,c=>(ay i,aL k c.1 ow (bif k.tys.all (fun t=>az t ow) then [] else [(pY i,0)]) .anon) :: gG ps (i+1) c.2
 | .fn _ ks :: ps,i,c=>gG ps (i+1) (Cont.snd ks (kin ps) c)
 | .into _ p :: ps,i,c=>gG ps (i+1) (Cont.snd (dG.into 0 p).kin (kin ps) c)
def rR:List (Nat×AV)→Nat→xJ
 | [],_=>.one .undef
 | (s,a) :: l,n=>bif Nat.beq n s then .one a else rR l n
def gI:List (Nat×Root)→Nat→Option Root
 | [],_=>none
 | (s,a) :: l,n=>bif Nat.beq n s then some a else gI l n
def bX (ps:List dG) (c:Cont (kin ps)):St:=⟨rR (jE ps 0 c),gI (gG ps 0 c)⟩
def qA (exts ig:List Nat) (tags:List Tag):Bool:=tags.all fun t=>
 bif fI t.1 then az (t.1 / 4) exts else bif Nat.beq (t.1 % 4) 0 then az (t.1 / 4) ig else true
def Su {α:Type} (T:iT) (own:Bool) (rv:ResultVar) (k:AV→Prog α):Prog α:=match rv with
 | .tmp t=>dN (.tmp t) k
 | .cell t ty=>dN (.tmp t) fun a=>Eg T own ty a k
def PD {α:Type} (T:iT):(rs:List lU)→List ResultVar→(Cont (iB rs)→List iy→List (List Tag)→Prog α)→Prog α
 | [],[],k=>k () [] []
 | .val kk exts ig :: rs,v :: vs,k=>
  let go (x:El kk) (tags:List Tag):Prog α:=bif kk.flat || qA exts ig tags then PD T rs vs fun c ts tg=>k (x,c) ts (tags :: tg) else .fail
  Su T false v fun a=>match a with
  | .iQ=>match kk,go with
   | .sl _ _,go=>go [] []
   | _,_=>.fail
  | a=>uO a fun k' x tags=>match bP k' kk x with
   | some y=>go y (bif kk.flat then [] else tags)
   | none=>.fail
 | .own kk ow exts ig :: rs,v :: vs,k=>Su T true v fun a=>xD kk a fun tk=>match bP tk.k kk tk.x with
  | some y=>bif mO (kk.tys.filter fun t=>az t ow) tk.own && (kk.tys.all (fun t=>az t ow) || qA exts ig tk.tags) then PD T rs vs fun c ts tg=>k (y,c) (tk :: ts) tg else .fail
  | none=>.fail
 | _,_,_=>.fail
def Iw (σ:St) (i:Nat):Option Root:=match σ.roots (ay i) with
 | some R=>bif R.bg || !bq σ R.Ce R.tags then none else some R
 | none=>none
def lK (σ:St):(ps:List dG)→Nat→Option (Cont (kD ps))
 | [],_=>some ()
 | .rw k ow wt ht :: ps,i=>match Iw σ i,lK σ ps (i+1) with
  | some R,some d=>bif oL k R.own ow && Cr R (some (wt,ht)) && (k.tys.all (fun t=>az t ow) || qA [i] [] R.tags) then
    match bP R.k k R.x with
    | some x=>some (x,d)
    | none=>none
   else none
  | _,_=>none
 | .jK k ow wt :: ps,i=>match Iw σ i,lK σ ps (i+1) with
  | some R,some d=>bif oL k R.own ow && Cr R (some (wt,k.tys)) && (k.tys.all (fun t=>az t ow) || qA [i] [] R.tags) then
    match bP R.k k R.x with
    | some x=>some (x,d)
    | none=>none
   else none
  | _,_=>none
 | .val _ _ :: ps,i=>lK σ ps (i+1)
 | .ro _ :: ps,i=>lK σ ps (i+1)
 | .own _ _ :: ps,i=>lK σ ps (i+1)
 | .fn _ _ :: ps,i=>lK σ ps (i+1)
 | .into _ _ :: ps,i=>lK σ ps (i+1)
def fin (T:iT) (ps:List dG) (rs:List lU) (rv:List ResultVar) (σ:St):Option (Cont (iB rs++kD ps)):=
 (PD T rs rv fun c ts tg=>bif ER (ts.flatMap (·.ws)) (ts.flatMap (·.tags)++tg.flatten) then .ret (c,ts.flatMap (·.ws)) else .fail:Prog (Cont (iB rs)×List Wr)).run σ fun q=>
  match lK (aB q.2 σ) ps 0 with
  | some d=>some (Cont.app (iB rs) (kD ps) q.1 d)
  | none=>none
def Root.X0 (R:Root) (t:TypeId):Bool:=match R.kind with
 | .var u=>Nat.beq t u
 | _=>false
def aam {α:Type} (t:TypeId) (kk:K) (ow:List TypeId) (exts:List Nat) (a:AV) (k:El kk→Nat→Prog α):Prog α:=match a with
 | .ptr r [] _=>rX r fun R=>bif R.X0 t && mO (kk.tys.filter fun t=>az t ow) R.own && (kk.tys.all (fun t=>az t ow) || qA exts [] R.tags) then
   match bP R.k kk R.x with
   | some y=>k y r
   | none=>.fail
  else .fail
 | _=>.fail
def cutV {α:Type} (j:Nat) (a:AV) (k:Int→Prog α):Prog α:=match a with
 | .ref r g=>bif Nat.beq r (ay j) && Nat.beq g 0 then rX r fun R=>bif Nat.beq R.g 0 then match R.k,R.x with
   | .sl _ kk,xs=>k ((show List (El kk) from xs).length:Int)
   | _,_=>.fail
  else .fail
  else .fail
 | .part r g lo hi _=>bif Nat.beq r (ay j) && Nat.beq g 0 && Nat.beq lo 0 then k (hi:Int) else .fail
 | _=>.fail
def ZM (T:iT) (ps:List dG):(rs:List lU)→List ResultVar→St→Option (Cont (iB rs++kD ps))
 | [.ptr t kk ow exts],[rv],σ=>(Su T false rv fun a=>aam t kk ow exts a fun y r=>.ret (y,r):Prog (El kk×Nat)).run σ fun q=>
   match lK (aB [.r q.2 none] σ) ps 0 with
   | some d=>some (q.1,d)
   | none=>none
 | [.into j []],[rv],σ=>(Su T false rv fun a=>cutV j a fun m=>.ret m:Prog Int).run σ fun m=>
   match lK σ ps 0 with
   | some d=>some (m,d)
   | none=>none
 | rs,xC,σ=>fin T ps rs xC σ
def wu:List dG→Nat→List (Nat×K×List TypeId×List TypeId)
 | [],_=>[]
 | .rw k _ wt ht :: ps,i=>(ay i,k,wt,ht) :: wu ps (i+1)
 | .jK k _ wt :: ps,i=>(ay i,k,wt,k.tys) :: wu ps (i+1)
 | _ :: ps,i=>wu ps (i+1)
def ZG (T:iT) (hi:Hint) (fn:Func) (ps:List dG) (rs:List lU) (n:Nat) (c:Cont (kin ps)):Option (Cont (iB rs++kD ps)):=
 match fn.body with
 | some code=>den T { hi with nt:=fn.ntmps,iY:=wu ps 0 } n (agC (iB rs++kD ps)) 0 code (bX ps c) fun
  | .ret,σ=>ZM T ps rs fn.results.toList σ
  | .normal,σ=>ZM T ps rs fn.results.toList σ
  | _,_=>none
 | none=>none
end
section
open Go
class Fr where
 free:Nat→Prop
 obj:Nat→Option Obj
 iI:Nat→Value
 ac1:iI 0=.slice none 0 0
 agc:∀i,∃a n c,iI i=.slice a n c
abbrev akI:Fr:=⟨fun _=>False,fun _=>none,fun _=>.slice none 0 0,rfl,fun _=>⟨none,0,0,rfl⟩⟩
variable [Fr]
abbrev Heap:=Nat→Option Obj
def hp (w:World):Heap:=fun b=>w.heap[b]?
def cellAt (h:Heap) (b o:Nat):Option Value:=match h b with
 | some (.cells c _ _)=>c[o]?
 | _=>none
def qM (h:Heap) (b:Nat):Option TypeId:=match h b with
 | some (.cells _ e _)=>some e
 | _=>none
def Cells (h:Heap) (b o:Nat) (cs:List Value):Prop:=∀i,i<cs.length→cellAt h b (o+i)=cs[i]?
theorem zi (w:World) (b o:Nat):w.cell? ⟨b,o,none⟩=cellAt (hp w) b o:=by
 unfold World.cell? cellAt hp
 cases w.heap[b]? with
 | none=>rfl
 | some x=>cases x <;> rfl
theorem uX {h h':Heap} {b:Nat} (e:h' b=h b) (o:Nat):cellAt h' b o=cellAt h b o:=by unfold cellAt; rw [e]
def vO (h:Heap) (b:Nat) (e:TypeId):Prop:=qM h b=some e∨Fr.free b
theorem JH {h h':Heap} {b:Nat} (e:h' b=h b):qM h' b=qM h b:=by unfold qM; rw [e]
theorem JG {h h':Heap} {b:Nat} {t:TypeId} (e:h' b=h b) (H:vO h b t):vO h' b t:=H.imp (fun H=>(JH e).trans H) id
theorem Cells.congr {h h':Heap} {b o:Nat} {cs:List Value} (e:h' b=h b) (H:Cells h b o cs):Cells h' b o cs:=fun i hi=>(uX e _).trans (H i hi)
def GR:IntKind→Int→Prop
 | .u8,n=>0≤n∧n<256
 | _,_=>True
def Vw (h:Heap) (ok:Nat→Prop):(k:K)→El k→List Value→Prop
 | .int ik,n,cs=>cs=[.int ik n]∧GR ik n
 | .bool,b,cs=>cs=[.bool b]
 | .str,s,cs=>∃B:ByteArray,cs=[.string B]∧(show List Int from s)=bytesOf B
 | .sl e k,xs,cs=>∃a n c,cs=[.slice a n c]∧n=(show List (El k) from xs).length∧n≤c∧
   (0<n→∃b o,a=some ⟨b,o,none⟩∧ok b∧vO h b e∧
    ∀(i:Nat) (hi:i<(show List (El k) from xs).length),∃ds,Cells h b (o+i * k.size) ds∧Vw h ok k ((show List (El k) from xs)[i]) ds)
 | .unit,_,cs=>cs=[]
 | .pair a b,x,cs=>∃c1 c2,cs=c1++c2∧Vw h ok a x.1 c1∧Vw h ok b x.2 c2
 | .st f,x,cs=>Vw h ok f x cs
 | .gap n,_,cs=>cs.length=n
 | .id _,i,cs=>cs=[Fr.iI (show Nat from i)]
def Ow (h:Heap) (own:List TypeId) (ok:Nat→Prop):(k:K)→El k→List Value→List Nat→Prop
 | .sl e k,xs,cs,fo=>if az e own=true then
   ∃a n c,cs=[.slice a n c]∧n=(show List (El k) from xs).length∧n≤c∧
    ((c=0∧fo=[])∨∃b o arr lo hi,a=some ⟨b,o,none⟩∧h b=some (.cells arr e (lo,hi))∧(∀i,i<arr.size→¬(lo≤i∧i<hi))∧o+c * k.size≤arr.size∧
     ∃bD:List (List Nat),bD.length=(show List (El k) from xs).length∧fo.Perm (b :: bD.flatten)∧
      ∀(i:Nat) (hi:i<(show List (El k) from xs).length),∃ds,Cells h b (o+i * k.size) ds∧Ow h own ok k ((show List (El k) from xs)[i]) ds (bD.getD i []))
  else fo=[]∧Vw h ok (.sl e k) xs cs
 | .pair a b,x,cs,fo=>∃c1 c2 f1 f2,cs=c1++c2∧fo.Perm (f1++f2)∧Ow h own ok a x.1 c1 f1∧Ow h own ok b x.2 c2 f2
 | .st f,x,cs,fo=>Ow h own ok f x cs fo
 | .int ik,n,cs,fo=>fo=[]∧Vw h ok (.int ik) n cs
 | .bool,n,cs,fo=>fo=[]∧Vw h ok .bool n cs
 | .str,n,cs,fo=>fo=[]∧Vw h ok .str n cs
 | .unit,_,cs,fo=>fo=[]∧cs=[]
 | .gap n,_,cs,fo=>fo=[]∧cs.length=n
 | .id e,i,cs,fo=>fo=[]∧Vw h ok (.id e) i cs
theorem lI {h:Heap} {ok:Nat→Prop}:∀{k:K} {x:El k} {cs:List Value},Vw h ok k x cs→cs.length=k.size:=by
 intro k
 induction k with
 | int ik=>intro x cs H; rw [H.1]; rfl
 | bool=>intro x cs H; rw [show cs=_ from H]; rfl
 | id e=>intro x cs H; rw [show cs=_ from H]; rfl
 | str=>intro x cs H; obtain ⟨B,rfl,_⟩:=H; rfl
 | sl e k ih=>intro x cs H; obtain ⟨a,n,c,rfl,_⟩:=H; rfl
 | unit=>intro x cs H; rw [show cs=_ from H]; rfl
 | pair a b iha ihb=>intro x cs H; obtain ⟨c1,c2,rfl,h1,h2⟩:=H; simp [K.size,iha h1,ihb h2]
 | st f ih=>intro x cs H; exact ih (x:=x) H
 | gap n=>intro x cs H; exact H
theorem gq {h h':Heap} {ok ok':Nat→Prop} (hh:∀b,ok b→h' b=h b) (hk:∀b,ok b→ok' b):∀{k:K} {x:El k} {cs:List Value},Vw h ok k x cs→Vw h' ok' k x cs:=by
 intro k
 induction k with
 | int ik=>intro x cs H; exact H
 | bool=>intro x cs H; exact H
 | id e=>intro x cs H; exact H
 | str=>intro x cs H; exact H
 | sl e k ih=>
  intro x cs H
  obtain ⟨a,n,c,e1,e2,e3,H⟩:=H
  refine ⟨a,n,c,e1,e2,e3,fun hn=>?_⟩
  obtain ⟨b,o,ea,hb,ht,H⟩:=H hn
  refine ⟨b,o,ea,hk b hb,JG (hh b hb) ht,fun i hi=>?_⟩
  obtain ⟨ds,h1,h2⟩:=H i hi
  exact ⟨ds,h1.congr (hh b hb),ih h2⟩
 | unit=>intro x cs H; exact H
 | pair a b iha ihb=>intro x cs H; obtain ⟨c1,c2,e,h1,h2⟩:=H; exact ⟨c1,c2,e,iha h1,ihb h2⟩
 | st f ih=>intro x cs H; exact ih (x:=x) H
 | gap n=>intro x cs H; exact H
theorem iV {h h':Heap} {ok ok':Nat→Prop}:∀{k:K} {x:El k} {cs:List Value},k.flat=true→Vw h ok k x cs→Vw h' ok' k x cs:=by
 intro k
 induction k with
 | sl e k ih=>intro x cs h; simp [K.flat] at h
 | gap n=>intro x cs h; simp [K.flat] at h
 | pair a b iha ihb=>
  intro x cs h H
  simp only [K.flat,ann] at h
  obtain ⟨c1,c2,e,h1,h2⟩:=H
  exact ⟨c1,c2,e,iha h.1 h1,ihb h.2 h2⟩
 | st f ih=>intro x cs h H; exact ih (x:=x) h H
 | _=>intro x cs _ H; exact H
theorem I9 {h:Heap} {ok:Nat→Prop}:∀{k:K} {x:El k} {cs:List Value} (ts:List TypeId),(∀t∈k.tys,t∈ts)→Vw h ok k x cs→Vw h (fun b=>ok b∧∃t∈ts,vO h b t) k x cs:=by
 intro k
 induction k with
 | int ik=>intro x cs ts _ H; exact H
 | bool=>intro x cs ts _ H; exact H
 | id e=>intro x cs ts _ H; exact H
 | str=>intro x cs ts _ H; exact H
 | sl e k ih=>
  intro x cs ts hts H
  obtain ⟨a,n,c,e1,e2,e3,H⟩:=H
  refine ⟨a,n,c,e1,e2,e3,fun hn=>?_⟩
  obtain ⟨b,o,ea,hb,ht,H⟩:=H hn
  refine ⟨b,o,ea,⟨hb,e,hts e (by simp [K.tys]),ht⟩,ht,fun i hi=>?_⟩
  obtain ⟨ds,h1,h2⟩:=H i hi
  exact ⟨ds,h1,ih ts (fun t h=>hts t (by simp [K.tys,h])) h2⟩
 | unit=>intro x cs ts _ H; exact H
 | pair a b iha ihb=>
  intro x cs ts hts H
  obtain ⟨c1,c2,e,h1,h2⟩:=H
  exact ⟨c1,c2,e,iha ts (fun t h=>hts t (by simp [K.tys,h])) h1,ihb ts (fun t h=>hts t (by simp [K.tys,h])) h2⟩
 | st f ih=>intro x cs ts hts H; exact ih (x:=x) ts hts H
 | gap n=>intro x cs ts _ H; exact H
theorem dh {h:Heap} {own:List TypeId} {ok:Nat→Prop}:∀{k:K} {x:El k} {cs:List Value} {fo:List Nat},Ow h own ok k x cs fo→cs.length=k.size:=by
 intro k
 induction k with
 | int ik=>intro x cs fo H; exact lI H.2
 | bool=>intro x cs fo H; exact lI H.2
 | id e=>intro x cs fo H; exact lI H.2
 | str=>intro x cs fo H; exact lI H.2
 | sl e k ih=>
  intro x cs fo H
  unfold Ow at H
  split at H
  ·obtain ⟨a,n,c,rfl,_⟩:=H; rfl
  ·exact lI H.2
 | unit=>intro x cs fo H; rw [H.2]; rfl
 | pair a b iha ihb=>intro x cs fo H; obtain ⟨c1,c2,f1,f2,rfl,_,h1,h2⟩:=H; simp [K.size,iha h1,ihb h2]
 | st f ih=>intro x cs fo H; exact ih (x:=x) H
 | gap n=>intro x cs fo H; exact H.2
theorem rU {bD:List (List Nat)} {i:Nat} {b:Nat} (h:b∈bD.getD i []):b∈bD.flatten:=by
 rw [anv] at h
 cases hi:bD[i]? with
 | none=>rw [hi] at h; simp at h
 | some l=>rw [hi] at h; exact List.mem_flatten.2 ⟨l,List.mem_of_getElem? hi,by simpa using h⟩
theorem bz {h h':Heap} {own:List TypeId} {ok ok':Nat→Prop} (hh:∀b,ok b→h' b=h b) (hk:∀b,ok b→ok' b) :
  ∀{k:K} {x:El k} {cs:List Value} {fo:List Nat},(∀b∈fo,h' b=h b)→Ow h own ok k x cs fo→Ow h' own ok' k x cs fo:=by
 intro k
 induction k with
 | int ik=>intro x cs fo _ H; exact ⟨H.1,gq hh hk H.2⟩
 | bool=>intro x cs fo _ H; exact ⟨H.1,gq hh hk H.2⟩
 | id e=>intro x cs fo _ H; exact ⟨H.1,gq hh hk H.2⟩
 | str=>intro x cs fo _ H; exact ⟨H.1,gq hh hk H.2⟩
 | sl e k ih=>
  intro x cs fo hfo H
  unfold Ow at H ⊢
  split
  ·rename_i hm
   rw [if_pos hm] at H
   obtain ⟨a,n,c,e1,e2,e3,H⟩:=H
   refine ⟨a,n,c,e1,e2,e3, ?_⟩
   rcases H with H | ⟨b,o,arr,lo,hi,ea,hb,hf,hs,bD,hl,hp,H⟩
   ·exact .inl H
   ·have hbb:h' b=h b:=hfo b (hp.mem_iff.2 (by simp))
    refine .inr ⟨b,o,arr,lo,hi,ea,hbb.trans hb,hf,hs,bD,hl,hp,fun i hi=>?_⟩
    obtain ⟨ds,h1,h2⟩:=H i hi
    exact ⟨ds,h1.congr hbb,ih (fun b' hb'=>hfo b' (hp.mem_iff.2 (by simp [rU hb']))) h2⟩
  ·rename_i hm
   rw [if_neg hm] at H
   exact ⟨H.1,gq hh hk H.2⟩
 | unit=>intro x cs fo _ H; exact H
 | pair a b iha ihb=>
  intro x cs fo hfo H
  obtain ⟨c1,c2,f1,f2,e,hp,h1,h2⟩:=H
  exact ⟨c1,c2,f1,f2,e,hp,iha (fun b hb=>hfo b (hp.mem_iff.2 (by simp [hb]))) h1,ihb (fun b hb=>hfo b (hp.mem_iff.2 (by simp [hb]))) h2⟩
 | st f ih=>intro x cs fo hfo H; exact ih (x:=x) hfo H
 | gap n=>intro x cs fo _ H; exact H
theorem sI {h:Heap} {own:List TypeId} {ok:Nat→Prop}:∀{k:K} {x:El k} {cs:List Value} {fo:List Nat} (ts:List TypeId),(∀t∈aU own k,t∈ts)→Ow h own ok k x cs fo→Ow h own (fun b=>ok b∧∃t∈ts,vO h b t) k x cs fo:=by
 intro k
 induction k with
 | int ik=>intro x cs fo ts _ H; exact H
 | bool=>intro x cs fo ts _ H; exact H
 | id e=>intro x cs fo ts _ H; exact H
 | str=>intro x cs fo ts _ H; exact H
 | sl e k ih=>
  intro x cs fo ts hts H
  unfold Ow at H ⊢
  split
  ·rename_i hm
   rw [if_pos hm] at H
   obtain ⟨a,n,c,e1,e2,e3,H⟩:=H
   refine ⟨a,n,c,e1,e2,e3, ?_⟩
   rcases H with H | ⟨b,o,arr,lo,hi,ea,hb,hf,hs,bD,hl,hp,H⟩
   ·exact .inl H
   ·refine .inr ⟨b,o,arr,lo,hi,ea,hb,hf,hs,bD,hl,hp,fun i hi=>?_⟩
    obtain ⟨ds,h1,h2⟩:=H i hi
    exact ⟨ds,h1,ih ts (fun t ht=>hts t (by simp [aU,hm,ht])) h2⟩
  ·rename_i hm
   rw [if_neg hm] at H
   exact ⟨H.1,I9 ts (fun t ht=>hts t (by simpa [aU,hm,K.tys] using ht)) H.2⟩
 | unit=>intro x cs fo ts _ H; exact H
 | pair a b iha ihb=>
  intro x cs fo ts hts H
  obtain ⟨c1,c2,f1,f2,e,hp,h1,h2⟩:=H
  exact ⟨c1,c2,f1,f2,e,hp,iha ts (fun t h=>hts t (by simp [aU,h])) h1,ihb ts (fun t h=>hts t (by simp [aU,h])) h2⟩
 | st f ih=>intro x cs fo ts hts H; exact ih (x:=x) ts hts H
 | gap n=>intro x cs fo ts _ H; exact H
theorem kP {h:Heap} {own:List TypeId} {ok:Nat→Prop} (ok':Nat→Prop) (hk:∀b,ok b→ok' b) :
  ∀{k:K} {x:El k} {cs:List Value} {fo:List Nat},(∀b∈fo,ok' b)→Ow h own ok k x cs fo→Vw h ok' k x cs:=by
 intro k
 induction k with
 | int ik=>intro x cs fo _ H; exact gq (fun _ _=>rfl) hk H.2
 | bool=>intro x cs fo _ H; exact gq (fun _ _=>rfl) hk H.2
 | id e=>intro x cs fo _ H; exact gq (fun _ _=>rfl) hk H.2
 | str=>intro x cs fo _ H; exact gq (fun _ _=>rfl) hk H.2
 | sl e k ih=>
  intro x cs fo hfo H
  unfold Ow at H
  split at H
  ·obtain ⟨a,n,c,e1,e2,e3,H⟩:=H
   refine ⟨a,n,c,e1,e2,e3,fun hn=>?_⟩
   rcases H with H | ⟨b,o,arr,lo,hi,ea,hb,hf,hs,bD,hl,hp,H⟩
   ·omega
   ·refine ⟨b,o,ea,hfo b (hp.mem_iff.2 (by simp)),by refine .inl ?_; unfold qM; rw [hb],fun i hi=>?_⟩
    obtain ⟨ds,h1,h2⟩:=H i hi
    exact ⟨ds,h1,ih (fun b' hb'=>hfo b' (hp.mem_iff.2 (by simp [rU hb']))) h2⟩
  ·exact gq (fun _ _=>rfl) hk H.2
 | unit=>intro x cs fo _ H; exact H.2
 | pair a b iha ihb=>
  intro x cs fo hfo H
  obtain ⟨c1,c2,f1,f2,e,hp,h1,h2⟩:=H
  exact ⟨c1,c2,e,iha (fun b hb=>hfo b (hp.mem_iff.2 (by simp [hb]))) h1,ihb (fun b hb=>hfo b (hp.mem_iff.2 (by simp [hb]))) h2⟩
 | st f ih=>intro x cs fo hfo H; exact ih (x:=x) hfo H
 | gap n=>intro x cs fo _ H; exact H.2
theorem uV {h:Heap} {own own':List TypeId} {ok:Nat→Prop} :
  ∀{k:K} {x:El k} {cs:List Value} {fo:List Nat},(∀t∈k.tys,az t own'=true→az t own=true)→Ow h own ok k x cs fo→
   ∃dH fd,fo.Perm (dH++fd)∧Ow h own' (fun b=>ok b∨b∈fd) k x cs dH:=by
 intro k
 induction k with
 | int ik=>intro x cs fo _ H; exact ⟨[],[],by rw [H.1]; exact .refl _,rfl,gq (fun _ _=>rfl) (fun _ h=>.inl h) H.2⟩
 | bool=>intro x cs fo _ H; exact ⟨[],[],by rw [H.1]; exact .refl _,rfl,gq (fun _ _=>rfl) (fun _ h=>.inl h) H.2⟩
 | id e=>intro x cs fo _ H; exact ⟨[],[],by rw [H.1]; exact .refl _,rfl,gq (fun _ _=>rfl) (fun _ h=>.inl h) H.2⟩
 | str=>intro x cs fo _ H; exact ⟨[],[],by rw [H.1]; exact .refl _,rfl,gq (fun _ _=>rfl) (fun _ h=>.inl h) H.2⟩
 | sl e k ih=>
  intro x cs fo ht H
  by_cases hm':az e own'=true
  ·have hm:=ht e (by simp [K.tys]) hm'
   unfold Ow at H
   rw [if_pos hm] at H
   obtain ⟨a,n,c,e1,e2,e3,H⟩:=H
   rcases H with ⟨h0,h1⟩ | ⟨b,o,arr,lo,hi,ea,hb,hf,hs,bD,hl,hp,H⟩
   ·refine ⟨[],[],by rw [h1]; exact .refl _, ?_⟩
    unfold Ow
    rw [if_pos hm']
    exact ⟨a,n,c,e1,e2,e3, .inl ⟨h0,rfl⟩⟩
   ·
    have step:∀i:Nat,∃p:List Nat×List Nat,(hi:i<(show List (El k) from x).length)→((bD.getD i []).Perm (p.1++p.2)∧∃ds,Cells h b (o+i * k.size) ds∧Ow h own' (fun b=>ok b∨b∈p.2) k ((show List (El k) from x)[i]) ds p.1):=by
     intro i
     by_cases hi:i<(show List (El k) from x).length
     ·obtain ⟨ds,h1,h2⟩:=H i hi
      obtain ⟨dH,fd,hp',h3⟩:=ih (fun t ht'=>ht t (by simp [K.tys,ht'])) h2
      exact ⟨(dH,fd),fun _=>⟨hp',ds,h1,h3⟩⟩
     ·exact ⟨([],[]),fun h=>absurd h hi⟩
    have ⟨q,hq⟩:∃q:Nat→List Nat×List Nat,∀i,(hi:i<(show List (El k) from x).length)→((bD.getD i []).Perm ((q i).1++(q i).2)∧∃ds,Cells h b (o+i * k.size) ds∧Ow h own' (fun b=>ok b∨b∈(q i).2) k ((show List (El k) from x)[i]) ds (q i).1):=
     ⟨fun i=>Classical.choose (step i),fun i=>Classical.choose_spec (step i)⟩
    let N:=(show List (El k) from x).length
    refine ⟨b :: (List.range N).flatMap (fun i=>(q i).1),(List.range N).flatMap (fun i=>(q i).2), ?_, ?_⟩
    ·refine hp.trans ?_
     rw [List.cons_append]
     refine .cons b ?_
     have afF:bD.flatten=(List.range N).flatMap (fun i=>bD.getD i []):=by
      rw [List.flatMap_def]
      congr 1
      apply List.ext_getElem
      ·simp [N,hl]
      ·intro i h1 h2
       simp [anv,anw h1]
     rw [afF]
     have gen:∀l:List Nat,(∀i∈l,i<N)→(l.flatMap (fun i=>bD.getD i [])).Perm (l.flatMap (fun i=>(q i).1)++l.flatMap (fun i=>(q i).2)):=by
      intro l
      induction l with
      | nil=>intro _; exact .refl _
      | cons i l ihl=>
       intro hl'
       simp only [List.flatMap_cons]
       have h1:=(hq i (hl' i (by simp))).1
       have h2:=ihl (fun j hj=>hl' j (by simp [hj]))
       refine (h1.append h2).trans ?_
       simp only [anE]
       refine List.Perm.append_left _ ?_
       rw [←anE, ←anE]
       exact List.Perm.append_right _ List.perm_append_comm
     exact gen _ (fun i hi=>List.mem_range.1 hi)
    ·unfold Ow
     rw [if_pos hm']
     refine ⟨a,n,c,e1,e2,e3, .inr ⟨b,o,arr,lo,hi,ea,hb,hf,hs,(List.range N).map (fun i=>(q i).1),by simp [N],by rw [List.flatMap_def],fun i hi=>?_⟩⟩
     obtain ⟨ds,h1,h2⟩:=(hq i hi).2
     refine ⟨ds,h1, ?_⟩
     have:(List.map (fun i=>(q i).1) (List.range N)).getD i []=(q i).1:=by
      rw [anv,List.getElem?_map,List.getElem?_range hi]; rfl
     rw [this]
     exact bz (fun _ _=>rfl) (fun b' hb'=>hb'.imp id (fun h=>anU.2 ⟨i,List.mem_range.2 hi,h⟩)) (fun _ _=>rfl) h2
  ·refine ⟨[],fo,by simp, ?_⟩
   unfold Ow
   rw [if_neg hm']
   exact ⟨rfl,kP _ (fun _ h=>.inl h) (fun _ h=>.inr h) H⟩
 | unit=>intro x cs fo _ H; exact ⟨[],[],by rw [H.1]; exact .refl _,rfl,H.2⟩
 | pair a b iha ihb=>
  intro x cs fo ht H
  obtain ⟨c1,c2,f1,f2,e,hp,h1,h2⟩:=H
  obtain ⟨g1,d1,p1,r1⟩:=iha (fun t h=>ht t (by simp [K.tys,h])) h1
  obtain ⟨g2,d2,p2,r2⟩:=ihb (fun t h=>ht t (by simp [K.tys,h])) h2
  refine ⟨g1++g2,d1++d2,(hp.trans (p1.append p2)).trans ?_,c1,c2,g1,g2,e, .refl _, ?_, ?_⟩
  ·simp only [anE]
   refine List.Perm.append_left _ ?_
   rw [←anE, ←anE]
   exact List.Perm.append_right _ List.perm_append_comm
  ·exact bz (fun _ _=>rfl) (fun b' hb'=>hb'.imp id (fun h=>by simp [h])) (fun _ _=>rfl) r1
  ·exact bz (fun _ _=>rfl) (fun b' hb'=>hb'.imp id (fun h=>by simp [h])) (fun _ _=>rfl) r2
 | st f ih=>intro x cs fo ht H; exact ih (x:=x) ht H
 | gap n=>intro x cs fo _ H; exact ⟨[],[],by rw [H.1]; exact .refl _,rfl,H.2⟩
theorem rF {h:Heap} {own own':List TypeId} {ok:Nat→Prop} :
  ∀{k:K} {x:El k} {cs:List Value} {fo:List Nat},(∀t∈k.tys,az t own'=az t own)→Ow h own ok k x cs fo→Ow h own' ok k x cs fo:=by
 intro k
 induction k with
 | int ik=>intro x cs fo _ H; exact H
 | bool=>intro x cs fo _ H; exact H
 | id e=>intro x cs fo _ H; exact H
 | str=>intro x cs fo _ H; exact H
 | sl e k ih=>
  intro x cs fo ht H
  unfold Ow at H ⊢
  rw [ht e (by simp [K.tys])]
  split
  ·rename_i hm
   rw [if_pos hm] at H
   obtain ⟨a,n,c,e1,e2,e3,H⟩:=H
   refine ⟨a,n,c,e1,e2,e3, ?_⟩
   rcases H with H | ⟨b,o,arr,lo,hi,ea,hb,hf,hs,bD,hl,hp,H⟩
   ·exact .inl H
   ·refine .inr ⟨b,o,arr,lo,hi,ea,hb,hf,hs,bD,hl,hp,fun i hi=>?_⟩
    obtain ⟨ds,h1,h2⟩:=H i hi
    exact ⟨ds,h1,ih (fun t ht'=>ht t (by simp [K.tys,ht'])) h2⟩
  ·rename_i hm
   rw [if_neg hm] at H
   exact H
 | unit=>intro x cs fo _ H; exact H
 | pair a b iha ihb=>
  intro x cs fo ht H
  obtain ⟨c1,c2,f1,f2,e,hp,h1,h2⟩:=H
  exact ⟨c1,c2,f1,f2,e,hp,iha (fun t h=>ht t (by simp [K.tys,h])) h1,ihb (fun t h=>ht t (by simp [K.tys,h])) h2⟩
 | st f ih=>intro x cs fo ht H; exact ih (x:=x) ht H
 | gap n=>intro x cs fo _ H; exact H
theorem qp {h:Heap} {own:List TypeId} {ok:Nat→Prop}:∀{k:K} {x:El k} {cs:List Value},(∀t∈k.tys,az t own=false)→Vw h ok k x cs→Ow h own ok k x cs []:=by
 intro k
 induction k with
 | int ik=>intro x cs _ H; exact ⟨rfl,H⟩
 | bool=>intro x cs _ H; exact ⟨rfl,H⟩
 | id e=>intro x cs _ H; exact ⟨rfl,H⟩
 | str=>intro x cs _ H; exact ⟨rfl,H⟩
 | sl e k ih=>
  intro x cs ht H
  unfold Ow
  rw [if_neg (by rw [ht e (by simp [K.tys])]; simp)]
  exact ⟨rfl,H⟩
 | unit=>intro x cs _ H; exact ⟨rfl,H⟩
 | pair a b iha ihb=>
  intro x cs ht H
  obtain ⟨c1,c2,e,h1,h2⟩:=H
  exact ⟨c1,c2,[],[],e, .refl _,iha (fun t h=>ht t (by simp [K.tys,h])) h1,ihb (fun t h=>ht t (by simp [K.tys,h])) h2⟩
 | st f ih=>intro x cs ht H; exact ih (x:=x) ht H
 | gap n=>intro x cs _ H; exact ⟨rfl,H⟩
end
section
open Go
variable [Fr]
def bB:Nat→K→Option (Nat×K)
 | 0, .pair a _=>some (0,a)
 | n+1, .pair a b=>match bB n b with
  | some (o,k)=>some (a.size+o,k)
  | none=>none
 | _,_=>none
def qb (h:Heap) (b o n:Nat):List Value:=(List.range n).map fun j=>(cellAt h b (o+j)).getD undef
theorem iq {h:Heap} {b o:Nat} {cs:List Value} (H:Cells h b o cs):qb h b o cs.length=cs:=by
 unfold qb
 apply List.ext_getElem
 ·simp
 ·intro i h1 h2
  simp [H i h2,anw h2]
def bG (h:Heap):List Stp→(k:K)→List Value→Option (Nat×Nat)→Option (List Value×Option (Nat×Nat))
 | [],_,cs,wh=>some (cs,wh)
 | .fJ n :: p, .st c,cs,wh=>match bB n c with
  | some (off,k')=>bG h p k' ((cs.drop off).take k'.size) (wh.map fun q=>(q.1,q.2+off))
  | none=>none
 | .idx i :: p, .sl _ k,cs,_=>match cs with
  | [.slice (some a) _ _]=>bG h p k (qb h a.block (a.off+i.toNat * k.size) k.size) (some (a.block,a.off+i.toNat * k.size))
  | _=>none
 | _,_,_,_=>none
def ng:List Stp→(k:K)→El k→Prop
 | [],_,_=>True
 | .fJ n :: p, .st c,x=>match aO n c x with
  | some d=>ng p d.1 d.2
  | none=>False
 | .idx i :: p, .sl _ k,xs=>0≤i∧i<((show List (El k) from xs).length:Int)∧ng p k ((show List (El k) from xs).getD i.toNat k.zero)
 | _,_,_=>False
def gM (h h':Heap) (b o n:Nat):Prop:=
 ∃arr kF e fr,h b=some (.cells arr e fr)∧h' b=some (.cells kF e fr)∧kF.size=arr.size∧∀i,¬(o≤i∧i<o+n)→kF[i]?=arr[i]?
theorem gM.of_same {h h':Heap} {b:Nat} (o n:Nat) {arr:Array Value} {e:TypeId} {fr:Nat×Nat} (e1:h b=some (.cells arr e fr)) (e2:h' b=h b):gM h h' b o n:=
 ⟨arr,arr,e,fr,e1,e2.trans e1,rfl,fun _ _=>rfl⟩
theorem gM.cells {h h':Heap} {b o n o':Nat} {cs:List Value} (H:gM h h' b o n) (hc:Cells h b o' cs) (hd:o'+cs.length≤o∨o+n≤o'):Cells h' b o' cs:=by
 obtain ⟨arr,kF,e,fr,h1,h2,_,h3⟩:=H
 intro i hi
 have:=hc i hi
 unfold cellAt at this ⊢
 rw [h1] at this
 rw [h2]
 simp only at this ⊢
 rw [h3 _ (by omega)]
 exact this
theorem gM.cellAt {h h':Heap} {b o n:Nat} (H:gM h h' b o n) {i:Nat} (hi:¬(o≤i∧i<o+n)):cellAt h' b i=cellAt h b i:=by
 obtain ⟨arr,kF,e,fr,h1,h2,_,h3⟩:=H
 unfold Ow.cellAt
 rw [h1,h2]
 exact h3 i hi
theorem Cells.append {h:Heap} {b o:Nat} {c1 c2:List Value}:Cells h b o (c1++c2)↔Cells h b o c1∧Cells h b (o+c1.length) c2:=by
 constructor
 ·intro H
  refine ⟨fun i hi=>?_,fun i hi=>?_⟩
  ·rw [H i (by simp; omega),List.getElem?_append_left hi]
  ·have:=H (c1.length+i) (by simp; omega)
   rw [List.getElem?_append_right (by omega)] at this
   rw [Nat.add_assoc,this]
   congr 1
   omega
 ·rintro ⟨H1,H2⟩ i hi
  by_cases h1:i<c1.length
  ·rw [H1 i h1,List.getElem?_append_left h1]
  ·have:=H2 (i - c1.length) (by simp at hi; omega)
   rw [List.getElem?_append_right (by omega), ←this]
   congr 1
   omega
theorem yF {a b c:List Nat}:(a++(b++c)).Perm (b++(a++c)):=by
 rw [←anE, ←anE]
 exact List.Perm.append_right _ List.perm_append_comm
theorem yu:∀(n:Nat) {c:K} {x:El c} {t z:Dat},cz n c x t=some z→aO n z.1 z.2=some t:=by
 intro n
 induction n with
 | zero=>
  intro c x t z h
  cases c with
  | pair a b=>simp only [cz,anh] at h; subst h; rfl
  | _=>simp [cz] at h
 | succ n ih=>
  intro c x t z h
  cases c with
  | pair a b=>
   simp only [cz] at h
   cases h2:cz n b x.2 t with
   | none=>rw [h2] at h; simp at h
   | some y=>rw [h2] at h; simp only [anh] at h; subst h; exact ih h2
  | _=>simp [cz] at h
theorem Jw:∀(n:Nat) {c:K} {x:El c} {s t z:Dat},aO n c x=some s→cz n c x t=some z→t.1=s.1→z.1=c:=by
 intro n
 induction n with
 | zero=>
  intro c x s t z hg h e
  cases c with
  | pair a b=>
   simp only [aO,anh] at hg
   simp only [cz,anh] at h
   subst hg; subst h
   simp only at e
   simp [e]
  | _=>simp [cz] at h
 | succ n ih=>
  intro c x s t z hg h e
  cases c with
  | pair a b=>
   simp only [aO] at hg
   simp only [cz] at h
   cases h2:cz n b x.2 t with
   | none=>rw [h2] at h; simp at h
   | some y=>rw [h2] at h; simp only [anh] at h; subst h; simp [ih hg h2 e]
  | _=>simp [cz] at h
theorem zm:∀(n:Nat) {c:K} {x:El c} {t z:Dat} {off:Nat} {k':K},bB n c=some (off,k')→cz n c x t=some z→bB n z.1=some (off,t.1):=by
 intro n
 induction n with
 | zero=>
  intro c x t z off k' ho h
  cases c with
  | pair a b=>
   simp only [cz,anh] at h
   subst h
   simp only [bB,anh,ant] at ho ⊢
   exact ⟨ho.1,trivial⟩
  | _=>simp [cz] at h
 | succ n ih=>
  intro c x t z off k' ho h
  cases c with
  | pair a b=>
   simp only [cz] at h
   cases h2:cz n b x.2 t with
   | none=>rw [h2] at h; simp at h
   | some y=>
    rw [h2] at h
    simp only [anh] at h
    subst h
    simp only [bB] at ho ⊢
    cases h3:bB n b with
    | none=>rw [h3] at ho; simp at ho
    | some q=>
     rw [h3] at ho
     simp only [Option.map_some,anh,ant] at ho
     rw [ih (k':=q.2) (off:=q.1) (by rw [h3]) h2]
     simp [←ho.1]
  | _=>simp [cz] at h
theorem Ir {h:Heap} {own:List TypeId} {ok:Nat→Prop}:∀(n:Nat) {c:K} {x:El c} {cs:List Value} {fo:List Nat} {d:Dat},
  Ow h own ok c x cs fo→aO n c x=some d→
   ∃off pre cs1 post fK fr,bB n c=some (off,d.1)∧cs=pre++(cs1++post)∧pre.length=off∧fo.Perm (fK++fr)∧Ow h own ok d.1 d.2 cs1 fK∧
    (∀(h':Heap) (ok':Nat→Prop) (t:Dat) (pM:List Value) (uZ:List Nat) (z:Dat),cz n c x t=some z→Ow h' own ok' t.1 t.2 pM uZ→
     (∀b,ok b→ok' b∧h' b=h b)→(∀b∈fr,h' b=h b)→Ow h' own ok' z.1 z.2 (pre++(pM++post)) (uZ++fr))∧
    ∀m s2,m≠n→aO m c x=some s2→∃off2 cs2 fo2,bB m c=some (off2,s2.1)∧(cs.drop off2).take s2.1.size=cs2∧Ow h own ok s2.1 s2.2 cs2 fo2∧(∀b∈fo2,b∈fr)∧
     (∀pM:List Value,pM.length=d.1.size→((pre++(pM++post)).drop off2).take s2.1.size=cs2)∧∀t z,cz n c x t=some z→aO m z.1 z.2=some s2:=by
 intro n
 induction n with
 | zero=>
  intro c x cs fo d H hg
  cases c with
  | pair a b=>
   simp only [aO,anh] at hg
   subst hg
   obtain ⟨c1,c2,f1,f2,e,hp,h1,h2⟩:=H
   refine ⟨0,[],c1,c2,f1,f2,rfl,by simpa using e,rfl,hp,h1, ?_, ?_⟩
   ·intro h' ok' t pM uZ z hz ht hok hfr
    simp only [cz,anh] at hz
    subst hz
    exact ⟨pM,c2,uZ,f2,by simp, .refl _,ht,bz (fun b hb=>(hok b hb).2) (fun b hb=>(hok b hb).1) hfr h2⟩
   ·intro m s2 hm hg2
    cases m with
    | zero=>exact absurd rfl hm
    | succ m=>
     simp only [aO] at hg2
     have key:∀(m:Nat) {c:K} {x:El c} {cs:List Value} {fo:List Nat} {d:Dat},Ow h own ok c x cs fo→aO m c x=some d→
       ∃off cs1 fK,bB m c=some (off,d.1)∧(cs.drop off).take d.1.size=cs1∧(∀b∈fK,b∈fo)∧Ow h own ok d.1 d.2 cs1 fK:=by
      intro m
      induction m with
      | zero=>
       intro c x cs fo d H hg
       cases c with
       | pair a b=>
        simp only [aO,anh] at hg
        subst hg
        obtain ⟨c1,c2,f1,f2,rfl,hp,h1,h2⟩:=H
        exact ⟨0,c1,f1,rfl,by simp [←dh h1],fun b hb=>hp.mem_iff.2 (by simp [hb]),h1⟩
       | _=>simp [aO] at hg
      | succ m ih=>
       intro c x cs fo d H hg
       cases c with
       | pair a b=>
        simp only [aO] at hg
        obtain ⟨c1,c2,f1,f2,rfl,hp,h1,h2⟩:=H
        obtain ⟨off,cs1,fK,g1,g2,g3,g4⟩:=ih h2 hg
        refine ⟨a.size+off,cs1,fK,by simp [bB,g1], ?_,fun b hb=>hp.mem_iff.2 (by simp [g3 b hb]),g4⟩
        rw [←g2, ←dh h1, ←List.drop_drop]
        simp
       | _=>simp [aO] at hg
     obtain ⟨off2,cs2,fo2,g1,g2,g3,g4⟩:=key m h2 hg2
     refine ⟨a.size+off2,cs2,fo2,by simp [bB,g1], ?_,g4,g3, ?_, ?_⟩
     ·rw [e, ←g2, ←dh h1, ←List.drop_drop]; simp
     ·intro pM hl
      simp only at hl
      rw [←g2, ←hl, ←List.drop_drop]; simp
     ·intro t z hz
      simp only [cz,anh] at hz
      subst hz
      exact hg2
  | _=>simp [aO] at hg
 | succ n ih=>
  intro c x cs fo d H hg
  cases c with
  | pair a b=>
   simp only [aO] at hg
   obtain ⟨c1,c2,f1,f2,e,hp,h1,h2⟩:=H
   obtain ⟨off,pre,cs1,post,fK,fr,ho,ec,hl,hp',hd,hu,hoth⟩:=ih h2 hg
   refine ⟨a.size+off,c1++pre,cs1,post,fK,f1++fr, ?_,by rw [e,ec]; simp,by simp [dh h1,hl], ?_,hd, ?_, ?_⟩
   ·simp [bB,ho]
   ·exact (hp.trans (List.Perm.append_left _ hp')).trans yF
   ·intro h' ok' t pM uZ z hz ht hok hfr
    simp only [cz] at hz
    cases hz2:cz n b x.2 t with
    | none=>rw [hz2] at hz; simp at hz
    | some z2=>
     rw [hz2] at hz
     simp only [anh] at hz
     subst hz
     have r2:=hu h' ok' t pM uZ z2 hz2 ht hok (fun b hb=>hfr b (by simp [hb]))
     exact ⟨c1,pre++(pM++post),f1,uZ++fr,by simp,yF,bz (fun b hb=>(hok b hb).2) (fun b hb=>(hok b hb).1) (fun b hb=>hfr b (by simp [hb])) h1,r2⟩
   ·intro m s2 hm hg2
    cases m with
    | zero=>
     simp only [aO,anh] at hg2
     subst hg2
     refine ⟨0,c1,f1,rfl,by rw [e, ←dh h1]; simp,h1,fun b hb=>by simp [hb],fun pM _=>by rw [←dh h1]; simp, ?_⟩
     intro t z hz
     simp only [cz] at hz
     cases hz2:cz n b x.2 t with
     | none=>rw [hz2] at hz; simp at hz
     | some z2=>rw [hz2] at hz; simp only [anh] at hz; subst hz; rfl
    | succ m=>
     simp only [aO] at hg2
     obtain ⟨off2,cs2,fo2,g1,g2,g3,g4,g5,g6⟩:=hoth m s2 (by omega) hg2
     refine ⟨a.size+off2,cs2,fo2,by simp [bB,g1], ?_,g3,fun b hb=>by simp [g4 b hb], ?_, ?_⟩
     ·rw [e, ←g2, ←dh h1, ←List.drop_drop]; simp
     ·intro pM hl'
      rw [←g5 pM hl', ←dh h1, ←List.drop_drop]; simp
     ·intro t z hz
      simp only [cz] at hz
      cases hz2:cz n b x.2 t with
      | none=>rw [hz2] at hz; simp at hz
      | some z2=>rw [hz2] at hz; simp only [anh] at hz; subst hz; exact g6 t z2 hz2
  | _=>simp [aO] at hg
theorem Rp:∀(n:Nat) {c:K} {x:El c} {s u y:Dat},aO n c x=some s→cz n c x u=some y→u.1.size=s.1.size→y.1.size=c.size:=by
 intro n
 induction n with
 | zero=>
  intro c x s u y h1 h2 e
  cases c with
  | pair a b=>simp only [aO,cz,anh] at h1 h2; subst h1; subst h2; simp only at e; simp [K.size,e]
  | _=>simp [aO] at h1
 | succ n ih=>
  intro c x s u y h1 h2 e
  cases c with
  | pair a b=>
   simp only [aO,cz] at h1 h2
   cases h3:cz n b x.2 u with
   | none=>rw [h3] at h2; simp at h2
   | some y2=>rw [h3] at h2; simp only [anh] at h2; subst h2; simp [K.size,ih h1 h3 e]
  | _=>simp [aO] at h1
theorem DW:∀(n m:Nat) {c:K} {x:El c} {s u y:Dat} {off2:Nat} {k2:K},m≠n→aO n c x=some s→cz n c x u=some y→u.1.size=s.1.size→bB m c=some (off2,k2)→bB m y.1=some (off2,k2):=by
 intro n
 induction n with
 | zero=>
  intro m c x s u y off2 k2 hm h1 h2 e h3
  cases c with
  | pair a b=>
   simp only [aO,cz,anh] at h1 h2
   subst h1; subst h2
   cases m with
   | zero=>exact absurd rfl hm
   | succ m=>simp only [bB] at h3 ⊢; simp only at e; rw [e]; exact h3
  | _=>simp [aO] at h1
 | succ n ih=>
  intro m c x s u y off2 k2 hm h1 h2 e h3
  cases c with
  | pair a b=>
   simp only [aO,cz] at h1 h2
   cases h4:cz n b x.2 u with
   | none=>rw [h4] at h2; simp at h2
   | some y2=>
    rw [h4] at h2
    simp only [anh] at h2
    subst h2
    cases m with
    | zero=>simp only [bB] at h3 ⊢; exact h3
    | succ m=>
     simp only [bB] at h3 ⊢
     cases h5:bB m b with
     | none=>rw [h5] at h3; simp at h3
     | some q=>
      rw [h5] at h3
      rw [ih m (off2:=q.1) (k2:=q.2) (by omega) h1 h4 e (by rw [h5])]
      exact h3
  | _=>simp [aO] at h1
theorem qd {pre cs1 post:List Value} {off n:Nat} (h1:pre.length=off) (h2:cs1.length=n):((pre++(cs1++post)).drop off).take n=cs1:=by
 subst h1; subst h2; simp
theorem bZ {A:Type} {l:List A} {d:A} {i:Nat} (h:i<l.length):l.getD i d=l[i]:=by
 rw [anv,anw h]; rfl
theorem MO {bD:List (List Nat)} {i:Nat} (h:i<bD.length):bD.flatten.Perm (bD.getD i []++((bD.take i).flatten++(bD.drop (i+1)).flatten)):=by
 have e:bD=bD.take i++(bD.getD i [] :: bD.drop (i+1)):=by
  rw [bZ h, ←List.drop_eq_getElem_cons h,List.take_append_drop]
 have:bD.flatten=(bD.take i).flatten++(bD.getD i []++(bD.drop (i+1)).flatten):=by
  rw [congrArg List.flatten e]; simp
 rw [this]
 exact yF
theorem Yy {bD:List (List Nat)} {i:Nat} (h:i<bD.length) (q:List Nat):(bD.set i q).flatten.Perm (q++((bD.take i).flatten++(bD.drop (i+1)).flatten)):=by
 have h':i<(bD.set i q).length:=by simpa using h
 have:=MO h'
 rw [bZ h',List.getElem_set_self] at this
 simpa [List.take_set_of_le,List.drop_set_of_lt] using this
theorem bW:∀(n:Nat) {c:K} {x:El c} {s:Dat},aO n c x=some s→ah.Hu n c=some s.1:=by
 intro n
 induction n with
 | zero=>
  intro c x s e
  cases c with
  | pair a b=>simp only [aO,anh] at e; subst e; rfl
  | _=>simp [aO] at e
 | succ n ih=>
  intro c x s e
  cases c with
  | pair a b=>simp only [aO] at e; exact ih e
  | _=>simp [aO] at e
theorem Kr {h h':Heap} {own:List TypeId} {ok:Nat→Prop}:∀(p:List Stp) {k:K} {x:El k} {cs:List Value} {fo:List Nat} {wh:Option (Nat×Nat)},
  Ow h own ok k x cs fo→ng p k x→(∀t∈ah p k,az t own=true)→(∀b∈fo,h' b=h b)→bG h' p k cs wh=bG h p k cs wh:=by
 intro p
 induction p with
 | nil=>intro k x cs fo wh _ _ _ _; rfl
 | cons s p ih=>
  intro k x cs fo wh H hin NR hfo
  cases s with
  | fJ n=>
   cases k with
   | st c=>
    simp only [ng] at hin
    cases hcg:aO n c x with
    | none=>rw [hcg] at hin; exact hin.elim
    | some s=>
     rw [hcg] at hin
     obtain ⟨off,pre,cs0,post,xQ,fr,ho,ec,hl,hp,hd,_⟩:=Ir n (show Ow h own ok c x cs fo from H) hcg
     have hpt:ah (.fJ n :: p) (.st c)=ah p s.1:=by simp [ah,bW n hcg]
     rw [hpt] at NR
     simp only [bG]
     rw [ho]
     simp only
     rw [ec,qd hl (dh hd)]
     exact ih hd hin NR (fun b hb=>hfo b (hp.mem_iff.2 (anm _ hb)))
   | _=>simp [ng] at hin
  | idx i=>
   cases k with
   | sl e k=>
    simp only [ng] at hin
    obtain ⟨hi0,hi1,hin⟩:=hin
    have aka:i<((@List.length (El k) x:Nat):Int):=hi1
    have hlt:i.toNat < @List.length (El k) x:=by omega
    have eg:(show List (El k) from x).getD i.toNat k.zero=(show List (El k) from x)[i.toNat]'hlt:=bZ hlt
    rw [eg] at hin
    unfold Ow at H
    rw [if_pos (NR e (by simp [ah]))] at H
    obtain ⟨a,n,c,e1,e2,e3,H⟩:=H
    have e2':n=@List.length (El k) x:=e2
    rcases H with ⟨h0,_⟩ | ⟨b,o,arr,lo,hi,ea,hb,hf,hs,bD,hfl,hp,H⟩
    ·omega
    ·obtain ⟨ds,hcd,hod⟩:=H i.toNat hlt
     have hbb:h' b=h b:=hfo b (hp.mem_iff.2 (by simp))
     have r1:=iq hcd
     have r2:=iq (hcd.congr hbb)
     rw [dh hod] at r1 r2
     subst e1
     subst ea
     simp only [bG]
     rw [r1,r2]
     exact ih hod hin (fun t ht=>NR t (by simp [ah,ht])) (fun b' hb'=>hfo b' (hp.mem_iff.2 (by simp [rU hb'])))
   | _=>simp [ng] at hin
def Ip (h h':Heap) (own:List TypeId) (k:K) (x:El k) (cs:List Value) (wh:Option (Nat×Nat)) (z:Dat) (cs':List Value) (bad:List TypeId):Prop:=
 ∀q c0 w0,ng q k x→(∀t∈ah q k,az t own=true∧t∉bad)→bG h q k cs wh=some (c0,w0)→(aQ q z.1 z.2).isSome=true→ng q z.1 z.2∧∃c1,bG h' q z.1 cs' wh=some (c1,w0)
structure Upd (h:Heap) (own:List TypeId) (ok:Nat→Prop) (p:List Stp) (k:K) (x:El k) (cs:List Value) (wh:Option (Nat×Nat)) (d:Dat) (rest:List Nat) (cs1:List Value) (nE:Option (Nat×Nat)):Prop where
 go:∀(h':Heap) (ok':Nat→Prop) (t:Dat) (pM:List Value) (uZ:List Nat) (z:Dat),dX p k x t=some z→pM.length=d.1.size→Ow h' own ok' t.1 t.2 pM uZ→
  (∀b,ok b→ok' b∧h' b=h b)→(∀b∈rest,nE.map (·.1)≠some b→h' b=h b)→
  (∀b o,nE=some (b,o)→Cells h' b o pM∧gM h h' b o d.1.size)→
  (nE=none→pM=cs1)→(∀b o,wh=some (b,o)→nE.map (·.1)≠some b→h' b=h b)→
  ∃cs',cs'.length=cs.length∧Ow h' own ok' z.1 z.2 cs' (uZ++rest)∧(∀b o,wh=some (b,o)→Cells h' b o cs')∧(wh=none→cs'=cs)∧
   ∀bad,t.1.size=d.1.size→Ip h h' own d.1 d.2 cs1 nE t pM bad→(t.1=d.1→z.1=k)∧z.1.size=k.size∧Ip h h' own k x cs wh z cs' bad∧bG h' p z.1 cs' wh=some (pM,nE)
def Foc (h:Heap) (own:List TypeId) (ok:Nat→Prop) (p:List Stp) (k:K) (x:El k) (cs:List Value) (fo:List Nat) (wh:Option (Nat×Nat)) (d:Dat):Prop:=
 ∃cs1 fK rest nE,bG h p k cs wh=some (cs1,nE)∧fo.Perm (fK++rest)∧Ow h own ok d.1 d.2 cs1 fK∧(∀b o,nE=some (b,o)→Cells h b o cs1)∧
  (∀b o,nE=some (b,o)→(ah p k=[]∧∃o0,wh=some (b,o0)∧o0≤o∧o+d.1.size≤o0+k.size)∨
   (b∈rest∧∃arr e lo hi,h b=some (.cells arr e (lo,hi))∧(∀i,i<arr.size→¬(lo≤i∧i<hi))∧(ah p k).getLast?=some e∧o+d.1.size≤arr.size))∧
  (nE=none→wh=none)∧Upd h own ok p k x cs wh d rest cs1 nE
theorem rT {wh:Option (Nat×Nat)} {off b o:Nat} (e:wh.map (fun q=>(q.1,q.2+off))=some (b,o)):∃o0,wh=some (b,o0)∧o=o0+off:=by
 cases wh with
 | none=>simp at e
 | some q=>
  simp only [Option.map_some,anh,ant] at e
  exact ⟨q.2,by rw [←e.1],e.2.symm⟩
theorem ZO {h:Heap} {own:List TypeId} {ok:Nat→Prop} {p:List Stp} {n:Nat} {c:K} {x:El c} {cs:List Value} {fo:List Nat} {wh:Option (Nat×Nat)} {s d:Dat}
  (H:Ow h own ok c x cs fo) (hc:∀b o,wh=some (b,o)→Cells h b o cs) (hcg:aO n c x=some s) (hnd:fo.Nodup) (hbase:∀b o,wh=some (b,o)→b∉fo)
  (ih:∀{cs0:List Value} {xQ:List Nat} {Za:Option (Nat×Nat)},Ow h own ok s.1 s.2 cs0 xQ→(∀b o,Za=some (b,o)→Cells h b o cs0)→xQ.Nodup→(∀b o,Za=some (b,o)→b∉xQ)→Foc h own ok p s.1 s.2 cs0 xQ Za d) :
  Foc h own ok (.fJ n :: p) (.st c) x cs fo wh d:=by
 obtain ⟨off,pre,cs0,post,xQ,fr,ho,ec,hl,hp,hd,hu,hoth⟩:=Ir n H hcg
 have hsz:=dh hd
 have hpt:ah (.fJ n :: p) (.st c)=ah p s.1:=by simp [ah,bW n hcg]
 have hnd':(xQ++fr).Nodup:=hp.nodup hnd
 have hsub:(cs.drop off).take s.1.size=cs0:=by rw [ec]; exact qd hl hsz
 have hlen:cs.length=c.size:=dh H
 have alh:off+s.1.size+post.length=c.size:=by rw [←hlen,ec]; simp [hl,hsz]; omega
 obtain ⟨cs1,fK,rest,nE,hn,hp1,hd1,hc1,hin1,hnone,hup⟩:=ih (Za:=wh.map fun q=>(q.1,q.2+off)) hd
  (fun b o e=>by
   obtain ⟨o0,e1,rfl⟩:=rT e
   have:=hc b o0 e1
   rw [ec,Cells.append,Cells.append] at this
   rw [←hl]
   exact this.2.1) (ano.1 hnd').1
  (fun b o e hb=>by
   obtain ⟨o0,e1,rfl⟩:=rT e
   exact hbase b o0 e1 (hp.mem_iff.2 (anm _ hb)))
 have aj4:∀b o,nE=some (b,o)→b∉fr:=by
  intro b o e hb
  rcases hin1 b o e with ⟨_,o0,ew,_⟩ | ⟨h1,_⟩
  ·obtain ⟨o1,e1,_⟩:=rT ew
   exact hbase b o1 e1 (hp.mem_iff.2 (anj _ hb))
  ·exact (ano.1 hnd').2.2 b (hp1.mem_iff.2 (anj _ h1)) b hb rfl
 refine ⟨cs1,fK,rest++fr,nE, ?_, ?_,hd1,hc1, ?_, ?_,⟨?_⟩⟩
 ·simp only [bG]
  rw [ho]
  simp only
  rw [hsub]
  exact hn
 ·rw [←anE]
  exact hp.trans (List.Perm.append_right _ hp1)
 ·intro b o e
  rw [hpt]
  rcases hin1 b o e with ⟨h0,o0,ew,h1,h2⟩ | ⟨h1,h2⟩
  ·obtain ⟨o1,e1,rfl⟩:=rT ew
   refine .inl ⟨h0,o1,e1,by omega, ?_⟩
   show o+d.1.size≤o1+c.size
   omega
  ·exact .inr ⟨anm _ h1,h2⟩
 ·intro e
  have:=hnone e
  cases wh with
  | none=>rfl
  | some q=>simp at this
 ·intro h' ok' t pM uZ z hz hl' ht hok hrest hw hcs hb0
  simp only [dX,hcg] at hz
  cases hs:dX p s.1 s.2 t with
  | none=>rw [hs] at hz; simp at hz
  | some u=>
   rw [hs] at hz
   simp only at hz
   cases hcp:cz n c x u with
   | none=>rw [hcp] at hz; simp at hz
   | some y=>
    rw [hcp] at hz
    simp only [anh] at hz
    subst hz
    obtain ⟨ZE,hl0,ho0,hc0,hn0,hnk⟩:=hup.go h' ok' t pM uZ u hs hl' ht hok (fun b hb=>hrest b (anm _ hb)) hw hcs
     (fun b o e=>by
      obtain ⟨o0,e1,_⟩:=rT e
      exact hb0 b o0 e1)
    have hfr:∀b∈fr,h' b=h b:=by
     intro b hb
     refine hrest b (anj _ hb) ?_
     intro e
     cases zB:nE with
     | none=>rw [zB] at e; simp at e
     | some q=>
      rw [zB] at e
      simp only [Option.map_some,anh] at e
      exact aj4 q.1 q.2 zB (e▸hb)
    have r:=hu h' ok' u ZE (uZ++rest) y hcp ho0 hok hfr
    refine ⟨pre++(ZE++post),by rw [ec]; simp [hl0], ?_, ?_, ?_, ?_⟩
    ·have r':Ow h' own ok' y.1 y.2 (pre++(ZE++post)) (uZ++(rest++fr)):=by
      rw [show uZ++(rest++fr)=uZ++rest++fr from (anE ..).symm]; exact r
     exact r'
    ·intro b o e
     have hwc:=hc b o e
     rw [ec,Cells.append,Cells.append] at hwc
     have hc0':=hc0 b (o+off) (by rw [e]; rfl)
     rw [Cells.append,Cells.append,hl0,hsz,hl]
     have acW:=hwc.2.2
     rw [hsz,hl] at acW
     by_cases hbw:nE.map (·.1)=some b
     ·cases zB:nE with
      | none=>rw [zB] at hbw; simp at hbw
      | some q=>
       rw [zB] at hbw
       simp only [Option.map_some,anh] at hbw
       subst hbw
       have hsb:=(hw q.1 q.2 zB).2
       rcases hin1 q.1 q.2 zB with ⟨_,o0,ew,g1,g2⟩ | ⟨h1,_⟩
       ·rw [e] at ew
        simp only [Option.map_some,anh,ant,true_and] at ew
        exact ⟨hsb.cells hwc.1 (.inl (by omega)),hc0',hsb.cells acW (.inr (by omega))⟩
       ·exact absurd (hp.mem_iff.2 (anm _ (hp1.mem_iff.2 (anj _ h1)))) (hbase q.1 o e)
     ·have hbb:=hb0 b o e hbw
      exact ⟨hwc.1.congr hbb,hc0',acW.congr hbb⟩
    ·intro e
     have:=hn0 (by rw [e]; rfl)
     rw [this,ec]
    ·intro bad hkind Cb
     obtain ⟨n1,n3,n2,n4⟩:=hnk bad hkind Cb
     refine ⟨fun e=>congrArg K.st (Jw n hcg hcp (n1 e)),(show y.1.size=c.size from Rp n hcg hcp n3), ?_,by
      show bG h' (.fJ n :: p) (.st y.1) _ _=_
      simp only [bG]
      rw [zm n ho hcp]
      simp only
      rw [qd hl (dh ho0)]
      exact n4⟩
     intro q c0 w0 hq hqt NQ hqs
     cases q with
     | nil=>
      simp only [bG,anh,ant] at NQ ⊢
      exact ⟨trivial,_,rfl,NQ.2⟩
     | cons sq q=>
      cases sq with
      | idx i=>simp [ng] at hq
      | fJ m=>
       simp only [ng] at hq
       cases hg2:aO m c x with
       | none=>rw [hg2] at hq; exact hq.elim
       | some s2=>
        rw [hg2] at hq
        have akt:ah (.fJ m :: q) (.st c)=ah q s2.1:=by simp [ah,bW m hg2]
        rw [akt] at hqt
        by_cases hmn:m=n
        ·subst hmn
         rw [hcg] at hg2
         simp only [anh] at hg2
         subst hg2
         simp only [bG] at NQ
         rw [ho] at NQ
         simp only at NQ
         rw [hsub] at NQ
         obtain ⟨r1,c1,r2⟩:=n2 q c0 w0 hq hqt NQ (by
          have:(aQ (.fJ m :: q) (.st y.1) y.2).isSome=true:=hqs
          simpa only [aQ,yu m hcp] using this)
         refine ⟨?_,c1, ?_⟩
         ·show ng (.fJ m :: q) (.st y.1) y.2
          simp only [ng,yu m hcp]
          exact r1
         ·show bG h' (.fJ m :: q) (.st y.1) _ _=_
          simp only [bG]
          rw [zm m ho hcp]
          simp only
          rw [qd hl (dh ho0)]
          exact r2
        ·obtain ⟨off2,cs2,fo2,g1,g2,g3,g4,g5,g6⟩:=hoth m s2 hmn hg2
         simp only [bG] at NQ
         rw [g1] at NQ
         simp only at NQ
         rw [g2] at NQ
         have g7:=g6 u y hcp
         refine ⟨?_,c0, ?_⟩
         ·show ng (.fJ m :: q) (.st y.1) y.2
          simp only [ng,g7]
          exact hq
         ·show bG h' (.fJ m :: q) (.st y.1) _ _=_
          simp only [bG]
          rw [DW n m hmn hcg hcp n3 g1]
          simp only
          rw [g5 ZE (by rw [hl0,hsz]), ←NQ]
          exact Kr q g3 hq (fun t ht=>(hqt t ht).1) (fun b hb=>hfr b (g4 b hb))
theorem ZP {h:Heap} {own:List TypeId} {ok:Nat→Prop} {p:List Stp} {i:Int} {e:TypeId} {k:K} {xs:List (El k)} {cs:List Value} {fo:List Nat} {wh:Option (Nat×Nat)} {d:Dat}
  (H:Ow h own ok (.sl e k) xs cs fo) (hc:∀b o,wh=some (b,o)→Cells h b o cs) (hnd:fo.Nodup) (hbase:∀b o,wh=some (b,o)→b∉fo) (hmem:az e own=true) (hlt:i.toNat<xs.length)
  (ih:∀{cs0:List Value} {xQ:List Nat} {Za:Option (Nat×Nat)},Ow h own ok k xs[i.toNat] cs0 xQ→(∀b o,Za=some (b,o)→Cells h b o cs0)→xQ.Nodup→(∀b o,Za=some (b,o)→b∉xQ)→Foc h own ok p k xs[i.toNat] cs0 xQ Za d) :
  Foc h own ok (.idx i :: p) (.sl e k) xs cs fo wh d:=by
 unfold Ow at H
 rw [if_pos hmem] at H
 obtain ⟨a,n,c,e1,e2,e3,H⟩:=H
 have e2':n=xs.length:=e2
 rcases H with ⟨h0,_⟩ | ⟨b,o,arr,lo,hi,ea,hb,hf,ajU,bD,hfl,hp,H⟩
 ·omega
 have ajV:bD.length=xs.length:=hfl
 obtain ⟨ds,hcd,hod⟩:=H i.toNat hlt
 have hnd':(b :: bD.flatten).Nodup:=hp.nodup hnd
 have hnb:b∉bD.flatten:=(anQ.1 hnd').1
 have hpk:=MO (bD:=bD) (i:=i.toNat) (by omega)
 have qN:=hpk.nodup (anQ.1 hnd').2
 obtain ⟨cs1,fK,rest,nE,hn,hp1,hd1,hc1,hin1,hnone,hup⟩:=ih (Za:=some (b,o+i.toNat * k.size)) hod
  (fun b' o' e'=>by
   simp only [anh,ant] at e'
   obtain ⟨rfl,rfl⟩:=e'
   exact hcd) (ano.1 qN).1
  (fun b' o' e' hb'=>by
   simp only [anh,ant] at e'
   obtain ⟨rfl,rfl⟩:=e'
   exact hnb (rU hb'))
 have hdl:ds.length=k.size:=dh hod
 have hwn:nE≠none:=fun e'=>by have:=hnone e'; simp at this
 generalize hR:(bD.take i.toNat).flatten++(bD.drop (i.toNat+1)).flatten=R at *
 have hcap:i.toNat * k.size+k.size≤c * k.size:=by
  have:(i.toNat+1) * k.size≤c * k.size:=anO _ (by omega)
  rw [Nat.add_mul,Nat.one_mul] at this
  exact this
 refine ⟨cs1,fK,b :: (rest++R),nE, ?_, ?_,hd1,hc1, ?_,fun e'=>absurd e' hwn,⟨?_⟩⟩
 ·subst e1
  subst ea
  simp only [bG]
  have:qb h b (o+i.toNat * k.size) k.size=ds:=by
   have:=iq hcd
   rwa [hdl] at this
  rw [this]
  exact hn
 ·refine (hp.trans (.cons b (hpk.trans (List.Perm.append_right _ hp1)))).trans ?_
  rw [anE]
  exact List.perm_middle.symm
 ·intro b' o' e'
  rcases hin1 b' o' e' with ⟨hz,o0,ew,h1,h2⟩ | ⟨h1,kF,e'',lo',hi',g1,g2,g3,g4⟩
  ·simp only [anh,ant] at ew
   obtain ⟨rfl,rfl⟩:=ew
   exact .inr ⟨anP,arr,e,lo,hi,hb,hf,by simp [ah,hz],by omega⟩
  ·refine .inr ⟨by simp [h1],kF,e'',lo',hi',g1,g2, ?_,g4⟩
   simp only [ah,List.getLast?_cons,g3,Option.getD_some]
 ·intro h' ok' t pM uZ z hz hl' ht hok hrest hw hcs hb0
  simp only [dX] at hz
  rw [bZ hlt] at hz
  cases hs:dX p k xs[i.toNat] t with
  | none=>rw [hs] at hz; simp at hz
  | some u=>
   rw [hs] at hz
   simp only at hz
   cases hck:bP u.1 k u.2 with
   | none=>rw [hck] at hz; simp at hz
   | some y=>
    rw [hck] at hz
    simp only [anh] at hz
    subst hz
    obtain ⟨uk,ux⟩:=u
    unfold bP at hck
    split at hck
    case isFalse=>simp at hck
    rename_i hbq
    have hk:=K.eq_of_beq hbq
    simp only at hk
    subst hk
    simp only [anh] at hck
    subst hck
    have hwb:∀q,nE=some q→q.1∉R:=by
     intro q hq hqR
     rcases hin1 q.1 q.2 hq with ⟨_,o0,ew,_⟩ | ⟨h1,_⟩
     ·simp only [anh,ant] at ew
      exact hnb (hpk.mem_iff.2 (anj _ (ew.1▸hqR)))
     ·exact (ano.1 qN).2.2 q.1 (hp1.mem_iff.2 (anj _ h1)) q.1 hqR rfl
    obtain ⟨ds',hl0,ho0,hc0,_,hnk⟩:=hup.go h' ok' t pM uZ ⟨uk,ux⟩ hs hl' ht hok (fun b' hb'=>hrest b' (by simp [hb'])) hw hcs
     (fun b' o' e' hne=>by
      simp only [anh,ant] at e'
      obtain ⟨rfl,rfl⟩:=e'
      exact hrest b anP hne)
    have acu:∀b'∈R,h' b'=h b':=by
     intro b' hb'
     refine hrest b' (by simp [hb']) ?_
     intro e'
     cases zB:nE with
     | none=>exact absurd zB hwn
     | some q=>
      rw [zB] at e'
      simp only [Option.map_some,anh] at e'
      exact hwb q zB (e'▸hb')
    have hblk:∃kF,h' b=some (.cells kF e (lo,hi))∧kF.size=arr.size∧∀j,¬(o+i.toNat * uk.size≤j∧j<o+i.toNat * uk.size+uk.size)→kF[j]?=arr[j]?:=by
     by_cases hbw:nE.map (·.1)=some b
     ·cases zB:nE with
      | none=>exact absurd zB hwn
      | some q=>
       rw [zB] at hbw
       simp only [Option.map_some,anh] at hbw
       obtain ⟨a1,a2,te,fr,g1,g2,g3,g4⟩:=(hw q.1 q.2 zB).2
       rw [hbw] at g1 g2
       rw [hb] at g1
       simp only [anh,Obj.cells.injEq] at g1
       obtain ⟨rfl,rfl,rfl⟩:=g1
       rcases hin1 q.1 q.2 zB with ⟨_,o0,ew,h1,h2⟩ | ⟨h1,_⟩
       ·simp only [anh,ant] at ew
        refine ⟨a2,g2,g3,fun j hj=>g4 j ?_⟩
        intro hj2
        exact hj (by omega)
       ·exact absurd (hpk.mem_iff.2 (anm _ (hp1.mem_iff.2 (anj _ (hbw▸h1))))) hnb
     ·have:=hrest b anP hbw
      exact ⟨arr,this.trans hb,rfl,fun _ _=>rfl⟩
    obtain ⟨kF,hb',hsz',hsame⟩:=hblk
    have hmul:∀a b:Nat,a<b→a * uk.size+uk.size≤b * uk.size:=by
     intro a b hab
     have:(a+1) * uk.size≤b * uk.size:=anO _ (by omega)
     rwa [Nat.add_mul,Nat.one_mul] at this
    have TC:∀(j:Nat) (dj:List Value),j≠i.toNat→dj.length=uk.size→Cells h b (o+j * uk.size) dj→Cells h' b (o+j * uk.size) dj:=by
     intro j dj hji hjl h1 q hq
     have:=h1 q hq
     unfold cellAt at this ⊢
     rw [hb] at this
     rw [hb']
     simp only at this ⊢
     rw [hsame _ (by
      rcases Nat.lt_or_gt_of_ne hji with hlt' | afK
      ·have:=hmul j i.toNat hlt'; omega
      ·have:=hmul i.toNat j afK; omega)]
     exact this
    have TD:∀j,j≠i.toNat→∀q∈bD.getD j [],h' q=h q:=by
     intro j hji q hq
     refine acu q ?_
     rw [←hR]
     by_cases hjf:j<bD.length
     ·rw [anv,anw hjf] at hq
      simp only [Option.getD_some] at hq
      rcases Nat.lt_or_gt_of_ne hji with hlt' | afK
      ·exact anm _ (List.mem_flatten.2 ⟨bD[j],List.mem_take_iff_getElem.2 ⟨j,by omega,rfl⟩,hq⟩)
      ·refine anj _ (List.mem_flatten.2 ⟨bD[j],List.mem_drop_iff_getElem.2 ⟨j - (i.toNat+1),by omega, ?_⟩,hq⟩)
       congr 1
       omega
     ·rw [anv,List.getElem?_eq_none (by omega)] at hq
      simp at hq
    refine ⟨cs,rfl, ?_, ?_,fun _=>rfl, ?_⟩
    ·unfold Ow
     rw [if_pos hmem]
     refine ⟨a,n,c,e1,by rw [e2']; simp,e3, .inr ⟨b,o,kF,lo,hi,ea,hb',by rw [hsz']; exact hf,by rw [hsz']; exact ajU,bD.set i.toNat (uZ++rest),by simp [ajV], ?_, ?_⟩⟩
     ·have:=Yy (bD:=bD) (i:=i.toNat) (by omega) (uZ++rest)
      rw [hR,anE] at this
      exact (List.perm_middle.trans (.cons b this.symm))
     ·intro j hj
      have hj':j<xs.length:=by simpa using hj
      by_cases hji:j=i.toNat
      ·subst hji
       refine ⟨ds',hc0 b _ rfl, ?_⟩
       have e1:(xs.set i.toNat ux)[i.toNat]'(by simpa using hj')=ux:=by simp
       have e2:(bD.set i.toNat (uZ++rest)).getD i.toNat []=uZ++rest:=by
        rw [bZ (by simp; omega)]; simp
       rw [e2]
       show Ow h' own ok' uk ((xs.set i.toNat ux)[i.toNat]'(by simpa using hj')) ds' _
       rw [e1]
       exact ho0
      ·obtain ⟨dj,h1,h2⟩:=H j hj'
       have hjl:dj.length=uk.size:=dh h2
       refine ⟨dj,TC j dj hji hjl h1, ?_⟩
       have e1:(xs.set i.toNat ux)[j]'(by simpa using hj')=xs[j]:=by
        rw [List.getElem_set_ne (by omega)]
       have e2:(bD.set i.toNat (uZ++rest)).getD j []=bD.getD j []:=by
        rw [anv,anv,List.getElem?_set_ne (by omega)]
       rw [e2]
       show Ow h' own ok' uk ((xs.set i.toNat ux)[j]'(by simpa using hj')) dj _
       rw [e1]
       exact bz (fun b hb=>(hok b hb).2) (fun b hb=>(hok b hb).1) (TD j hji) h2
    ·intro b' o' e'
     have hcb:=hc b' o' e'
     by_cases hbw:nE.map (·.1)=some b'
     ·cases zB:nE with
      | none=>exact absurd zB hwn
      | some q=>
       rw [zB] at hbw
       simp only [Option.map_some,anh] at hbw
       have hbf:=hbase b' o' e'
       rcases hin1 q.1 q.2 zB with ⟨_,o0,ew,_⟩ | ⟨h1,_⟩
       ·simp only [anh,ant] at ew
        exact absurd (hp.mem_iff.2 (by rw [←hbw, ←ew.1]; exact anP)) hbf
       ·exact absurd (hp.mem_iff.2 (anH _ (hpk.mem_iff.2 (anm _ (hp1.mem_iff.2 (anj _ (hbw▸h1))))))) hbf
     ·exact hcb.congr (hb0 b' o' e' hbw)
    ·intro bad hkind Cb
     obtain ⟨_,_,n2,n4⟩:=hnk bad hkind Cb
     refine ⟨fun _=>rfl,rfl, ?_,by
      subst e1
      subst ea
      simp only [bG]
      have hr':qb h' b (o+i.toNat * uk.size) uk.size=ds':=by
       have:=iq (hc0 b _ rfl)
       rwa [hl0,hdl] at this
      rw [hr']
      exact n4⟩
     intro q c0 w0 hq hqt NQ hqs
     cases q with
     | nil=>exact ⟨trivial,_,by rw [←(show (cs,wh)=(c0,w0) from by simpa [bG] using NQ)]; rfl⟩
     | cons sq q=>
      cases sq with
      | fJ m=>simp [ng] at hq
      | idx j=>
       simp only [ng] at hq
       obtain ⟨hj0,hj1,hq⟩:=hq
       have ake:j<(xs.length:Int):=hj1
       have hjl:j.toNat<xs.length:=by omega
       have ejx:(show List (El uk) from xs).getD j.toNat uk.zero=xs[j.toNat]:=bZ hjl
       rw [ejx] at hq
       subst e1
       subst ea
       simp only [bG] at NQ
       have afX:∀t∈ah q uk,az t own=true∧t∉bad:=fun t ht=>hqt t (by simp [ah,ht])
       have hln:j<((xs.set i.toNat ux).length:Int):=by simpa using ake
       by_cases hji:j.toNat=i.toNat
       ·have hr:qb h b (o+j.toNat * uk.size) uk.size=ds:=by
         rw [hji]
         have:=iq hcd
         rwa [hdl] at this
        rw [hr,hji] at NQ
        have hq':ng q uk xs[i.toNat]:=by
         have:xs[j.toNat]=xs[i.toNat]:=by congr 1
         rw [←this]; exact hq
        obtain ⟨r1,c1,r2⟩:=n2 q c0 w0 hq' afX NQ (by
         have:(aQ (.idx j :: q) (.sl e uk) (xs.set i.toNat ux)).isSome=true:=hqs
         simp only [aQ] at this
         have e3:(show List (El uk) from xs.set i.toNat ux).getD j.toNat uk.zero=ux:=by
          rw [hji,bZ (by simpa using hlt)]; simp
         rw [e3] at this
         exact this)
        refine ⟨⟨hj0,hln, ?_⟩,c1, ?_⟩
        ·have:(show List (El uk) from xs.set i.toNat ux).getD j.toNat uk.zero=ux:=by
          rw [hji,bZ (by simpa using hlt)]; simp
         rw [this]
         exact r1
        ·simp only [bG]
         have hr':qb h' b (o+j.toNat * uk.size) uk.size=ds':=by
          rw [hji]
          have:=iq (hc0 b _ rfl)
          rwa [hl0,hdl] at this
         rw [hr',hji]
         exact r2
       ·obtain ⟨dj,h1,h2⟩:=H j.toNat hjl
        have acG:dj.length=uk.size:=dh h2
        have hr:qb h b (o+j.toNat * uk.size) uk.size=dj:=by
         have:=iq h1
         rwa [acG] at this
        have hr':qb h' b (o+j.toNat * uk.size) uk.size=dj:=by
         have:=iq (TC j.toNat dj hji acG h1)
         rwa [acG] at this
        rw [hr] at NQ
        refine ⟨⟨hj0,hln, ?_⟩,c0, ?_⟩
        ·have:(show List (El uk) from xs.set i.toNat ux).getD j.toNat uk.zero=xs[j.toNat]:=by
          rw [bZ (by simpa using hjl),List.getElem_set_ne (by omega)]
         rw [this]
         exact hq
        ·simp only [bG]
         rw [hr', ←NQ]
         exact Kr q h2 hq (fun t ht=>(afX t ht).1) (TD j.toNat hji)
theorem focus {h:Heap} {own:List TypeId} {ok:Nat→Prop}:∀(p:List Stp) {k:K} {x:El k} {cs:List Value} {fo:List Nat} {wh:Option (Nat×Nat)} {d:Dat},
  Ow h own ok k x cs fo→(∀b o,wh=some (b,o)→Cells h b o cs)→aQ p k x=some d→ng p k x→(∀t∈ah p k,az t own=true)→fo.Nodup→(∀b o,wh=some (b,o)→b∉fo)→
   Foc h own ok p k x cs fo wh d:=by
 intro p
 induction p with
 | nil=>
  intro k x cs fo wh d H hc hg _ _ _ _
  simp only [aQ,anh] at hg
  subst hg
  refine ⟨cs,fo,[],wh,rfl,by simp,H,hc,fun b o e=>.inl ⟨rfl,o,e,anz _,anz _⟩,id,⟨?_⟩⟩
  intro h' ok' t pM uZ z hz hl ht _ _ hw hn _
  simp only [dX,anh] at hz
  subst hz
  exact ⟨pM,by rw [hl,dh H],by simpa using ht,fun b o e=>(hw b o e).1,hn,fun bad hk Cb=>⟨id,hk,Cb,rfl⟩⟩
 | cons s p ih=>
  intro k x cs fo wh d H hc hg hin NR hnd hbase
  cases s with
  | fJ n=>
   cases k with
   | st c=>
    simp only [aQ] at hg
    cases hcg:aO n c x with
    | none=>rw [hcg] at hg; simp at hg
    | some s=>
     rw [hcg] at hg
     simp only at hg
     simp only [ng,hcg] at hin
     have hpt:ah (.fJ n :: p) (.st c)=ah p s.1:=by simp [ah,bW n hcg]
     rw [hpt] at NR
     exact ZO (show Ow h own ok c x cs fo from H) hc hcg hnd hbase (fun H0 hc0 sj hb0=>ih H0 hc0 hg hin NR sj hb0)
   | _=>simp [aQ] at hg
  | idx i=>
   cases k with
   | sl e k=>
    simp only [aQ] at hg
    simp only [ng] at hin
    obtain ⟨hi0,hi1,hin⟩:=hin
    have aka:i<((@List.length (El k) x:Nat):Int):=hi1
    have hlt:i.toNat < @List.length (El k) x:=by omega
    have eg:(show List (El k) from x).getD i.toNat k.zero=(show List (El k) from x)[i.toNat]'hlt:=bZ hlt
    rw [eg] at hin hg
    exact ZP (xs:=x) H hc hnd hbase (NR e (by simp [ah])) hlt (fun H0 hc0 sj hb0=>ih H0 hc0 hg hin (fun t ht=>NR t (by simp [ah,ht])) sj hb0)
   | _=>simp [aQ] at hg
end
section
open Go
variable [Fr]
def Prog.ends {α:Type}:Prog α→St→α→Prop
 | .ret a,_,x=>x=a
 | .fail,_,_=>False
 | .slot n k,σ,x=>(k (σ.slots n)).ends σ x
 | .root r k,σ,x=>(k (σ.roots r)).ends σ x
 | .uY c _ k,σ,x=>c∧k.ends σ x
 | .br c t e,σ,x=>(c=true∧t.ends σ x)∨(c=false∧e.ends σ x)
 | .opt _ o k,σ,x=>∃b,o=some b∧(k b).ends σ x
theorem wG {α R:Type} (p:Prog α) {σ:St} {K:α→Option R} {r:R} (h:p.run σ K=some r):∃x,p.ends σ x∧K x=some r:=by
 induction p with
 | ret a=>exact ⟨a,rfl,h⟩
 | fail=>simp [Prog.run] at h
 | slot n k ih=>exact ih _ h
 | root n k ih=>exact ih _ h
 | uY c d k ih=>
  simp only [Prog.run] at h
  split at h
  ·rename_i hc
   obtain ⟨x,h1,h2⟩:=ih h
   exact ⟨x,⟨hc,h1⟩,h2⟩
  ·simp at h
 | br c t e Sa R9=>
  simp only [Prog.run] at h
  split at h
  ·rename_i hc
   obtain ⟨x,h1,h2⟩:=Sa h
   exact ⟨x, .inl ⟨hc,h1⟩,h2⟩
  ·rename_i hc
   obtain ⟨x,h1,h2⟩:=R9 h
   exact ⟨x, .inr ⟨by simpa using hc,h1⟩,h2⟩
 | opt β o k ih=>
  simp only [Prog.run] at h
  cases ho:o with
  | none=>rw [ho] at h; simp at h
  | some b=>
   rw [ho] at h
   obtain ⟨x,h1,h2⟩:=ih b h
   exact ⟨x,⟨b,rfl,h1⟩,h2⟩
def bK:K→List Value
 | .int ik=>[.int ik 0]
 | .bool=>[.bool false]
 | .str=>[.string ByteArray.empty]
 | .sl _ _=>[.slice none 0 0]
 | .id _=>[.slice none 0 0]
 | .unit=>[]
 | .pair a b=>bK a++bK b
 | .st f=>bK f
 | .gap _=>[]
def su:K→Value
 | .st f=>.agg (bK f).toArray
 | .int ik=>.int ik 0
 | .bool=>.bool false
 | .str=>.string ByteArray.empty
 | .sl _ _=>.slice none 0 0
 | .id _=>.slice none 0 0
 | _=>undef
def sG (P:Program) (t:TypeId) (k:K):Prop:=∃i,P.info? t=some i∧i.size=k.size∧i.zero=some (su k)
def jN (P:Program) (T:iT):K→(TypeId→Prop)×(List Field→Nat→Prop)
 | .int ik=>(fun t=>P.underlying t=some (.int ik)∧sG P t (.int ik),fun _ _=>False)
 | .bool=>(fun t=>P.underlying t=some .bool∧sG P t .bool,fun _ _=>False)
 | .str=>(fun t=>P.underlying t=some .string∧sG P t .str,fun _ _=>False)
 | .sl e k=>(fun t=>P.underlying t=some (.slice e)∧sG P t (.sl e k)∧(jN P T k).1 e∧0<k.size∧∃i,P.info? e=some i∧i.bytes=T.bytes e∧0<i.bytes,fun _ _=>False)
 | .unit=>(fun _=>False,fun fs _=>fs=[])
 | .pair a b=>(fun _=>False,fun fs off=>match fs with
  | []=>False
  | f :: fs=>f.offset=off∧(jN P T a).1 f.type∧0<a.size∧(jN P T b).2 fs (off+a.size))
 | .st c=>(fun t=>(∃fs,P.underlying t=some (.struct fs)∧(jN P T c).2 fs.toList 0)∧sG P t (.st c),fun _ _=>False)
 | .gap _=>(fun _=>False,fun _ _=>False)
 | .id e=>(fun t=>P.underlying t=some (.slice e)∧sG P t (.id e)∧T.ids=true,fun _ _=>False)
def fU (P:Program) (T:iT) (t:TypeId) (k:K):Prop:=(jN P T k).1 t
structure eF (P:Program) (T:iT):Prop where
 ty:∀t k,T.ty t=some k→fU P T t k
 ptr:∀t,T.ptr t=true→∃e,P.underlying t=some (.pointer e)
theorem fU.info {P:Program} {T:iT} {t:TypeId} {k:K} (h:fU P T t k):sG P t k:=by
 unfold fU jN at h
 cases k with
 | int ik=>exact h.2
 | bool=>exact h.2
 | id e=>exact h.2.1
 | str=>exact h.2
 | sl e k=>exact h.2.1
 | unit=>exact h.elim
 | pair a b=>exact h.elim
 | st c=>exact h.2
 | gap n=>exact h.elim
def VC (k:K) (v:Value) (cs:List Value):Prop:=match k with
 | .st _=>v=.agg cs.toArray
 | _=>cs=[v]∧∀x,v≠.agg x
theorem VC.cells {k:K} {v:Value} {cs:List Value} (h:VC k v cs):v.cells.toList=cs:=by
 unfold VC at h
 split at h
 ·subst h; simp [Value.cells]
 ·obtain ⟨rfl,hn⟩:=h
  cases v <;> first | rfl | (exact absurd rfl (hn _))
def uq:K→Bool
 | .st _=>true
 | _=>false
theorem fU.isAgg {P:Program} {T:iT} {t:TypeId} {k:K} (h:fU P T t k) (w:World):(Go.isAgg t).run P w=.ok (uq k) w:=by
 unfold fU jN at h
 cases k with
 | int ik=>simp [Go.isAgg,run_underlying h.1,uq]
 | bool=>simp [Go.isAgg,run_underlying h.1,uq]
 | id e=>simp [Go.isAgg,run_underlying h.1,uq]
 | str=>simp [Go.isAgg,run_underlying h.1,uq]
 | sl e k=>simp [Go.isAgg,run_underlying h.1,uq]
 | unit=>exact h.elim
 | pair a b=>exact h.elim
 | st c=>obtain ⟨⟨fs,h1,_⟩,_⟩:=h; simp [Go.isAgg,run_underlying h1,uq]
 | gap n=>exact h.elim
theorem sG.sizeOf {P:Program} {t:TypeId} {k:K} (h:sG P t k) (w:World):(Go.sizeOf t).run P w=.ok k.size w:=by
 obtain ⟨i,h1,h2,_⟩:=h
 simp [Go.sizeOf,run_typeInfo w h1,h2]
theorem sG.zero {P:Program} {t:TypeId} {k:K} (h:sG P t k) (w:World):(Go.zeroValue t).run P w=.ok (su k) w:=by
 obtain ⟨i,h1,_,h3⟩:=h
 simp [Go.zeroValue,run_typeInfo w h1,h3]
theorem addr_add (b o n:Nat):(⟨b,o,none⟩:Addr).add n=⟨b,o+n,none⟩:=by unfold Addr.add; split <;> simp_all
theorem sW {P:Program} {T:iT} {t:TypeId} {k:K} {w:World} {b o:Nat} {cs:List Value} {v:Value} (h:fU P T t k) (hc:Cells (hp w) b o cs) (hl:cs.length=k.size) (hv:VC k v cs) :
  (Instr.loadAt t (.pointer (some ⟨b,o,none⟩))).run P w=.ok v w:=by
 have hcell:∀j u,cs[j]?=some u→w.cell? ((⟨b,o,none⟩:Addr).add j)=some u:=by
  intro j u hj
  rw [addr_add,zi,hc j (List.getElem?_eq_some_iff.1 hj).1]
  exact hj
 unfold Instr.loadAt Instr.sureAddr loadVar
 simp only [anI,anN,Result.andThen,h.isAgg w]
 cases k with
 | st c=>
  have e:v=.agg cs.toArray:=hv
  have h2:=run_loadCells_list (P:=P) w ⟨b,o,none⟩ cs hcell
  rw [hl] at h2
  simp [uq,h.info.sizeOf w,h2,Result.andThen,e]
 | unit=>exact (show False from h).elim
 | pair a b=>exact (show False from h).elim
 | gap n=>exact (show False from h).elim
 | int ik=>
  obtain ⟨e,_⟩:cs=[v]∧_:=hv
  have:=hcell 0 v (by rw [e]; rfl)
  rw [addr_add,Nat.add_zero] at this
  simp [uq,this]
 | bool=>
  obtain ⟨e,_⟩:cs=[v]∧_:=hv
  have:=hcell 0 v (by rw [e]; rfl)
  rw [addr_add,Nat.add_zero] at this
  simp [uq,this]
 | id e=>
  obtain ⟨e,_⟩:cs=[v]∧_:=hv
  have:=hcell 0 v (by rw [e]; rfl)
  rw [addr_add,Nat.add_zero] at this
  simp [uq,this]
 | str=>
  obtain ⟨e,_⟩:cs=[v]∧_:=hv
  have:=hcell 0 v (by rw [e]; rfl)
  rw [addr_add,Nat.add_zero] at this
  simp [uq,this]
 | sl e k=>
  obtain ⟨e,_⟩:cs=[v]∧_:=hv
  have:=hcell 0 v (by rw [e]; rfl)
  rw [addr_add,Nat.add_zero] at this
  simp [uq,this]
def eU:K→Bool
 | .gap _=>false
 | .pair a b=>eU a && eU b
 | .st f=>eU f
 | _=>true
theorem jN.eU {P:Program} {T:iT}:∀{k:K},(∀t,(jN P T k).1 t→Ow.eU k=true)∧(∀fs off,(jN P T k).2 fs off→Ow.eU k=true):=by
 intro k
 induction k with
 | int ik=>exact ⟨fun _ _=>rfl,fun _ _ h=>h.elim⟩
 | bool=>exact ⟨fun _ _=>rfl,fun _ _ h=>h.elim⟩
 | id e=>exact ⟨fun _ _=>rfl,fun _ _ h=>h.elim⟩
 | str=>exact ⟨fun _ _=>rfl,fun _ _ h=>h.elim⟩
 | sl e k ih=>exact ⟨fun _ _=>rfl,fun _ _ h=>h.elim⟩
 | unit=>exact ⟨fun _ h=>h.elim,fun _ _ _=>rfl⟩
 | pair a b iha ihb=>
  refine ⟨fun _ h=>h.elim,fun fs off h=>?_⟩
  cases fs with
  | nil=>exact h.elim
  | cons f fs=>simp [Ow.eU,iha.1 _ h.2.1,ihb.2 _ _ h.2.2.2]
 | st f ih=>exact ⟨fun t h=>by obtain ⟨⟨fs,_,h⟩,_⟩:=h; exact ih.2 _ _ h,fun _ _ h=>h.elim⟩
 | gap n=>exact ⟨fun _ h=>h.elim,fun _ _ h=>h.elim⟩
theorem fU.eU {P:Program} {T:iT} {t:TypeId} {k:K} (h:fU P T t k):Ow.eU k=true:=jN.eU.1 t h
theorem Nq {h:Heap} {ok:Nat→Prop}:∀{k:K} {x:El k} {cs:List Value},eU k=true→Vw h ok k x cs→∀v∈cs,v.oneCell'=true:=by
 intro k
 induction k with
 | int ik=>intro x cs _ H v hv; rw [H.1] at hv; simp at hv; subst hv; rfl
 | bool=>intro x cs _ H v hv; rw [show cs=_ from H] at hv; simp at hv; subst hv; rfl
 | id e=>intro x cs _ H v hv; rw [show cs=_ from H] at hv; simp only [anC] at hv; subst hv; obtain ⟨a,n,c,h⟩:=Fr.agc x; rw [h]; rfl
 | str=>intro x cs _ H v hv; obtain ⟨B,rfl,_⟩:=H; simp at hv; subst hv; rfl
 | sl e k ih=>intro x cs _ H v hv; obtain ⟨a,n,c,rfl,_⟩:=H; simp at hv; subst hv; rfl
 | unit=>intro x cs _ H v hv; rw [show cs=_ from H] at hv; simp at hv
 | pair a b iha ihb=>
  intro x cs hg H v hv
  simp [eU] at hg
  obtain ⟨c1,c2,rfl,h1,h2⟩:=H
  rcases anq.1 hv with h | h
  ·exact iha hg.1 h1 v h
  ·exact ihb hg.2 h2 v h
 | st f ih=>intro x cs hg H; exact ih (x:=x) hg H
 | gap n=>intro x cs hg; simp [eU] at hg
theorem QY {h:Heap} {own:List TypeId} {ok:Nat→Prop} {k:K} {x:El k} {cs:List Value} {fo:List Nat} (hg:eU k=true) (H:Ow h own ok k x cs fo):∀v∈cs,v.oneCell'=true:=
 Nq hg (kP (fun _=>True) (fun _ _=>trivial) (fun _ _=>trivial) H)
theorem VC.mk {h:Heap} {ok:Nat→Prop} {k:K} {x:El k} {cs:List Value} (hk:∀a b,k≠.pair a b) (hu:k≠.unit) (hg:∀n,k≠.gap n) (H:Vw h ok k x cs):∃v,VC k v cs:=by
 cases k with
 | int ik=>exact ⟨.int ik x,H.1,by simp⟩
 | bool=>exact ⟨.bool x,H,by simp⟩
 | id e=>obtain ⟨a,n,c,h⟩:=Fr.agc x; exact ⟨Fr.iI x,H,by rw [h]; simp⟩
 | str=>obtain ⟨B,e,_⟩:=H; exact ⟨.string B,e,by simp⟩
 | sl e k=>obtain ⟨a,n,c,e,_⟩:=H; exact ⟨.slice a n c,e,by simp⟩
 | unit=>exact absurd rfl hu
 | pair a b=>exact absurd rfl (hk a b)
 | st c=>exact ⟨.agg cs.toArray,rfl⟩
 | gap n=>exact absurd rfl (hg n)
theorem PU (w:World) (o:Obj) (b:Nat):hp (w.alloc o) b=if b=w.heap.size then some o else hp w b:=by
 show (w.heap.push o)[b]?=_
 rw [Array.getElem?_push]
 rfl
theorem pz (w:World) (o:Obj) {b:Nat} (h:b<w.heap.size):hp (w.alloc o) b=hp w b:=by
 rw [PU,if_neg (by omega)]
theorem rM (w:World) (o:Obj):hp (w.alloc o) w.heap.size=some o:=by
 rw [PU,if_pos rfl]
theorem Gb (w:World) (b o:Nat) (v:Value) {b':Nat} (h:b'≠b):hp (w.setCell ⟨b,o,none⟩ v) b'=hp w b':=by
 simp only [hp,World.setCell,Array.getElem?_modify]
 rw [if_neg (by omega)]
theorem Il (w:World) (b o:Nat) (v:Value) {arr:Array Value} {e:TypeId} {fr:Nat×Nat} (h:hp w b=some (.cells arr e fr)) :
  hp (w.setCell ⟨b,o,none⟩ v) b=some (.cells (arr.setIfInBounds o v) e fr):=by
 have h':w.heap[b]?=some (.cells arr e fr):=h
 simp [hp,World.setCell,Array.getElem?_modify,h']
theorem uA (b:Nat):∀(vs:List Value) (w:World) (arr:Array Value) (e:TypeId) (fr:Nat×Nat) (o:Nat),hp w b=some (.cells arr e fr)→o+vs.length≤arr.size→
  (∀b',b'≠b→hp (w.setCells b o vs) b'=hp w b')∧(w.setCells b o vs).heap.size=w.heap.size∧
  ∃kF,hp (w.setCells b o vs) b=some (.cells kF e fr)∧kF.size=arr.size∧(∀i,i<vs.length→kF[o+i]?=vs[i]?)∧∀i,¬(o≤i∧i<o+vs.length)→kF[i]?=arr[i]?:=by
 intro vs
 induction vs with
 | nil=>intro w arr e fr o hb _; exact ⟨fun _ _=>rfl,rfl,arr,hb,rfl,fun i hi=>by simp at hi,fun _ _=>rfl⟩
 | cons v vs ih=>
  intro w arr e fr o hb hl
  simp only [anG] at hl
  have h1:=Il w b o v hb
  obtain ⟨g1,g2,kF,g3,g4,g5,g6⟩:=ih (w.setCell ⟨b,o,none⟩ v) _ e fr (o+1) h1 (by simp; omega)
  refine ⟨fun b' hb'=>(g1 b' hb').trans (Gb w b o v hb'),by rw [World.setCells,g2]; simp [World.setCell],kF,g3,by rw [g4]; simp, ?_, ?_⟩
  ·intro i hi
   simp only [anG] at hi
   cases i with
   | zero=>
    rw [g6 _ (by omega)]
    simp only [Nat.add_zero,List.getElem?_cons_zero]
    rw [Array.getElem?_setIfInBounds_self_of_lt (by omega)]
   | succ i=>
    rw [show o+(i+1)=o+1+i from by omega,g5 i (by omega)]
    simp
  ·intro i hi
   simp only [anG] at hi
   rw [g6 i (by omega),Array.getElem?_setIfInBounds_ne (by omega)]
theorem qc (b:Nat):∀(vs:List Value) (w:World) (o:Nat),(w.setCells b o vs).os=w.os∧(w.setCells b o vs).tape=w.tape∧(w.setCells b o vs).output=w.output:=by
 intro vs
 induction vs with
 | nil=>intro w o; exact ⟨rfl,rfl,rfl⟩
 | cons v vs ih=>intro w o; exact ih (w.setCell ⟨b,o,none⟩ v) (o+1)
theorem mK {P:Program} {w:World} {b o:Nat} {arr:Array Value} {e:TypeId} {lo hi:Nat} (vs:List Value) (hb:hp w b=some (.cells arr e (lo,hi))) (hf:∀i,i<arr.size→¬(lo≤i∧i<hi))
  (hl:o+vs.length≤arr.size) (h1:∀v∈vs,v.oneCell'=true):(storeCells ⟨b,o,none⟩ vs).run P w=.ok () (w.setCells b o vs):=by
 have:=run_storeCells_cells (P:=P) b o vs 0 w (fun j hj=>by
   rw [zi]
   unfold cellAt
   rw [hb]
   simp only [Nat.add_zero]
   rw [Array.getElem?_eq_getElem (by omega)]
   rfl) (fun j hj=>by
   unfold World.frozen?
   have hb':w.heap[b]?=some (.cells arr e (lo,hi)):=hb
   simp only [hb',Nat.add_zero]
   have:=hf (o+j) (by omega)
   simp
   omega) h1
 simpa using this
theorem GU {P:Program} {T:iT} {t:TypeId} {k:K} {w:World} {b o:Nat} {cs:List Value} {v:Value} {arr:Array Value} {e:TypeId} {lo hi:Nat} (h:fU P T t k) (hb:hp w b=some (.cells arr e (lo,hi)))
  (hf:∀i,i<arr.size→¬(lo≤i∧i<hi)) (hl:cs.length=k.size) (hs:o+k.size≤arr.size) (hv:VC k v cs) (h1:∀v∈cs,v.oneCell'=true) :
  (Instr.storeAt t (.pointer (some ⟨b,o,none⟩)) v).run P w=.ok () (w.setCells b o cs):=by
 have hc:=hv.cells
 have hsz:v.cells.size=k.size:=by rw [←hl, ←hc]; simp
 unfold Instr.storeAt Instr.sureAddr storeVar
 simp only [anI,anN,Result.andThen,h.info.sizeOf w,Sem.run_ite]
 rw [if_neg (by rw [hsz]; simp)]
 rw [hc]
 exact mK cs hb hf (by omega) h1
theorem KO {P:Program} (t:TypeId) (v:Value) (w:World):(newVar t v).run P w=.ok ⟨w.heap.size,0,none⟩ (w.alloc (.cells v.cells t)):=by
 simp [newVar,newRow]
theorem MW {P:Program} (t:TypeId) (v:Value) (w:World):(Instr.box t v).run P w=.ok (.pointer (some ⟨w.heap.size,0,none⟩)) (w.alloc (.cells v.cells t)):=by
 simp [Instr.box,KO,Result.andThen]
theorem Qv {P:Program} {T:iT} {t:TypeId} {k:K} (h:fU P T t k) (w:World):(Instr.alloc t true (.tuple #[])).run P w=.ok (.pointer (some ⟨w.heap.size,0,none⟩)) (w.alloc (.cells (su k).cells t)):=by
 simp [Instr.alloc,h.info.zero w,KO,Result.andThen]
theorem Uh:∀{k:K},(∀a b,k≠.pair a b)→k≠.unit→(∀n,k≠.gap n)→VC k (su k) (bK k):=by
 intro k h1 h2 h3
 cases k with
 | int ik=>exact ⟨rfl,by simp [su]⟩
 | bool=>exact ⟨rfl,by simp [su]⟩
 | id e=>exact ⟨rfl,by simp [su]⟩
 | str=>exact ⟨rfl,by simp [su]⟩
 | sl e k=>exact ⟨rfl,by simp [su]⟩
 | unit=>exact absurd rfl h2
 | pair a b=>exact absurd rfl (h1 a b)
 | st c=>rfl
 | gap n=>exact absurd rfl (h3 n)
theorem ES {h:Heap} {own:List TypeId} {ok:Nat→Prop}:∀{k:K},eU k=true→(∀t∈k.tys,az t own=true)→Ow h own ok k k.zero (bK k) []:=by
 intro k
 induction k with
 | int ik=>intro _ _; exact ⟨rfl,rfl,by cases ik <;> simp [GR,K.zero]⟩
 | bool=>intro _ _; exact ⟨rfl,rfl⟩
 | id e=>intro _ _; exact ⟨rfl,by show _=[Fr.iI 0]; rw [Fr.ac1]; rfl⟩
 | str=>intro _ _; exact ⟨rfl,ByteArray.empty,rfl,rfl⟩
 | sl e k ih=>
  intro _ ht
  unfold Ow
  rw [if_pos (ht e (by simp [K.tys]))]
  exact ⟨none,0,0,rfl,rfl,anz _, .inl ⟨rfl,rfl⟩⟩
 | unit=>intro _ _; exact ⟨rfl,rfl⟩
 | pair a b iha ihb=>
  intro hg ht
  simp [eU] at hg
  exact ⟨bK a,bK b,[],[],rfl, .refl _,iha hg.1 (fun t h=>ht t (by simp [K.tys,h])),ihb hg.2 (fun t h=>ht t (by simp [K.tys,h]))⟩
 | st f ih=>intro hg ht; exact ih hg ht
 | gap n=>intro hg; simp [eU] at hg
end
section
open Go
variable [Fr]
structure Uu where
 base:Option (Nat×Nat×Nat)
 bl:List Nat
 kp:Bool
structure Cx where
 nt:Nat
 w0:World
 ext:Nat→Nat→Prop
 par:Nat→Option Uu
 ptrs:Nat→List Stp→List TypeId→Value→Prop
 refs:Nat→Value→Prop
structure dL where
 loc:Nat→Nat×Nat
 hdr:Nat→List Value
 fo:Nat→List Nat
def dV (α:dL) (R:Root) (r:Nat):Option (Nat×Nat):=match R.kind with
 | .var _=>some (α.loc r)
 | .par=>some (α.loc r)
 | _=>none
def blk (α:dL) (R:Root) (r:Nat):List Nat:=(match dV α R r with
 | some q=>[q.1]
 | none=>[])++α.fo r
def aP (σ:St) (r:Nat) (R:Root):Prop:=σ.roots r=some R∧R.bg=false
def lN (cx:Cx) (b:Nat):Prop:=∃j pi o n,cx.par j=some pi∧pi.base=some (b,o,n)
def iL (cx:Cx) (σ:St) (α:dL) (F:List Nat) (w:World) (T:List Tag) (b:Nat):Prop:=
 b<w.heap.size∧b∉F∧¬lN cx b∧(∀r R,aP σ r R→b∈blk α R r→∃n,(r,n)∈T)∧
 (b<cx.w0.heap.size→(∃j n,(pY j,n)∈T∧cx.ext j b)∨∃j pi,cx.par j=some pi∧b∈pi.bl)
def bu (σ:St) (R:Root):Prop:=R.bg=false∧bq σ R.Ce R.tags=true
def Kw (σ:St) (α:dL) (F:List Nat) (w:World) (T:List Tag) (b:Nat):Prop:=
 b<w.heap.size∧b∉F∧∀r R,aP σ r R→b∈blk α R r→∃n,(r,n)∈T
def KG (cx:Cx) (σ:St) (α:dL) (F:List Nat) (w:World) (bt:TypeId) (k:K) (x:El k) (T:List Tag) (v:Value):Prop:=
 (∃b o,v=.pointer (some ⟨b,o,none⟩))∧(bq σ (bt :: k.tys) T=true→∃b o cs,v=.pointer (some ⟨b,o,none⟩)∧Cells (hp w) b o cs∧Vw (hp w) (iL cx σ α F w T) k x cs∧Kw σ α F w T b∧
  ((bt=SENT∧∀t∈T,fI t.1=true)∨(vO (hp w) b bt∧¬lN cx b)))
def ku (cx:Cx) (σ:St) (α:dL) (F:List Nat) (w:World):List (TypeId×Dat×List Tag)→List Value→Prop
 | [],[]=>True
 | c :: cs,v :: vs=>KG cx σ α F w c.1 c.2.1.1 c.2.1.2 c.2.2 v∧ku cx σ α F w cs vs
 | _,_=>False
def kC:List Stp→K→Option (Nat×K)
 | [],k=>some (0,k)
 | .fJ n :: p, .st c=>match bB n c with
  | some q=>match kC p q.2 with
   | some r=>some (q.1+r.1,r.2)
   | none=>none
  | none=>none
 | _,_=>none
def adF (α:dL) (h:Heap) (r:Nat) (R:Root) (p:List Stp) (q:Nat) (Q:Root) (v:Value):Prop:=
 ∃(e:TypeId) (kk:K) (xs:List (El kk)) (wh:Option (Nat×Nat)) (b:Option Addr) (n c:Nat) (ce:List Value) (hq:Value) (b1 o1 c1:Nat) (arr:Array Value) (lo hi:Nat),
  aQ p R.k R.x=some ⟨.sl e kk,xs⟩∧ng p R.k R.x∧(∀t∈ah p R.k,az t R.own=true)∧bG h p R.k (α.hdr r) (dV α R r)=some ([.slice b n c],wh)∧
  (Q.k=O5 e kk∧Q.kind=.anon)∧α.hdr q=ce++[hq]∧ce.length=kk.size∧v=.slice (some ⟨b1,o1,none⟩) (n+1) c1∧n+1≤c1∧
  h b1=some (.cells arr e (lo,hi))∧(∀i,i<arr.size→¬(lo≤i∧i<hi))∧o1+c1 * kk.size≤arr.size∧Cells h b1 (o1+n * kk.size) ce∧
  ((b=some ⟨b1,o1,none⟩∧b1∈α.fo r∧hq=.slice none 0 0∧c=c1)∨(hq=.slice (some ⟨b1,o1,none⟩) 0 c1∧b1∈α.fo q∧(0<n→∃b0 o0,b=some ⟨b0,o0,none⟩∧b0∈α.fo r∧∀i,i<n * kk.size→cellAt h b1 (o1+i)=cellAt h b0 (o0+i))))
def bI (cx:Cx) (σ:St) (α:dL) (F:List Nat) (w:World):AV→Value→Prop
 | .undef,_=>True
 | .val k x T,v=>(k.flat=true∨bq σ k.tys T=true)→∃cs,VC k v cs∧Vw (hp w) (iL cx σ α F w T) k x cs
 | .iQ,v=>∃a,v=.slice a 0 0
 | .ref r g,v=>∀R,aP σ r R→R.g=g→R.kind=.anon∧VC R.k v (α.hdr r)
 | .sM r p n,v=>∀R,σ.roots r=some R→bu σ R→R.wK=n→∀d,aQ p R.k R.x=some d→
   ng p R.k R.x∧(∀t∈ah p R.k,az t R.own=true)∧∃cs wh,bG (hp w) p R.k (α.hdr r) (dV α R r)=some (cs,wh)∧VC d.1 v cs
 | .ptr r p n,v=>(∃b o,v=.pointer (some ⟨b,o,none⟩))∧∀R,σ.roots r=some R→bu σ R→clean R.h n (dY p R.k)=true→(∀t∈ah p R.k,az t R.own=true)→(aQ p R.k R.x).isSome=true→
   ng p R.k R.x∧∃cs b o,bG (hp w) p R.k (α.hdr r) (dV α R r)=some (cs,some (b,o))∧v=.pointer (some ⟨b,o,none⟩)
 | .iZ bt k x T,v=>KG cx σ α F w bt k x T v
 | .rV,v=>v=.pointer none
 | .Aj e,v=>∃b,v=.bool b∧(b=true→e=true)
 | .part r g lo hi sz,v=>∃b' b n c,v=.slice b' (hi - lo) (c - lo)∧(lo=0∨c≠lo→b'=b.map (·.add (lo * sz)))∧lo≤hi∧hi≤n∧n≤c∧∀R,aP σ r R→R.g=g→R.kind=.anon∧VC R.k (.slice b n c) (α.hdr r)
 | .JA r g k p,v=>∃u b off k1,v=.pointer (some ⟨b,off,none⟩)∧Kw σ α F w [] b∧Cells (hp w) b 0 u.cells.toList∧kC p k=some (off,k1)∧∀R,aP σ r R→R.g=g→R.kind=.anon∧VC R.k u (α.hdr r)
 | .xU r p n m,v=>∃b c,v=.slice b m c∧∀R,σ.roots r=some R→bu σ R→R.wK=n→∀d,aQ p R.k R.x=some d→
   ng p R.k R.x∧(∀t∈ah p R.k,az t R.own=true)∧∃q wh,bG (hp w) p R.k (α.hdr r) (dV α R r)=some ([.slice b q c],wh)∧m≤q
 | .app r p n q,v=>∀R,σ.roots r=some R→bu σ R→R.wK=n→∀Q,aP σ q Q→Q.wK=0→adF α (hp w) r R p q Q v
 | .fn f cs,v=>∃vs:List Value,v=.func (.func f) #[] vs.toArray∧ku cx σ α F w cs vs
def dS (cx:Cx) (σ:St) (α:dL) (F:List Nat) (w:World):List AV→List Value→Prop
 | [],[]=>True
 | a :: l,v :: vs=>bI cx σ α F w a v∧dS cx σ α F w l vs
 | _,_=>False
def Vv:K→List Value→List Value→Prop
 | .pair k r,u :: us,cs=>∃c1 c2,cs=c1++c2∧VC k u c1∧c1.length=k.size∧Vv r us c2
 | .unit,[],cs=>cs=[]
 | _,_,_=>False
def jd (cx:Cx) (σ:St) (α:dL) (F:List Nat) (w:World):xJ→Value→Prop
 | .one a,v=>bI cx σ α F w a v
 | .KX l,v=>∃vs:List Value,v=.tuple vs.toArray∧dS cx σ α F w l vs
 | .lit _ c l,v=>∃vs cs:List Value,(v=.agg cs.toArray∧Vv c vs cs)∧dS cx σ α F w l vs
def EO (σ:St) (t:Tag):Prop:=fI t.1=true∨∃R,σ.roots t.1=some R∧(R.bg=true∨t.2≤gH R.w)
def eY (σ:St) (T:List Tag):Prop:=∀t∈T,EO σ t
def rG (σ:St):AV→Prop
 | .val _ _ T=>eY σ T
 | .ref r g=>∃R,σ.roots r=some R∧(R.bg=true∨g≤R.g)
 | .sM r _ n=>∃R,σ.roots r=some R∧(R.bg=true∨n≤R.wK)
 | .JA r g _ _=>∃R,σ.roots r=some R∧(R.bg=true∨g≤R.g)
 | .part r g _ _ _=>∃R,σ.roots r=some R∧(R.bg=true∨g≤R.g)
 | .xU r _ n _=>∃R,σ.roots r=some R∧(R.bg=true∨n≤R.wK)
 | .app r _ n q=>(∃R,σ.roots r=some R∧(R.bg=true∨n≤R.wK))∧∃R,σ.roots q=some R
 | .ptr r _ n=>∃R,σ.roots r=some R∧(R.bg=true∨n≤gH R.h)
 | .iZ _ _ _ T=>eY σ T
 | .fn _ cs=>∀c∈cs,eY σ c.2.2
 | _=>True
def xO (σ:St):xJ→Prop
 | .one a=>rG σ a
 | .KX l=>∀a∈l,rG σ a
 | .lit _ _ l=>∀a∈l,rG σ a
def abQ (cx:Cx) (w:World):Prop:=
 w.os=cx.w0.os∧w.tape=cx.w0.tape∧w.output=cx.w0.output∧cx.w0.heap.size≤w.heap.size∧
 (∀b,b<cx.w0.heap.size→(∀j pi,cx.par j=some pi→b∉pi.bl)→hp w b=hp cx.w0 b)∧
 (∀j pi b o n,cx.par j=some pi→pi.base=some (b,o,n)→gM (hp cx.w0) (hp w) b o n)
def mine (cx:Cx) (w:World) (b:Nat):Prop:=b<w.heap.size∧(cx.w0.heap.size≤b∨∃j pi,cx.par j=some pi∧b∈pi.bl)
structure uI (cx:Cx) (σ:St) (α:dL) (F:List Nat) (w:World) (r:Nat) (R:Root):Prop where
 ow:bu σ R→Ow (hp w) R.own (iL cx σ α F w R.tags) R.k R.x (α.hdr r) (α.fo r)
 len:(α.hdr r).length=R.k.size
 mem:∀b o,dV α R r=some (b,o)→Cells (hp w) b o (α.hdr r)∧∃arr e lo hi,hp w b=some (.cells arr e (lo,hi))∧(∀i,i<arr.size→¬(lo≤i∧i<hi))∧o+R.k.size≤arr.size∧(∀t,R.kind=.var t→e=t)
 nd:(blk α R r).Nodup
 mine:∀b∈blk α R r,Ow.mine cx w b
structure Rel (cx:Cx) (σ:St) (α:dL) (F:List Nat) (a:Act) (w:World):Prop where
 defs:a.defers=[]
 sz:cx.nt≤a.tmps.size
 lQ:∀j pi b o n,cx.par j=some pi→pi.base=some (b,o,n)→∃R,aP σ (ay j) R∧R.kind=.par∧α.loc (ay j)=(b,o)∧R.k.size=n
 Ep:∀r R,aP σ r R→R.kind=.par→∃j pi n,r=ay j∧cx.par j=some pi∧pi.base=some ((α.loc r).1,(α.loc r).2,n)
 slots:∀s,jd cx σ α F w (σ.slots s) (a.tmps.getD s undef)
 rY:∀s,xO σ (σ.slots s)
 roots:∀r R,aP σ r R→uI cx σ α F w r R
 dz:∀r R,σ.roots r=some R→eY σ R.tags∧fI r=false∧(∀n,(r,n)∉R.tags)
 Iu:∀r R r' R',aP σ r R→aP σ r' R'→r≠r'→∀b∈blk α R r,b∉blk α R' r'
 fl:∀b∈F,mine cx w b
 zV:F.Nodup
 iP:∀r R,aP σ r R→∀b∈blk α R r,b∉F
 frame:abQ cx w
 uu:∀j pi,cx.par j=some pi→pi.kp=true→∃R,σ.roots (ay j)=some R∧(R.bg=false→∀b∈pi.bl,¬lN cx b→
  (∃e,qM (hp cx.w0) b=some e∧(e∈R.w∨e∈R.ew))∨(hp w b=hp cx.w0 b∧b∉F∧∀q Q,aP σ q Q→b∈blk α Q q→q=ay j))
 oM:(∀j pi,cx.par j=some pi→∀b∈pi.bl,b<cx.w0.heap.size)∧(∀b,Fr.free b→b<cx.w0.heap.size∧∀j pi,cx.par j=some pi→b∉pi.bl)∧∀b,Fr.free b→hp cx.w0 b=Fr.obj b
 vU:∀j p ts v,cx.ptrs j p ts v→(∃b o,v=.pointer (some ⟨b,o,none⟩))∧∃R,σ.roots (ay j)=some R∧((∀t∈ts,t∉R.eh)→bI cx σ α F w (.ptr (ay j) p 0) v)
 vV:∀j v,cx.refs j v→(∃R,σ.roots (ay j)=some R)∧bI cx σ α F w (.ref (ay j) 0) v
theorem Rel.TS {cx:Cx} {σ:St} {α:dL} {F:List Nat} {a:Act} {w:World} (H:Rel cx σ α F a w) {b:Nat} (hm:mine cx w b):¬Fr.free b:=by
 intro hf
 obtain ⟨h1,h2⟩:=H.oM.2.1 b hf
 rcases hm.2 with h | ⟨j,pi,h3,h4⟩
 ·omega
 ·exact h2 j pi h3 h4
theorem Rel.fixed {cx:Cx} {σ:St} {α:dL} {F:List Nat} {a:Act} {w:World} (H:Rel cx σ α F a w) {b:Nat} (hf:Fr.free b):hp w b=Fr.obj b:=by
 obtain ⟨h1,h2⟩:=H.oM.2.1 b hf
 rw [H.frame.2.2.2.2.1 b h1 h2]
 exact H.oM.2.2 b hf
theorem Rel.SN {cx:Cx} {σ:St} {α:dL} {F:List Nat} {a:Act} {w:World} (H:Rel cx σ α F a w) {b:Nat} {t:TypeId} (hm:mine cx w b) (h:vO (hp w) b t):qM (hp w) b=some t:=h.resolve_right (H.TS hm)
theorem pE {A:Type} (l:List A):gH l=l.length:=by induction l <;> simp_all [gH]
theorem aM {n:Nat} {l:List Nat}:az n l=true↔n∈l:=by
 induction l with
 | nil=>simp [az]
 | cons m l ih=>
  simp only [az,anu]
  cases h:Nat.beq n m with
  | true=>simp [anl h]
  | false=>simp [ih,Nat.ne_of_beq_eq_false h]
theorem aV {n:Nat} {l:List Nat}:az n l=false↔n∉l:=by rw [←aM]; simp
theorem Ov (a l:List Nat) {n:Nat} (h:n≤gH l):since (a++l) n=a++since l n:=by
 unfold since
 rw [pE] at h
 simp only [pE,anp]
 rw [List.take_append,List.take_of_length_le (by omega)]
 congr 2
 omega
theorem pg {a l:List Nat} {n:Nat} {tys:List Nat} (h:n≤gH l):clean (a++l) n tys=true↔(∀t∈a,t∉tys)∧clean l n tys=true:=by
 unfold clean
 rw [Ov a l h,List.all_append,ann,anx]
 simp [aV]
theorem Pj {σ:St} {tys:List TypeId} {t:Tag} {T:List Tag}:bq σ tys (t :: T)=true↔(fI t.1=true∨∃R,σ.roots t.1=some R∧R.bg=false∧clean R.w t.2 tys=true)∧bq σ tys T=true:=by
 obtain ⟨r,n⟩:=t
 simp only [bq,ann]
 cases he:fI r with
 | true=>simp
 | false=>
  simp only [cond_false,ank,false_or]
  cases hr:σ.roots r with
  | none=>simp
  | some R=>simp
theorem oF {σ:St} {tys:List TypeId} {T:List Tag}:bq σ tys T=true↔∀t∈T,fI t.1=true∨∃R,σ.roots t.1=some R∧R.bg=false∧clean R.w t.2 tys=true:=by
 induction T with
 | nil=>simp [bq]
 | cons t T ih=>rw [Pj,ih]; simp
def Views (cx:Cx) (σ:St) (α:dL) (F:List Nat) (w:World) (σ':St) (α':dL) (F':List Nat) (w':World):Prop:=
 ∀T tys,eY σ T→bq σ' tys T=true→bq σ tys T=true∧
  (∀b,iL cx σ α F w T b→((∃t∈tys,vO (hp w) b t)∨∀t∈T,fI t.1=true)→iL cx σ' α' F' w' T b∧hp w' b=hp w b)∧
  ∀b,Kw σ α F w T b→((∃t∈tys,vO (hp w) b t)∧¬lN cx b∨∀t∈T,fI t.1=true)→Kw σ' α' F' w' T b∧hp w' b=hp w b
theorem Views.vw {cx:Cx} {σ σ':St} {α α':dL} {F F':List Nat} {w w':World} (H:Views cx σ α F w σ' α' F' w') {T:List Tag} {tys:List TypeId} (hw:eY σ T) (hc:bq σ' tys T=true)
  {k:K} {x:El k} {cs:List Value} (hk:∀t∈k.tys,t∈tys) (h:Vw (hp w) (iL cx σ α F w T) k x cs):Vw (hp w') (iL cx σ' α' F' w' T) k x cs:=by
 obtain ⟨_,h2,_⟩:=H T tys hw hc
 exact gq (fun b hb=>(h2 b hb.1 (.inl hb.2)).2) (fun b hb=>(h2 b hb.1 (.inl hb.2)).1) (I9 tys hk h)
theorem Views.ro {cx:Cx} {σ σ':St} {α α':dL} {F F':List Nat} {w w':World} (H:Views cx σ α F w σ' α' F' w') {bt:TypeId} {k:K} {x:El k} {T:List Tag} {v:Value} (hw:eY σ T)
  (h:KG cx σ α F w bt k x T v):KG cx σ' α' F' w' bt k x T v:=by
 refine ⟨h.1,fun hc=>?_⟩
 obtain ⟨h1,_,h2⟩:=H T _ hw hc
 obtain ⟨b,o,cs,e,hcs,hv,hok,hb⟩:=h.2 h1
 have hb':Kw σ' α' F' w' T b∧hp w' b=hp w b:=h2 b hok (by
  rcases hb with ⟨_,hb⟩ | hb
  ·exact .inr hb
  ·exact .inl ⟨⟨bt,by simp,hb.1⟩,hb.2⟩)
 exact ⟨b,o,cs,e,hcs.congr hb'.2,H.vw hw hc (fun t ht=>by simp [ht]) hv,hb'.1,hb.imp id (fun h=>⟨JG hb'.2 h.1,h.2⟩)⟩
theorem Views.caps {cx:Cx} {σ σ':St} {α α':dL} {F F':List Nat} {w w':World} (H:Views cx σ α F w σ' α' F' w') :
  ∀{cs:List (TypeId×Dat×List Tag)} {vs:List Value},(∀c∈cs,eY σ c.2.2)→ku cx σ α F w cs vs→ku cx σ' α' F' w' cs vs
 | [],[],_,h=>h
 | c :: cs,v :: vs,hw,h=>⟨H.ro (hw c (by simp)) h.1,H.caps (fun c hc=>hw c (by simp [hc])) h.2⟩
 | [],_ :: _,_,h=>h.elim
 | _ :: _,[],_,h=>h.elim
theorem vC {cx:Cx} {σ σ':St} {α α':dL} {F F':List Nat} {w w':World} (H:Views cx σ α F w σ' α' F' w') {R:Root} (hw:eY σ R.tags) (h:bu σ' R):bu σ R:=
 ⟨h.1,(H R.tags R.Ce hw h.2).1⟩
end
end Go.Proofs.YtailcbngagacaabGreat.Ow

/- A verified reading of translated code: values in place of memory; part A of 6, spaces and remarks taken out. No condition. Own work of this seat. -/
import Derived.Calls
import Derived.Orders
import Derived.Laws.Cells
import Derived.Laws.IdiomCopy
import Derived.Laws.Entries
import Derived.ChangeKeysEq
import Derived.WalkKit
set_option linter.unusedSectionVars false
set_option linter.unusedVariables false
set_option linter.unusedSimpArgs false
namespace Go.Proofs.Ytabnmpabdhmkoaa.Ow
open Go
abbrev afQ := @Option.some.injEq
abbrev afR := @Option.bind_some
abbrev afS := @List.mem_append_right
abbrev afT := @Bool.false_eq_true
abbrev afU := @Nat.eq_of_beq_eq_true
abbrev afV := @List.mem_append_left
abbrev afW := @Bool.and_eq_true
abbrev afX := @List.nodup_append
abbrev afY := @List.length_append
abbrev afZ := @List.mem_append
abbrev af0 := @Int.toNat_natCast
abbrev af1 := @Prod.mk.injEq
abbrev af2 := @List.mem_cons
abbrev af3 := @List.getD_eq_getElem?_getD
abbrev af4 := @List.getElem?_eq_getElem
abbrev af5 := @List.all_eq_true
abbrev af6 := @Nat.le_refl
abbrev af7 := @List.mem_filter
abbrev af8 := @Result.andThen_ok
abbrev af9 := @List.mem_singleton
abbrev aga := @List.length_singleton
abbrev agb := @List.append_assoc
abbrev agc := @Classical.byContradiction
abbrev agd := @List.length_cons
abbrev age := @List.mem_cons_of_mem
abbrev agf := @Sem.run_bind
abbrev agh := @Int.ofNat_lt
abbrev agi := @Bool.not_true
abbrev agj := @List.getElem_mem
abbrev agk := @List.append_nil
abbrev agl := @Sem.run_pure
abbrev agm := @Nat.mul_le_mul_right
abbrev agn := @List.mem_cons_self
abbrev agp := @List.nodup_cons
abbrev agq := @Nat.zero_le
abbrev agr := @Option.some.inj
abbrev ags := @List.mem_map
abbrev agt := @List.mem_flatMap
abbrev agu := @Bool.not_false
section
open Go
inductive K where
 | int (k:IntKind)
 | bool
 | str
 | sl (e:TypeId) (k:K)
 | unit
 | pair (a b:K)
 | st (f:K)
 | gap (n:Nat)
 | id (e:TypeId)
 deriving Inhabited
abbrev El:K→Type
 | .int _=>Int
 | .bool=>Bool
 | .str=>List Int
 | .sl _ k=>List (El k)
 | .unit=>Unit
 | .pair a b=>El a×El b
 | .st f=>El f
 | .gap _=>Unit
 | .id _=>Nat
def K.size:K→Nat
 | .int _ | .bool | .str | .sl _ _ | .id _=>1
 | .unit=>0
 | .pair a b=>a.size+b.size
 | .st f=>f.size
 | .gap n=>n
def K.zero:(k:K)→El k
 | .int _=>(0:Int)
 | .bool=>false
 | .str=>([]:List Int)
 | .sl _ _=>[]
 | .unit=>()
 | .pair a b=>(a.zero,b.zero)
 | .st f=>f.zero
 | .gap _=>()
 | .id _=>(0:Nat)
def uW:IntKind→IntKind→Bool
 | .i8, .i8 | .i16, .i16 | .i32, .i32 | .i64, .i64 | .u8, .u8 | .u16, .u16 | .u32, .u32 | .u64, .u64=>true
 | _,_=>false
def K.beq:K→K→Bool
 | .int a, .int b=>uW a b
 | .bool, .bool=>true
 | .str, .str=>true
 | .sl e a, .sl f b=>Nat.beq e f && a.beq b
 | .unit, .unit=>true
 | .pair a b, .pair c d=>a.beq c && b.beq d
 | .st a, .st b=>a.beq b
 | .gap n, .gap m=>Nat.beq n m
 | .id e, .id f=>Nat.beq e f
 | _,_=>false
theorem vF {a b:IntKind} (h:uW a b=true):a=b:=by cases a <;> cases b <;> simp_all [uW]
theorem K.eq_of_beq:∀{a b:K},a.beq b=true→a=b:=by
 intro a
 induction a with
 | int k=>intro b h; cases b <;> simp_all [K.beq]; exact vF h
 | sl e k ih=>intro b h; cases b <;> simp_all [K.beq]; exact ih h.2
 | pair a b iha ihb=>intro c h; cases c <;> simp_all [K.beq]; exact ⟨iha h.1,ihb h.2⟩
 | st f ih=>intro b h; cases b <;> simp_all [K.beq]; exact ih h
 | gap n=>intro b h; cases b <;> simp_all [K.beq]
 | id e=>intro b h; cases b <;> simp_all [K.beq]
 | _=>intro b h; cases b <;> simp_all [K.beq]
def K.like:K→K→Bool
 | .gap n,k=>Nat.beq n k.size
 | .pair a b, .pair c d=>a.like c && b.like d
 | .st a, .st b=>a.like b
 | a,b=>a.beq b
def bR (a b:K) (x:El a):Option (El b):=if h:a.beq b=true then some (K.eq_of_beq h▸x) else none
def K.hole:K→K
 | .sl _ _=>.gap 1
 | .pair a b=>.pair a.hole b.hole
 | .st f=>.st f.hole
 | k=>k
def pY:(k:K)→El k→El k.hole
 | .sl _ _,_=>()
 | .pair a b,x=>(pY a x.1,pY b x.2)
 | .st f,x=>pY f x
 | .int _,x=>x
 | .bool,x=>x
 | .str,x=>x
 | .unit,_=>()
 | .gap _,_=>()
 | .id _,x=>x
def K.tys:K→List TypeId
 | .sl e k=>e :: k.tys
 | .pair a b=>a.tys++b.tys
 | .st f=>f.tys
 | _=>[]
def K.flat:K→Bool
 | .sl _ _ | .gap _=>false
 | .pair a b=>a.flat && b.flat
 | .st f=>f.flat
 | _=>true
def Cont:List K→Type
 | []=>Unit
 | k :: ks=>El k×Cont ks
def Cont.app:(ks ls:List K)→Cont ks→Cont ls→Cont (ks++ls)
 | [],_,_,d=>d
 | _ :: ks,ls,c,d=>(c.1,Cont.app ks ls c.2 d)
inductive Stp where
 | fD (n:Nat)
 | idx (i:Int)
abbrev Dat:=(k:K)×El k
def og (d:Dat):Dat:=⟨d.1.hole,pY d.1 d.2⟩
def aK:Nat→(c:K)→El c→Option Dat
 | 0, .pair a _,x=>some ⟨a,x.1⟩
 | n+1, .pair _ b,x=>aK n b x.2
 | _,_,_=>none
def aO:List Stp→(k:K)→El k→Option Dat
 | [],k,x=>some ⟨k,x⟩
 | .fD n :: p, .st c,x=>match aK n c x with
  | some d=>aO p d.1 d.2
  | none=>none
 | .idx i :: p, .sl _ k,xs=>aO p k ((show List (El k) from xs).getD i.toNat k.zero)
 | _,_,_=>none
def cu:Nat→(c:K)→El c→Dat→Option Dat
 | 0, .pair _ b,x,d=>some ⟨.pair d.1 b,(d.2,x.2)⟩
 | n+1, .pair a b,x,d=>match cu n b x.2 d with
  | some z=>some ⟨.pair a z.1,(x.1,z.2)⟩
  | none=>none
 | _,_,_,_=>none
def dR:List Stp→(k:K)→El k→Dat→Option Dat
 | [],_,_,d=>some d
 | .fD n :: p, .st c,x,d=>match aK n c x with
  | some s=>match dR p s.1 s.2 d with
   | some t=>match cu n c x t with
    | some z=>some ⟨.st z.1,z.2⟩
    | none=>none
   | none=>none
  | none=>none
 | .idx i :: p, .sl e k,xs,d=>match dR p k ((show List (El k) from xs).getD i.toNat k.zero) d with
  | some t=>match bR t.1 k t.2 with
   | some y=>some ⟨.sl e k,(show List (El k) from xs).set i.toNat y⟩
   | none=>none
  | none=>none
 | _,_,_,_=>none
def Stp.nG:Stp→Bool
 | .fD _=>true
 | .idx _=>false
def aa:List Stp→K→List TypeId
 | .fD n :: p, .st c=>match Ae n c with
  | some k=>aa p k
  | none=>[]
 | .idx _ :: p, .sl e k=>e :: aa p k
 | _,_=>[]
where Ae:Nat→K→Option K
 | 0, .pair a _=>some a
 | n+1, .pair _ b=>Ae n b
 | _,_=>none
abbrev Tag:=Nat×Nat
inductive AV where
 | undef
 | val (k:K) (x:El k) (tags:List Tag)
 | iC
 | ref (r g:Nat)
 | oQ (r:Nat) (p:List Stp) (v:Nat)
 | ptr (r:Nat) (p:List Stp) (h:Nat)
 | iK (bt:TypeId) (k:K) (x:El k) (tags:List Tag)
 | oz
 | Bu (r g:Nat) (k:K) (p:List Stp)
 | u6 (e:Bool)
 | part (r g lo hi sz:Nat)
 | sW (r:Nat) (p:List Stp) (v m:Nat)
 | app (r:Nat) (p:List Stp) (v q:Nat)
 | fn (f:Nat) (caps:List (TypeId×Dat×List Tag))
inductive sK where
 | one (a:AV)
 | CV (l:List AV)
 | lit (t:TypeId) (c:K) (l:List AV)
inductive zD where
 | anon
 | var (t:TypeId)
 | par
 | dead
structure Root where
 k:K
 x:El k
 own:List TypeId
 tags:List Tag
 w:List TypeId
 h:List TypeId
 g:Nat
 kind:zD
 fixed:Bool
 keep:Bool
 ew:List TypeId:=[]
 eh:List TypeId:=[]
def Root.aZ (R:Root):Bool:=match R.kind with
 | .dead=>true
 | _=>false
def Root.isVar (R:Root):Bool:=match R.kind with
 | .var _=>true
 | _=>false
def bT:Root:={ k:=.unit,x:=(),own:=[],tags:=[],w:=[],h:=[],g:=0,kind:=.dead,fixed:=true,keep:=true }
structure St where
 slots:Nat→sK
 roots:Nat→Option Root
inductive Loc where
 | s (n:Nat)
 | r (n:Nat)
inductive Wr where
 | s (n:Nat) (a:sK)
 | r (n:Nat) (o:Option Root)
def Loc.beq:Loc→Loc→Bool
 | .s a, .s b=>Nat.beq a b
 | .r a, .r b=>Nat.beq a b
 | _,_=>false
def Wr.loc:Wr→Loc
 | .s n _=>.s n
 | .r n _=>.r n
def upd {α:Type} (f:Nat→α) (n:Nat) (v:α):Nat→α:=fun m=>bif Nat.beq m n then v else f m
def Wr.app (w:Wr) (σ:St):St:=match w with
 | .s n a=>{ σ with slots:=upd σ.slots n a }
 | .r n (some R)=>{ σ with roots:=upd σ.roots n (some R) }
 | .r n none=>{ σ with roots:=upd σ.roots n (some bT) }
def az:List Wr→St→St
 | [],σ=>σ
 | w :: ws,σ=>az ws (w.app σ)
inductive Prog (α:Type):Type 1 where
 | ret (a:α)
 | fail
 | slot (n:Nat) (k:sK→Prog α)
 | root (r:Nat) (k:Option Root→Prog α)
 | qB (c:Prop) (d:Decidable c) (k:Prog α)
 | br (c:Bool) (t e:Prog α)
 | opt (β:Type) (o:Option β) (k:β→Prog α)
def Prog.bind {α β:Type}:Prog α→(α→Prog β)→Prog β
 | .ret a,f=>f a
 | .fail,_=>.fail
 | .slot n k,f=>.slot n fun v=>(k v).bind f
 | .root r k,f=>.root r fun v=>(k v).bind f
 | .qB c d k,f=>.qB c d (k.bind f)
 | .br c t e,f=>.br c (t.bind f) (e.bind f)
 | .opt β o k,f=>.opt β o fun b=>(k b).bind f
def Prog.run {α R:Type}:Prog α→St→(α→Option R)→Option R
 | .ret a,_,K=>K a
 | .fail,_,_=>none
 | .slot n k,σ,K=>(k (σ.slots n)).run σ K
 | .root r k,σ,K=>(k (σ.roots r)).run σ K
 | .qB c d k,σ,K=>@ite _ c d (k.run σ K) none
 | .br c t e,σ,K=>if c=true then t.run σ K else e.run σ K
 | .opt _ o k,σ,K=>o.bind fun b=>(k b).run σ K
def Prog.Ap {α R:Type}:Prog α→St→List Loc→(α→List Loc→Option R)→Option R
 | .ret a,_,l,K=>K a l
 | .fail,_,_,_=>none
 | .slot n k,σ,l,K=>(k (σ.slots n)).Ap σ (.s n :: l) K
 | .root r k,σ,l,K=>(k (σ.roots r)).Ap σ (.r r :: l) K
 | .qB c d k,σ,l,K=>@ite _ c d (k.Ap σ l K) none
 | .br c t e,σ,l,K=>if c=true then t.Ap σ l K else e.Ap σ l K
 | .opt _ o k,σ,l,K=>o.bind fun b=>(k b).Ap σ l K
def vJ:List Wr→Nat→Option sK
 | [],_=>none
 | .s m a :: ws,n=>match vJ ws n with
  | some b=>some b
  | none=>bif Nat.beq n m then some a else none
 | .r _ _ :: ws,n=>vJ ws n
def xg:List Wr→Nat→Option (Option Root)
 | [],_=>none
 | .r m o :: ws,n=>match xg ws n with
  | some b=>some b
  | none=>bif Nat.beq n m then some (some (o.getD bT)) else none
 | .s _ _ :: ws,n=>xg ws n
def Prog.over {α:Type} (ws:List Wr):Prog α→Prog α
 | .ret a=>.ret a
 | .fail=>.fail
 | .slot n k=>match vJ ws n with
  | some v=>(k v).over ws
  | none=>.slot n fun v=>(k v).over ws
 | .root r k=>match xg ws r with
  | some v=>(k v).over ws
  | none=>.root r fun v=>(k v).over ws
 | .qB c d k=>.qB c d (k.over ws)
 | .br c t e=>.br c (t.over ws) (e.over ws)
 | .opt β o k=>.opt β o fun b=>(k b).over ws
def RF (p q:Prog (List Wr)):Prog (List Wr):=p.bind fun ws=>(q.over ws).bind fun vs=>.ret (ws++vs)
end
section
open Go
def au (n:Nat):List Nat→Bool
 | []=>false
 | m :: l=>bif Nat.beq n m then true else au n l
def kD (l m:List Nat):Bool:=l.all fun n=>au n m
def fV {α:Type}:List α→Nat
 | []=>0
 | _ :: l=>fV l+1
def ak (j:Nat):Nat:=4 * j
def mM (j:Nat):Nat:=4 * j+1
def aX (d c:Nat):Nat:=4 * (8 * d+c)+2
def fC (r:Nat):Bool:=Nat.beq (r % 4) 1
def since (l:List Nat) (n:Nat):List Nat:=l.take (fV l - n)
def clean (l:List Nat) (n:Nat) (tys:List Nat):Bool:=(since l n).all fun t=>!au t tys
def bytesOf (s:ByteArray):List Int:=s.data.toList.map fun b=>(b.toNat:Int)
inductive fA where
 | val (k:K) (gL:List Nat)
 | ro (k:K)
 | rw (k:K) (ow wt ht:List TypeId)
 | into (j:Nat) (p:List (Option Nat))
 | jF (k:K) (ow wt:List TypeId)
 | own (k:K) (ow:List TypeId)
 | fn (f:Nat) (ks:List K)
inductive ug where
 | val (k:K) (exts gL:List Nat)
 | own (k:K) (ow:List TypeId) (exts gL:List Nat)
 | ptr (t:TypeId) (k:K) (ow:List TypeId) (exts:List Nat)
 | into (j:Nat) (p:List (Option Nat))
def fA.kin:fA→List K
 | .val k _ | .ro k | .rw k _ _ _ | .jF k _ _ | .own k _=>[k]
 | .into _ p=>p.filterMap fun | none=>some (.int .i64) | some _=>none
 | .fn _ ks=>ks
def fA.jD:fA→List K
 | .rw k _ _ _ | .jF k _ _=>[k]
 | _=>[]
def ug.gU:ug→List K
 | .val k _ _ | .own k _ _ _ | .ptr _ k _ _=>[k]
 | .into _ _=>[.int .i64]
def kin:List fA→List K
 | []=>[]
 | p :: ps=>p.kin++kin ps
def jD:List fA→List K
 | []=>[]
 | p :: ps=>p.jD++jD ps
def gU:List ug→List K
 | []=>[]
 | p :: ps=>p.gU++gU ps
structure Entry where
 f:FuncId
 ps:List fA
 rs:List ug
 F:Nat→Cont (kin ps)→Option (Cont (gU rs++jD ps))
structure iD where
 ty:TypeId→Option K
 bytes:TypeId→Nat
 ptr:TypeId→Bool
 eq:TypeId→Bool
 ids:Bool:=false
structure Hint where
 nt:Nat
 abw:List Nat
 loops:List (Nat×List Nat×List Nat)
 less:List (Nat×List TypeId)
 calls:List (Nat×Option Nat×Entry)
 iJ:List (Nat×K×List TypeId×List TypeId)
 wide:List (Nat×List Nat):=[]
 parts:List Nat:=[]
 apps:List Nat:=[]
section
variable {α:Type}
def kS:List Tag→List TypeId→Prog α→Prog α
 | [],_,k=>k
 | (r,n) :: ts,tys,k=>bif fC r then kS ts tys k else .root r fun
  | some R=>bif !R.aZ && clean R.w n tys then kS ts tys k else .fail
  | none=>.fail
def aR (own:List TypeId):K→List TypeId
 | .sl e k=>bif au e own then aR own k else e :: k.tys
 | .pair a b=>aR own a++aR own b
 | .st f=>aR own f
 | _=>[]
def Root.wF (R:Root):List TypeId:=aR R.own R.k
def oD (r:Nat) (k:Root→Prog α):Prog α:=.root r fun
 | some R=>bif R.aZ then .fail else kS R.tags R.wF (k R)
 | none=>.fail
def Root.rR (R:Root):Nat:=fV R.w+fV R.h
def Root.out (R:Root) (r:Nat) (k:K):List Tag:=bif k.flat then [] else bif k.tys.any (fun t=>au t R.own) then (r,fV R.w) :: R.tags else R.tags
def ig (r:Nat) (k:Prog α):Prog α:=.root r fun
 | none=>k
 | some _=>.fail
def Vi:IntKind→Int→Bool
 | .u8,n=>Int.blt n 256 && Int.ble 0 n
 | _,_=>true
where
 Int.blt (a b:Int):Bool:=decide (a<b)
 Int.ble (a b:Int):Bool:=decide (a≤b)
def Pg:Value→AV
 | .int k n=>bif Vi k n then .val (.int k) n [] else .undef
 | .bool b=>.val .bool b []
 | .string s=>.val .str (bytesOf s) []
 | .slice none 0 0=>.iC
 | .pointer none=>.oz
 | _=>.undef
def qp (x:Operand) (k:sK→Prog α):Prog α:=match x with
 | .tmp t=>.slot t k
 | .const v=>k (.one (Pg v))
 | .func f=>k (.one (.fn f []))
 | .global _=>.fail
def dJ (x:Operand) (k:AV→Prog α):Prog α:=qp x fun
 | .one a=>k a
 | _=>.fail
def qz (a:AV) (k:(kk:K)→El kk→List Tag→Prog α):Prog α:=match a with
 | .val kk x tags=>kS tags kk.tys (k kk x tags)
 | .ref r g=>oD r fun R=>bif Nat.beq R.g g then k R.k R.x (R.out r R.k) else .fail
 | .oQ r p h=>oD r fun R=>bif Nat.beq R.rR h then
   match aO p R.k R.x with
   | some d=>k d.1 d.2 (R.out r d.1)
   | none=>.fail
  else .fail
 | _=>.fail
def asInt (a:AV) (k:IntKind→Int→Prog α):Prog α:=match a with
 | .val (.int ik) n _=>k ik n
 | _=>.fail
def asBool (a:AV) (k:Bool→Prog α):Prog α:=match a with
 | .val .bool b _=>k b
 | _=>.fail
def Wr.pQ:Wr→List Nat
 | .r n _=>[n]
 | .s _ _=>[]
def yR:List Nat→Bool
 | []=>true
 | n :: l=>!au n l && yR l
def vk (ws:List Wr) (tags:List Tag):Bool:=tags.all fun t=>!au t.1 (ws.flatMap Wr.pQ)
def yF (ws:List Wr) (tags:List Tag):Bool:=yR (ws.flatMap Wr.pQ) && vk ws tags
structure gP where
 k:K
 x:El k
 own:List TypeId
 tags:List Tag
 ws:List Wr
 keep:Bool
abbrev mY:Nat:=4294967294
def dS:List Stp→K→List TypeId
 | [],_=>[]
 | p,k=>mY :: aa p k
def oW (k:K):List TypeId:=match k.tys with
 | []=>[mY]
 | _=>[]
def wK (R:Root) (p:List Stp) (d:Dat):Option Root:=
 match dR p R.k R.x (og d) with
 | some z=>some { R with k:=z.1,x:=z.2,w:=d.1.tys++R.w,h:=oW d.1++d.1.tys++R.h }
 | none=>none
def sF (want:K) (a:AV) (k:gP→Prog α):Prog α:=match a with
 | .val kk x tags=>kS tags kk.tys (k ⟨kk,x,[],tags,[],false⟩)
 | .iC=>match want with
  | .sl e kk=>k ⟨.sl e kk,[],e :: kk.tys,[],[],false⟩
  | _=>.fail
 | .ref r g=>oD r fun R=>bif Nat.beq R.g g && !R.fixed then k ⟨R.k,R.x,R.own,R.tags,[.r r none],R.keep⟩ else .fail
 | .oQ r p h=>oD r fun R=>bif Nat.beq R.rR h then
   match aO p R.k R.x with
   | some d=>bif p.all Stp.nG && !R.fixed && (!p.isEmpty || R.isVar) then
     match wK R p d with
     | some R'=>k ⟨d.1,d.2,d.1.tys.filter (fun t=>au t R.own),R.tags,[.r r (some R')],R.keep⟩
     | none=>.fail
    else kS (R.out r d.1) d.1.tys (k ⟨d.1,d.2,[],R.out r d.1,[],false⟩)
   | none=>.fail
  else .fail
 | .part r g lo hi sz=>oD r fun R=>bif Nat.beq R.g g && !R.fixed && Nat.beq lo 0 then match R.k,R.x with
   | .sl e kk,xs=>bif kk.flat && au e R.own && Nat.beq kk.size sz then k ⟨.sl e kk,(show List (El kk) from xs).take hi,R.own,R.tags,[.r r none],R.keep⟩ else .fail
   | _,_=>.fail
  else .fail
 | _=>.fail
def uX:List Int→List Int→Bool
 | _,[]=>false
 | [],_ :: _=>true
 | a :: x,b :: y=>decide (a<b) || (decide (a=b) && uX x y)
def uI:(k:K)→El k→El k→Bool
 | .int _,x,y=>decide ((show Int from x)=y)
 | .bool,x,y=>(show Bool from x) == y
 | .str,x,y=>decide ((show List Int from x)=y)
 | .pair .unit .unit,_,_=>true
 | .pair a .unit,x,y=>uI a x.1 y.1
 | .pair a b,x,y=>uI a x.1 y.1 && uI b x.2 y.2
 | .st f,x,y=>uI f x y
 | _,_,_=>true
def v1 (k:K) (x:El k):sK:=.one (.val k x [])
def KL (op:BinOp) (ik:IntKind) (x y:Int) (k:sK→Prog α):Prog α:=match op with
 | .add=>k (v1 (.int ik) (ik.wrap (x+y)))
 | .sub=>k (v1 (.int ik) (ik.wrap (x - y)))
 | .mul=>k (v1 (.int ik) (ik.wrap (x * y)))
 | .quo=>.qB (y≠0) inferInstance (k (v1 (.int ik) (ik.wrap (x.tdiv y))))
 | .rem=>.qB (y≠0) inferInstance (k (v1 (.int ik) (x.tmod y)))
 | .and=>k (v1 (.int ik) (ik.wrap (BitVec.ofInt ik.bits x &&& BitVec.ofInt ik.bits y).toNat))
 | .or=>k (v1 (.int ik) (ik.wrap (BitVec.ofInt ik.bits x ||| BitVec.ofInt ik.bits y).toNat))
 | .xor=>k (v1 (.int ik) (ik.wrap (BitVec.ofInt ik.bits x ^^^ BitVec.ofInt ik.bits y).toNat))
 | .andNot=>k (v1 (.int ik) (ik.wrap (BitVec.ofInt ik.bits x &&& ~~~ BitVec.ofInt ik.bits y).toNat))
 | .eql=>k (v1 .bool (decide (x=y)))
 | .neq=>k (v1 .bool (!decide (x=y)))
 | .lss=>k (v1 .bool (decide (x<y)))
 | .leq=>k (v1 .bool (decide (x≤y)))
 | .gtr=>k (v1 .bool (decide (x>y)))
 | .geq=>k (v1 .bool (decide (x≥y)))
 | _=>.fail
def PW (op:BinOp) (x y:List Int) (k:sK→Prog α):Prog α:=match op with
 | .add=>.qB (x.length+y.length≤9223372036854775807) inferInstance (k (v1 .str (x++y)))
 | .eql=>k (v1 .bool (decide (x=y)))
 | .neq=>k (v1 .bool (!decide (x=y)))
 | .lss=>k (v1 .bool (uX x y))
 | .leq=>k (v1 .bool (uX x y || decide (x=y)))
 | .gtr=>k (v1 .bool (!(uX x y || decide (x=y))))
 | .geq=>k (v1 .bool (!uX x y))
 | _=>.fail
def Hw (a b:AV):Option Bool:=match a,b with
 | .oz, .oz=>some true
 | .oz, .ptr _ _ _ | .ptr _ _ _, .oz=>some false
 | .oz, .iK _ _ _ _ | .iK _ _ _ _, .oz=>some false
 | _,_=>none
def Gi (T:iD) (t:TypeId) (op:BinOp) (a b:AV) (k:sK→Prog α):Prog α:=match a,b with
 | .val (.int ik) x _, .val (.int jk) y _=>match op with
  | .shl=>.qB (0≤y) inferInstance (k (v1 (.int ik) (ik.wrap (x * 2 ^ min y.toNat ik.bits))))
  | .shr=>.qB (0≤y) inferInstance (k (v1 (.int ik) (x.fdiv (2 ^ min y.toNat ik.bits))))
  | _=>bif uW ik jk then KL op ik x y k else .fail
 | .val .bool x _, .val .bool y _=>match T.ty t,op with
  | some .bool, .eql=>k (v1 .bool (x == y))
  | some .bool, .neq=>k (v1 .bool (!(x == y)))
  | _,_=>.fail
 | .val .str x _, .val .str y _=>PW op x y k
 | .val (.st c) x _, .val (.st d) y _=>match bR (.st d) (.st c) y with
  | some y'=>bif (c.flat && T.eq t) && (match T.ty t with | some kk=>kk.beq (.st c) | none=>false) then match op with
    | .eql=>k (v1 .bool (uI c x y'))
    | .neq=>k (v1 .bool (!uI c x y'))
    | _=>.fail
   else .fail
  | none=>.fail
 | a,b=>bif T.ptr t then match Hw a b,op with
  | some t, .eql=>k (v1 .bool t)
  | some t, .neq=>k (v1 .bool (!t))
  | _,_=>.fail
  else .fail
def OY:Operand→Bool
 | .const (.slice none 0 0)=>true
 | _=>false
def Sq:BinOp→Bool
 | .eql=>true
 | _=>false
def Yf (T:iD) (t:TypeId) (a:AV) (k:AV→Prog α):Prog α:=match T.ty t with
 | some (.sl _ _)=>qz a fun kk x _=>match kk,x with
  | .sl _ kk,xs=>k (.u6 (show List (El kk) from xs).isEmpty)
  | _,_=>.fail
 | _=>.fail
def IX (T:iD) (t:TypeId) (op:BinOp) (x y:Operand) (k:sK→Prog α):Prog α:=
 bif OY y && Sq op then dJ x fun a=>Yf T t a fun v=>k (.one v) else dJ x fun a=>dJ y fun b=>Gi T t op a b k
def unP (op:UnOp) (a:AV) (k:sK→Prog α):Prog α:=match op,a with
 | .neg, .val (.int ik) x _=>k (v1 (.int ik) (ik.wrap (0 - x)))
 | .xor, .val (.int ik) x _=>k (v1 (.int ik) (ik.wrap (BitVec.ofInt ik.bits (if ik.signed then -1 else ik.max) ^^^ BitVec.ofInt ik.bits x).toNat))
 | .not, .val .bool b _=>k (v1 .bool (!b))
 | _,_=>.fail
def aI (k:K) (x:El k) (ow:List TypeId) (tags:List Tag) (kind:zD) (keep:Bool:=false):Root:={ k,x,own:=ow,tags,w:=[],h:=[],g:=0,kind,fixed:=false,keep }
def Root.bt (R:Root):TypeId:=match R.kind with
 | .var t=>t
 | _=>4294967295
def eB (R:Root) (p:List Stp):TypeId:=(aa p R.k).getLastD R.bt
def AO (p:List Stp) (R:Root):Bool:=(aa p R.k).all fun t=>au t R.own
def addrOf (a:AV) (rd:Root→Nat→List Stp→Dat→Prog α) (ro:TypeId→Dat→List Tag→Prog α):Prog α:=match a with
 | .ptr r p h=>oD r fun R=>bif clean R.h h (dS p R.k) && AO p R then
   match aO p R.k R.x with
   | some d=>rd R r p d
   | none=>.fail
  else .fail
 | .iK bt k x tags=>kS tags (bt :: k.tys) (ro bt ⟨k,x⟩ tags)
 | _=>.fail
def yf (T:iD) (oQ:Bool) (t:TypeId) (a:AV) (k:AV→Prog α):Prog α:=
 match T.ty t with
 | none=>.fail
 | some kk=>match a with
  | .Bu r g k0 p=>oD r fun R=>bif Nat.beq R.g g && R.k.beq k0 && p.all Stp.nG then
    match aO p R.k R.x with
    | some d=>bif d.1.beq kk then (bif d.1.flat then k (.val d.1 d.2 []) else k (.oQ r p R.rR)) else .fail
    | none=>.fail
   else .fail
  | a=>addrOf a
   (fun R r p d=>bif d.1.beq kk then (bif oQ && !d.1.flat then k (.oQ r p R.rR) else k (.val d.1 d.2 (R.out r d.1))) else .fail)
   (fun _ d tags=>bif d.1.beq kk then k (.val d.1 d.2 (bif d.1.flat then [] else tags)) else .fail)
def bD (own bad:List TypeId):List TypeId:=own.filter fun t=>!au t bad
def iy:List Tag→List Tag→List Tag
 | [],m=>m
 | (r,n) :: l,m=>bif m.any fun t=>Nat.beq t.1 r && Nat.beq t.2 n then iy l m else (r,n) :: iy l m
def sj (r:Nat) (l:List Tag):List Tag:=l.filter fun t=>!Nat.beq t.1 r
def gP.bad (tk:gP):List TypeId:=aR tk.own tk.k
def FK (R:Root) (r:Nat) (tags:List Tag) (bad:List TypeId):Bool:=tags.all (fun t=>!Nat.beq t.1 r) || match R.kind with
 | .par=>false
 | .var t=>!au t bad
 | _=>true
def FD (R:Root) (r:Nat) (p:List Stp) (d:Dat) (tk:gP):Option (Root×Dat):=
 bif !d.1.flat && p.all Stp.nG && !R.keep && (!p.isEmpty || R.isVar) && tk.tags.all (fun t=>!Nat.beq t.1 r) then
  match wK R p d with
  | some Rg=>match tk.own.filter (fun t=>!au t R.own && au t d.1.tys && !au t Rg.k.tys) with
   | []=>none
   | l=>some ({ Rg with own:=l++R.own },og d)
  | none=>none
 else none
def storeAt (kk:K) (r:Nat) (p:List Stp) (tk:gP) (R:Root) (d:Dat) (k:List Wr→Prog α):Prog α:=
 bif (d.1.beq kk || (d.1.beq kk.hole && p.all Stp.nG)) && (kk.flat || FK R r tk.tags tk.bad) && (aa p R.k).all (fun t=>!au t tk.bad) then
  match dR p R.k R.x ⟨tk.k,tk.x⟩ with
  | some z=>bif R.keep && !kk.tys.all (fun t=>!au t R.own || au t tk.own) then .fail else
   k (tk.ws++[.r r (some { R with
    keep:=R.keep || tk.keep
    k:=z.1,x:=z.2
    own:=bD R.own tk.bad
    tags:=bif kk.flat then R.tags else iy (sj r tk.tags) R.tags
    w:=eB R p :: R.w
    h:=(bif d.1.beq kk then [] else oW kk)++kk.tys++R.h })])
  | none=>.fail
 else .fail
def J2 (T:iD) (t:TypeId) (a v:AV) (k:List Wr→Prog α):Prog α:=
 match T.ty t,a with
 | some kk, .ptr r p h=>sF kk v fun tk=>bif tk.k.beq kk && tk.ws.all (fun w=>!w.loc.beq (.r r)) then
   oD r fun R=>bif clean R.h h (dS p R.k) && AO p R && vk tk.ws R.tags then
    match aO p R.k R.x with
    | some d=>match FD R r p d tk with
     | some q=>kS q.1.tags q.1.wF (storeAt kk r p tk q.1 q.2 k)
     | none=>storeAt kk r p tk R d k
    | none=>.fail
   else .fail
  else .fail
 | _,_=>.fail
def BJ (kk:K) (a:AV) (n:Nat) (k:AV→Prog α):Prog α:=match a with
 | .val (.st c) x tags=>bif (K.st c).beq kk then match aK n c x with
  | some d=>kS tags c.tys (k (.val d.1 d.2 (bif d.1.flat then [] else tags)))
  | none=>.fail
  else .fail
 | .ref r g=>oD r fun R=>bif Nat.beq R.g g && R.k.beq kk then
   match aO [.fD n] R.k R.x with
   | some d=>bif d.1.flat then k (.val d.1 d.2 []) else k (.oQ r [.fD n] R.rR)
   | none=>.fail
  else .fail
 | .oQ r p h=>oD r fun R=>bif Nat.beq R.rR h then
   match aO p R.k R.x,aO (p++[.fD n]) R.k R.x with
   | some d0,some d=>bif !d0.1.beq kk then .fail else bif d.1.flat then k (.val d.1 d.2 []) else k (.oQ r (p++[.fD n]) R.rR)
   | _,_=>.fail
  else .fail
 | _=>.fail
def Fa (kk:K) (n:Nat):Bool:=match kk with
 | .st c=>(aa.Ae n c).isSome
 | _=>false
def D7:List Stp→K→Option K
 | [],k=>some k
 | .fD n :: p, .st c=>match aa.Ae n c with
  | some k=>D7 p k
  | none=>none
 | _,_=>none
def QI (a:AV) (kk:K) (yes:Nat→Nat→Prog α) (no:Prog α):Prog α:=match a with
 | .ref r g=>.root r fun
  | some R=>bif R.fixed then (oD r fun R=>bif Nat.beq R.g g && R.k.beq kk then yes r g else .fail) else no
  | none=>no
 | _=>no
def rq (kk:K) (a:AV) (n:Nat) (k:AV→Prog α):Prog α:=match a with
 | .ptr r p h=>.root r fun
  | some R=>match aO p R.k R.x with
   | some d=>bif d.1.like kk && Fa kk n then k (.ptr r (p++[.fD n]) h) else .fail
   | none=>.fail
  | none=>.fail
 | .iK bt (.st c) x tags=>bif (K.st c).beq kk then match aK n c x with
  | some d=>kS tags (bt :: c.tys) (k (.iK bt d.1 d.2 tags))
  | none=>.fail
  else .fail
 | .Bu r g k0 p=>match D7 p k0 with
  | some k1=>bif k1.beq kk && Fa kk n then k (.Bu r g k0 (p++[.fD n])) else .fail
  | none=>.fail
 | _=>.fail
def aM (i:Int) (n:Nat):Prop:=0≤i∧i<(n:Int)
instance (i:Int) (n:Nat):Decidable (aM i n):=inferInstanceAs (Decidable (_∧_))
def ry (k0:K) (a:AV) (i:Int) (k:AV→Prog α):Prog α:=match a with
 | .val (.sl e kk) xs tags=>bif (K.sl e kk).beq k0 then kS tags (e :: kk.tys) (.qB (aM i (show List (El kk) from xs).length) inferInstance
   (k (.iK e kk ((show List (El kk) from xs).getD i.toNat kk.zero) tags))) else .fail
 | .ref r g=>oD r fun R=>bif Nat.beq R.g g then
   match R.k,R.x with
   | .sl e kk,xs=>bif au e R.own && (K.sl e kk).beq k0 then .qB (aM i (show List (El kk) from xs).length) inferInstance (k (.ptr r [.idx i] (fV R.h))) else .fail
   | _,_=>.fail
  else .fail
 | .oQ r p h=>oD r fun R=>bif Nat.beq R.rR h then
   match aO p R.k R.x with
   | some ⟨.sl e kk,xs⟩=>bif !(K.sl e kk).beq k0 then .fail else bif au e R.own then .qB (aM i (show List (El kk) from xs).length) inferInstance (k (.ptr r (p++[.idx i]) (fV R.h)))
     else .qB (aM i (show List (El kk) from xs).length) inferInstance (k (.iK e kk ((show List (El kk) from xs).getD i.toNat kk.zero) (R.out r (.sl e kk))))
   | _=>.fail
  else .fail
 | _=>.fail
structure xH where
 k:K
 x:El k
 bad:List TypeId
 tags:List Tag
 ws:List Wr
 keep:Bool
 all:List Tag
def gP.gq (tk:gP):List Tag:=match tk.bad with
 | []=>[]
 | _=>tk.tags
def wT:List (Nat×AV)→xH→(xH→Prog α)→Prog α
 | [],b,k=>k b
 | (n,a) :: l,b,k=>match b.k,b.x with
  | .st c,x=>match aK n c x with
   | some d=>sF d.1 a fun tk=>bif tk.k.beq d.1 then
     match cu n c x ⟨tk.k,tk.x⟩ with
     | some z=>wT l { k:=.st z.1,x:=z.2,bad:=tk.bad++b.bad,tags:=iy (tk.gq) b.tags,ws:=b.ws++tk.ws,keep:=tk.keep || b.keep,all:=tk.tags++b.all } k
     | none=>.fail
    else .fail
   | none=>.fail
  | _,_=>.fail
def wI:List (Nat×Operand)→(List (Nat×AV)→Prog α)→Prog α
 | [],k=>k []
 | (n,x) :: l,k=>dJ x fun a=>wI l fun r=>k ((n,a) :: r)
def jg:List Operand→(List AV→Prog α)→Prog α
 | [],k=>k []
 | x :: l,k=>dJ x fun a=>jg l fun r=>k (a :: r)
structure qX (kk:K) where
 xs:List (El kk)
 bad:List TypeId
 tags:List Tag
 ws:List Wr
 keep:Bool
 all:List Tag
def BF (kk:K):List (Nat×AV)→qX kk→(qX kk→Prog α)→Prog α
 | [],b,k=>k b
 | (n,a) :: l,b,k=>sF kk a fun tk=>match bR tk.k kk tk.x with
  | some y=>bif Nat.beq n (fV b.xs) then BF kk l { xs:=b.xs++[y],bad:=tk.bad++b.bad,tags:=iy (tk.gq) b.tags,ws:=b.ws++tk.ws,keep:=tk.keep || b.keep,all:=tk.tags++b.all } k else .fail
  | none=>.fail
def PV (e:TypeId) (kk:K) (a:AV) (k:qX kk→Prog α):Prog α:=match a with
 | .val .str s _=>match bR (.int .u8) kk (0:Int) with
  | some _=>match bR (.sl e (.int .u8)) (.sl e kk) (show List Int from s) with
   | some xs=>k ⟨xs,[],[],[],false,[]⟩
   | none=>.fail
  | none=>.fail
 | .iC=>k ⟨[],[],[],[],false,[]⟩
 | .ref r g=>oD r fun R=>bif Nat.beq R.g g then
   match bR R.k (.sl e kk) R.x with
   | some xs=>bif kk.flat then k ⟨xs,[],[],[],false,[]⟩ else bif R.fixed then .fail else k ⟨xs,bif au e R.own then aR R.own kk else kk.tys,bif au e R.own && kk.tys.all (fun t=>au t R.own) then [] else R.tags,[.r r none],R.keep,R.tags⟩
   | none=>.fail
  else .fail
 | a=>qz a fun k' x tags=>match bR k' (.sl e kk) x with
   | some xs=>k ⟨xs,kk.tys,bif kk.flat then [] else tags,[],false,[]⟩
   | none=>.fail
def vX (T:iD) (d:Nat) (t:TypeId) (a b:AV) (k:List Wr→Prog α):Prog α:=
 match T.ty t with
 | some (.sl e kk)=>PV e kk b fun s=>bif au e s.bad then .fail else match a with
  | .iC=>.qB (s.xs.length * T.bytes e≤140737488355328) inferInstance (ig (aX d 0)
    (k (s.ws++[.r (aX d 0) (some (aI (.sl e kk) s.xs (e :: bD kk.tys s.bad) s.tags .anon s.keep)), .s d (.one (.ref (aX d 0) 0))])))
  | .ref r g=>oD r fun R=>bif Nat.beq R.g g && !R.fixed && au e R.own && !(R.keep && !kk.tys.all (fun t=>!au t R.own || !au t s.bad)) && s.ws.all (fun w=>!w.loc.beq (.r r)) && vk s.ws R.tags then
    match bR R.k (.sl e kk) R.x with
    | some xs=>.qB (((show List (El kk) from xs).length+s.xs.length) * T.bytes e≤140737488355328) inferInstance
      (k (s.ws++[.r r (some { R with
        k:=.sl e kk,x:=(show List (El kk) from xs)++s.xs
        own:=bD R.own s.bad
        tags:=iy (sj r s.tags) R.tags
        w:=e :: R.w,h:=mY :: e :: R.h,g:=R.g+1,keep:=R.keep || s.keep }), .s d (.one (.ref r (R.g+1)))]))
    | none=>.fail
   else .fail
  | .oQ r p h=>oD r fun R=>bif Nat.beq R.rR h && p.all Stp.nG && (!p.isEmpty || R.isVar) && !R.fixed && au e R.own && !(R.keep && !kk.tys.all (fun t=>!au t R.own || !au t s.bad)) && s.ws.all (fun w=>!w.loc.beq (.r r)) && vk s.ws R.tags then
    match aO p R.k R.x with
    | some dd=>match bR dd.1 (.sl e kk) dd.2,wK R p dd with
     | some xs,some R'=>.qB (((show List (El kk) from xs).length+s.xs.length) * T.bytes e≤140737488355328) inferInstance (ig (aX d 0)
       (k (s.ws++[.r r (some R'), .r (aX d 0) (some (aI (.sl e kk) ((show List (El kk) from xs)++s.xs)
          (bD ((e :: kk.tys).filter fun t=>au t R.own) s.bad) (iy s.tags R.tags) .anon (R.keep || s.keep))), .s d (.one (.ref (aX d 0) 0))])))
     | _,_=>.fail
    | none=>.fail
   else .fail
  | _=>.fail
 | _=>.fail
def ownRow (r g:Nat) (k:Root→(e:TypeId)→(kk:K)→List (El kk)→Prog α):Prog α:=oD r fun R=>bif Nat.beq R.g g then match R.k,R.x with
  | .sl e kk,xs=>bif kk.flat && au e R.own then k R e kk (show List (El kk) from xs) else .fail
  | _,_=>.fail
 else .fail
def K4 (k0:K) (a:AV) (lo hi mx:Option Int) (k:AV→Prog α):Prog α:=match a with
 | .ref r g=>ownRow r g fun _ e kk xs=>bif (K.sl e kk).beq k0 then
   match mx with
   | none=>.qB (0≤lo.getD 0∧lo.getD 0≤hi.getD (xs.length:Int)∧hi.getD (xs.length:Int)≤(xs.length:Int)) inferInstance (k (.part r g (lo.getD 0).toNat (hi.getD (xs.length:Int)).toNat kk.size))
   | some m=>bif hi.isSome then .qB (0≤lo.getD 0∧lo.getD 0≤hi.getD 0∧hi.getD 0≤m∧m≤(xs.length:Int)) inferInstance (k .undef) else .fail
  else .fail
 | .part r g l0 h0 sz=>ownRow r g fun _ e kk xs=>bif (K.sl e kk).beq k0 && Nat.beq kk.size sz && mx.isNone then
   .qB (0≤lo.getD 0∧lo.getD 0≤hi.getD ((h0 - l0:Nat):Int)∧(l0:Int)+hi.getD ((h0 - l0:Nat):Int)≤(xs.length:Int)) inferInstance
    (k (.part r g (l0+(lo.getD 0).toNat) (l0+(hi.getD ((h0 - l0:Nat):Int)).toNat) sz))
  else .fail
 | _=>.fail
def Ja (k0:K) (a:AV) (k:List Wr→Prog α):Prog α:=match a with
 | .part r g lo hi sz=>ownRow r g fun R e kk xs=>bif (K.sl e kk).beq k0 && Nat.beq kk.size sz then
   k [.r r (some { R with k:=.sl e kk,x:=xs.take lo++List.replicate (hi - lo) kk.zero++xs.drop hi,w:=e :: R.w })]
  else .fail
 | _=>.fail
def Jb (k0:K) (d:Nat) (a b:AV) (k:List Wr→Prog α):Prog α:=match a,b with
 | .part r g l0 h0 sz, .part r' g' l1 h1 sz'=>ownRow r g fun R e kk xs=>bif (K.sl e kk).beq k0 && Nat.beq r r' && Nat.beq g g' && Nat.beq sz sz' && Nat.beq l0 0 && Nat.beq kk.size sz then
   .qB (h0≤l1) inferInstance (k [.r r (some { R with k:=.sl e kk,x:=xs.take h0++(xs.take h1).drop l1++xs.drop (h0+(h1 - l1)),w:=e :: R.w }), .s d (.one (.part r g 0 (h0+(h1 - l1)) sz))])
  else .fail
 | _,_=>.fail
def NN (k0:K) (d:Nat) (a b:AV) (k:List Wr→Prog α):Prog α:=match a with
 | .ref r g=>ownRow r g fun R e kk xs=>bif (K.sl e kk).beq k0 then PV e kk b fun s=>
   .qB (s.xs.length≤xs.length) inferInstance (k [.r r (some { R with k:=.sl e kk,x:=s.xs++xs.drop s.xs.length,w:=e :: R.w }), .s d (.one (.val (.int .i64) (s.xs.length:Int) []))])
  else .fail
 | _=>.fail
abbrev Gg (e:TypeId) (kk:K):K:=.st (.pair kk (.pair (.sl e (.gap kk.size)) .unit))
def G6:List Stp→List Int
 | []=>[]
 | .fD _ :: p=>G6 p
 | .idx i :: p=>i :: G6 p
def rF:List Stp→List Stp→Bool
 | [],[]=>true
 | .fD n :: p, .fD m :: q=>Nat.beq n m && rF p q
 | .idx _ :: p, .idx _ :: q=>rF p q
 | _,_=>false
def TP (T:iD) (d:Nat) (t:TypeId) (a b:AV) (k:List Wr→Prog α):Prog α:=match T.ty t,a,b with
 | some (.sl e kk), .oQ r p h, .ref rb gb=>oD rb fun B=>bif Nat.beq B.g gb && !B.fixed && !Nat.beq r rb && p.all Stp.nG && !au mY (K.sl e kk).tys && (K.sl e kk).tys.all (fun t=>au t B.own) then
   match bR B.k (.sl e kk) B.x with
   | some ys=>oD r fun R=>bif Nat.beq R.rR h && !R.fixed && (K.sl e kk).tys.all (fun t=>au t R.own) && R.tags.all (fun t=>!Nat.beq t.1 rb) then
     match aO p R.k R.x with
     | some dd=>match bR dd.1 (.sl e kk) dd.2 with
      | some xs=>match dR p R.k R.x dd with
       | some z=>.qB ((show List (El kk) from ys).length=1∧((show List (El kk) from xs).length+1) * T.bytes e≤140737488355328) inferInstance (ig (aX d 0)
         (k [.r rb none, .r r (some { R with k:=z.1,x:=z.2,w:=e :: R.w,h:=(K.sl e kk).tys++R.h }), .r (aX d 0) (some (aI (Gg e kk) ((show List (El kk) from ys).getD 0 kk.zero,(([]:List Unit),())) (e :: kk.tys) [] .anon)),
          .s d (.one (.app r p (fV (e :: R.w)+fV ((K.sl e kk).tys++R.h)) (aX d 0)))]))
       | none=>.fail
      | none=>.fail
     | none=>.fail
    else .fail
   | none=>.fail
  else .fail
 | _,_,_=>.fail
def yS (k0:K) (a:AV) (r:Nat) (p:List Stp) (n q:Nat) (k:List Wr→Prog α):Prog α:=match k0,a with
 | .sl e kk, .ptr r' p' h=>bif Nat.beq r r' && rF p p' && p.all Stp.nG && !Nat.beq r q then oD q fun Q=>bif Nat.beq Q.rR 0 && (e :: kk.tys).all (fun t=>au t Q.own) then
    match bR Q.k (Gg e kk) Q.x with
    | some y=>oD r fun R=>bif Nat.beq R.rR n && !R.fixed && clean R.h h (dS p' R.k) && (K.sl e kk).tys.all (fun t=>au t R.own) && R.tags.all (fun t=>!Nat.beq t.1 q) then
      match aO p R.k R.x with
      | some dd=>match bR dd.1 (.sl e kk) dd.2 with
       | some xs=>match dR p R.k R.x ⟨.sl e kk,(show List (El kk) from xs)++[(show El kk from y.1)]⟩ with
        | some z=>k [.r q none, .r r (some { R with k:=z.1,x:=z.2,w:=eB R p :: e :: R.w,h:=(K.sl e kk).tys++R.h })]
        | none=>.fail
       | none=>.fail
      | none=>.fail
     else .fail
    | none=>.fail
   else .fail
  else .fail
 | _,_=>.fail
def yX (k0:K) (a:AV) (r:Nat) (p:List Stp) (n m:Nat) (k:List Wr→Prog α):Prog α:=match k0,a with
 | .sl e kk, .ptr r' p' h=>bif Nat.beq r r' && rF p p' then .qB (G6 p=G6 p') inferInstance (oD r fun R=>bif Nat.beq R.rR n && !R.fixed && clean R.h h (dS p' R.k) && (K.sl e kk).tys.all (fun t=>au t R.own) then
      match aO p R.k R.x with
      | some dd=>match bR dd.1 (.sl e kk) dd.2 with
       | some xs=>match dR p R.k R.x ⟨.sl e kk,(show List (El kk) from xs).take m⟩ with
        | some z=>k [.r r (some { R with k:=z.1,x:=z.2,w:=eB R p :: (K.sl e kk).tys++R.w,h:=(K.sl e kk).tys++R.h })]
        | none=>.fail
       | none=>.fail
      | none=>.fail
     else .fail)
  else .fail
 | _,_=>.fail
end
end
section
open Go
def Cont.fst:(ks ls:List K)→Cont (ks++ls)→Cont ks
 | [],_,_=>()
 | _ :: ks,ls,c=>(c.1,Cont.fst ks ls c.2)
def Cont.snd:(ks ls:List K)→Cont (ks++ls)→Cont ls
 | [],_,c=>c
 | _ :: ks,ls,c=>Cont.snd ks ls c.2
abbrev SENT:Nat:=4294967295
structure cB where
 ids:List Tag
 wb:Option (Nat×List Stp×List TypeId×List TypeId)
 ws:List Wr
 bt:List TypeId:=[]
def idxOf:(p:List (Option Nat))→List Stp→Option (Cont (fA.into 0 p).kin)
 | [],[]=>some ()
 | some n :: p, .fD m :: q=>bif Nat.beq n m then idxOf p q else none
 | none :: p, .idx i :: q=>match idxOf p q with
  | some c=>some (i,c)
  | none=>none
 | _,_=>none
def pathOf:(p:List (Option Nat))→Cont (fA.into 0 p).kin→List Stp
 | [],_=>[]
 | some n :: p,c=>.fD n :: pathOf p c
 | none :: p,c=>.idx c.1 :: pathOf p c.2
section
variable {α:Type}
def lJ (k:K) (own ow:List TypeId):Bool:=k.tys.all fun t=>au t own == au t ow
def Kv:(ks:List K)→List (TypeId×Dat×List Tag)→(Cont ks→List Tag→Prog α)→Prog α
 | [],[],k=>k () []
 | kk :: ks,(t,d,tags) :: l,k=>kS tags (t :: d.1.tys) (match bR d.1 kk d.2 with
  | some x=>Kv ks l fun c ts=>k (x,c) (iy tags ts)
  | none=>.fail)
 | _,_,_=>.fail
def jh:(ps:List fA)→List AV→(Cont (kin ps)→List cB→Prog α)→Prog α
 | [],[],k=>k () []
 | .val kk _ :: ps,a :: l,k=>
  let go (x:El kk) (tags:List Tag):Prog α:=jh ps l fun c is=>k (x,c) (⟨tags,none,[],[]⟩ :: is)
  match a with
  | .iC=>match kk,go with
   | .sl _ _,go=>go [] []
   | _,_=>.fail
  | a=>qz a fun k' x tags=>match bR k' kk x with
   | some y=>go y (bif kk.flat then [] else tags)
   | none=>.fail
 | .ro kk :: ps,a :: l,k=>
  let go (d:Dat) (tags:List Tag):Prog α:=match bR d.1 kk d.2 with
   | some y=>jh ps l fun c is=>k (y,c) (⟨tags,none,[],[]⟩ :: is)
   | none=>.fail
  addrOf a (fun R r _ d=>go d ((r,fV R.w) :: R.tags)) (fun _ d tags=>go d tags)
 | .rw kk ow wt ht :: ps,a :: l,k=>match a with
  | .ptr r p h=>oD r fun R=>bif clean R.h h (dS p R.k) && AO p R then
    match aO p R.k R.x with
    | some d=>match bR d.1 kk d.2 with
     | some y=>bif lJ kk R.own ow then jh ps l fun c is=>k (y,c) (⟨R.tags,some (r,p,wt,ht),[],[eB R p]⟩ :: is) else .fail
     | none=>.fail
    | none=>.fail
   else .fail
  | _=>.fail
 | .jF kk ow wt :: ps,a :: l,k=>
  let go (R:Root) (r:Nat) (p:List Stp) (d:Dat):Prog α:=match bR d.1 kk d.2 with
   | some y=>bif lJ kk R.own ow then jh ps l fun c is=>k (y,c) (⟨R.tags,some (r,p,wt,kk.tys),[],[]⟩ :: is) else .fail
   | none=>.fail
  match a with
  | .oQ r p h=>oD r fun R=>bif Nat.beq R.rR h then
    match aO p R.k R.x with
    | some d=>go R r p d
    | none=>.fail
   else .fail
  | .ref r g=>oD r fun R=>bif Nat.beq R.g g then go R r [] ⟨R.k,R.x⟩ else .fail
  | _=>.fail
 | .own kk ow :: ps,a :: l,k=>sF kk a fun tk=>match bR tk.k kk tk.x with
  | some y=>bif lJ kk tk.own ow then jh ps l fun c is=>k (y,c) (⟨tk.tags,none,tk.ws,[]⟩ :: is) else .fail
  | none=>.fail
 | .fn f ks :: ps,a :: l,k=>match a with
  | .fn f' caps=>bif Nat.beq f f' then Kv ks caps fun c tags=>jh ps l fun c' is=>k (Cont.app ks (kin ps) c c') (⟨tags,none,[],[]⟩ :: is) else .fail
  | _=>.fail
 | .into _ [] :: ps,a :: l,k=>match a with
  | .iC=>jh ps l fun c is=>k c (⟨[],none,[],[]⟩ :: is)
  | _=>.fail
 | _,_,_=>.fail
def cB.touched (i:cB):List Nat:=(match i.wb with | some (r,_)=>[r] | none=>[])++i.ws.flatMap Wr.pQ
def yt:List cB→Bool
 | []=>true
 | i :: l=>match i.wb with
  | some _=>l.all fun j=>j.wb.isNone
  | none=>yt l
def uY (r:Nat):List cB→Nat→Option Nat
 | [],_=>none
 | i :: is,n=>match i.wb with
  | some (r',_)=>bif Nat.beq r r' then some n else uY r is (n+1)
  | none=>uY r is (n+1)
def sI (is:List cB):List fA→List cB→Bool
 | .val k gL :: ps,i :: l=>(gL.all fun j=>match is[j]? with | some q=>q.wb.isSome | none=>false) && i.ids.all (fun t=>match uY t.1 is 0 with
   | some n=>au n gL && (match is[n]? with
     | some j=>j.bt.all fun b=>!au b k.tys
     | none=>false)
   | none=>!au t.1 (is.flatMap fun j=>j.ws.flatMap Wr.pQ)) && sI is ps l
 | _ :: ps,i :: l=>i.ids.all (fun t=>!au t.1 (is.flatMap cB.touched)) && sI is ps l
 | [],[]=>true
 | _,_=>false
def Be:(ps:List fA)→List cB→Cont (jD ps)→(List Wr→Prog α)→Prog α
 | [],[],_,k=>k []
 | .rw kk _ _ _ :: ps,⟨_,some (r,p,wt,ht),_,_⟩ :: is,c,k=>.root r fun
  | some R=>match dR p R.k R.x ⟨kk,c.1⟩ with
   | some z=>Be ps is c.2 fun ws=>k (.r r (some { R with k:=z.1,x:=z.2,w:=(eB R p :: wt)++R.w,h:=ht++R.h }) :: ws)
   | none=>.fail
  | none=>.fail
 | .jF kk _ _ :: ps,⟨_,some (r,p,wt,ht),_,_⟩ :: is,c,k=>.root r fun
  | some R=>match dR p R.k R.x ⟨kk,c.1⟩ with
   | some z=>Be ps is c.2 fun ws=>k (.r r (some { R with k:=z.1,x:=z.2,w:=(SENT :: (kk.tys++wt))++R.w,h:=ht++R.h }) :: ws)
   | none=>.fail
  | none=>.fail
 | .val _ _ :: ps,_ :: is,c,k | .ro _ :: ps,_ :: is,c,k | .own _ _ :: ps,_ :: is,c,k | .fn _ _ :: ps,_ :: is,c,k | .into _ _ :: ps,_ :: is,c,k=>Be ps is c k
 | _,_,_,_=>.fail
def Hz (ws:List Wr):List Nat→(List Tag→Prog α)→Prog α
 | [],k=>k []
 | r :: l,k=>bif fC r then Hz ws l fun ts=>k ((r,0) :: ts) else
  match ws.find? (fun w=>w.loc.beq (.r r)) with
  | some (.r _ (some R))=>Hz ws l fun ts=>k ((r,fV R.w) :: ts)
  | some _=>.fail
  | none=>.root r fun
   | some R=>Hz ws l fun ts=>k ((r,fV R.w) :: ts)
   | none=>.fail
def x9 (is:List cB) (exts gL:List Nat):List Nat:=
 exts.flatMap (fun j=>match is[j]? with | some i=>i.ids.map (·.1) | none=>[])++
 gL.flatMap (fun j=>match is[j]? with
  | some i=>match i.wb with
   | some q=>[q.1]
   | none=>[]
  | none=>[])
def sQ:List Nat→List Nat
 | []=>[]
 | n :: l=>bif au n l then sQ l else n :: sQ l
def rW (d:Nat) (is:List cB) (ws:List Wr):(rs:List ug)→(c:Nat)→Cont (gU rs)→(List AV→List Wr→Prog α)→Prog α
 | [],_,_,k=>k [] []
 | .val kk exts gL :: rs,c,x,k=>Hz ws (bif kk.flat then [] else sQ (x9 is exts gL)) fun tags=>
   rW d is ws rs (c+1) x.2 fun as ws'=>k (.val kk x.1 tags :: as) ws'
 | .own kk ow exts gL :: rs,c,x,k=>Hz ws (bif kk.tys.all (fun t=>au t ow) then [] else sQ (x9 is exts gL)) fun tags=>
   ig (aX d c) (rW d is ws rs (c+1) x.2 fun as ws'=>k (.ref (aX d c) 0 :: as) (.r (aX d c) (some (aI kk x.1 ow tags .anon)) :: ws'))
 | .ptr t kk ow exts :: rs,c,x,k=>Hz ws (bif kk.tys.all (fun t=>au t ow) then [] else sQ (x9 is exts [])) fun tags=>
   ig (aX d c) (rW d is ws rs (c+1) x.2 fun as ws'=>k (.ptr (aX d c) [] 0 :: as) (.r (aX d c) (some (aI kk x.1 ow tags (.var t))) :: ws'))
 | .into j p :: rs,c,x,k=>bif Nat.beq c 0 && p.isEmpty && rs.isEmpty then match is[j]? with
   | some i=>match i.wb with
    | some (r,q,_,ht)=>match ws.find? (fun w=>w.loc.beq (.r r)) with
     | some (.r _ (some R))=>bif au mY ht then .fail else k [.sW r q (fV R.w+fV R.h) (show Int from x.1).toNat] []
     | _=>.fail
    | none=>.fail
   | none=>.fail
  else .fail
def NH:List AV→sK
 | [a]=>.one a
 | l=>.CV l
def NK (n:Nat) (E:Entry) (dst:Option Nat) (DI:List AV) (k:List Wr→Prog α):Prog α:=
 jh E.ps DI fun c is=>bif yR (is.flatMap cB.touched) && yt is && sI is E.ps is then
  .opt _ (E.F n c) fun out=>Be E.ps is (Cont.snd (gU E.rs) (jD E.ps) out) fun ws=>
   match dst with
   | some d=>rW d is ws E.rs 0 (Cont.fst (gU E.rs) (jD E.ps) out) fun as ws'=>k (is.flatMap cB.ws++ws++ws'++[.s d (NH as)])
   | none=>k (is.flatMap cB.ws++ws)
 else .fail
def pX (f d:Nat):List (Nat×Option Nat×Entry)→Option Entry
 | []=>none
 | (g,none,E) :: l=>bif Nat.beq f g then some E else pX f d l
 | (g,some e,E) :: l=>bif Nat.beq f g && Nat.beq d e then some E else pX f d l
def ML (mx:Bool):IntKind→Int→List AV→(Int→Prog α)→Prog α
 | _,x,[],k=>k x
 | ik,x, .val (.int jk) y _ :: l,k=>bif uW ik jk then ML mx ik (if mx then (if y>x then y else x) else (if y<x then y else x)) l k else .fail
 | _,_,_,_=>.fail
def NM (T:iD) (d:Nat) (src dst:TypeId) (a:AV) (k:List Wr→Prog α):Prog α:=match T.ty src,T.ty dst with
 | some _,some (.int ik)=>match a with
  | .val (.int _) n _=>k [.s d (v1 (.int ik) (ik.wrap n))]
  | _=>.fail
 | some .str,some .str=>match a with
  | .val .str s _=>k [.s d (v1 .str s)]
  | _=>.fail
 | some (.sl _ (.int .u8)),some .str=>match a with
  | .iC=>k [.s d (v1 .str [])]
  | a=>qz a fun kk x _=>match kk,x with
   | .sl _ (.int .u8),xs=>k [.s d (v1 .str xs)]
   | _,_=>.fail
 | some .str,some (.sl e (.int .u8))=>match a with
  | .val .str s _=>ig (aX d 0) (k [.r (aX d 0) (some (aI (.sl e (.int .u8)) s [e] [] .anon)), .s d (.one (.ref (aX d 0) 0))])
  | _=>.fail
 | _,_=>.fail
def Lx:List AV→(List (TypeId×Dat×List Tag)→Prog α)→Prog α
 | [],k=>k []
 | a :: l,k=>addrOf a
   (fun R r p d=>bif Nat.beq (eB R p) SENT then .fail else Lx l fun cs=>k ((eB R p,d,(r,fV R.w) :: R.tags) :: cs))
   (fun bt d tags=>Lx l fun cs=>k ((bt,d,tags) :: cs))
def JX (k0:K) (a:AV) (lo hi:Option Int) (k:AV→Prog α):Prog α:=match a with
 | .val .str s _=>bif !k0.beq .str then .fail else
  let n:=(show List Int from s).length
  match lo,hi with
  | none,none=>k (.val .str s [])
  | some l,none=>.qB (0≤l∧l≤(n:Int)) inferInstance (k (.val .str ((show List Int from s).drop l.toNat) []))
  | none,some h=>.qB (0≤h∧h≤(n:Int)) inferInstance (k (.val .str ((show List Int from s).take h.toNat) []))
  | some l,some h=>.qB (0≤l∧l≤h∧h≤(n:Int)) inferInstance (k (.val .str (((show List Int from s).take h.toNat).drop l.toNat) []))
 | a=>qz a fun kk x tags=>match kk,x with
  | .sl e kk,xs=>bif !k0.beq (.sl e kk) then .fail else
   let xs:=(show List (El kk) from xs)
   match lo,hi with
   | none,none=>k (.val (.sl e kk) xs tags)
   | some l,none=>.qB (0≤l∧l≤(xs.length:Int)) inferInstance (k (.val (.sl e kk) (xs.drop l.toNat) tags))
   | none,some h=>.qB (0≤h∧h≤(xs.length:Int)) inferInstance (k (.val (.sl e kk) (xs.take h.toNat) tags))
   | some l,some h=>.qB (0≤l∧l≤h∧h≤(xs.length:Int)) inferInstance (k (.val (.sl e kk) ((xs.take h.toNat).drop l.toNat) tags))
  | _,_=>.fail
def Ak (x:Option Operand) (k:Option Int→Prog α):Prog α:=match x with
 | none=>k none
 | some y=>dJ y fun a=>asInt a fun _ i=>k (some i)
def isZero:Option Operand→Bool
 | some (.const (.int _ 0))=>true
 | _=>false
def Ku (hi:Hint) (n:Nat) (dst:Option Nat) (c:Call) (k:List Wr→Prog α):Prog α:=match c.callee with
 | .value f=>dJ f fun
  | .fn f caps=>jg c.args.toList fun l=>match pX f (dst.getD 0) hi.calls with
   | some E=>bif Nat.beq E.f f then NK n E dst (l++caps.map fun (t,dd,tags)=>.iK t dd.1 dd.2 tags) k else .fail
   | none=>.fail
  | _=>.fail
 | _=>.fail
def ru (d:Nat):List (Nat×List TypeId)→List TypeId
 | []=>[]
 | (e,l) :: m=>bif Nat.beq d e then l else ru d m
def KP (hi:Hint) (d:Nat) (k:K):List TypeId:=match ru d hi.less with
 | []=>k.tys
 | l=>bD k.tys l
def xB {A:Type}:Nat→List A→List (Nat×A)
 | _,[]=>[]
 | i,a :: l=>(i,a) :: xB (i+1) l
def Ph:K→List (Nat×AV)→Nat→Prog α→Prog α
 | .pair kk r,(n,a) :: l,i,p=>bif Nat.beq n i then sF kk a fun tk=>bif tk.k.beq kk then Ph r l (i+1) p else .fail else .fail
 | .unit,[],_,p=>p
 | _,_,_,_=>.fail
def I1 (e:TypeId) (d:Nat) (a:AV) (k:List Wr→Prog α):Prog α:=match a with
 | .ref r g=>ownRow r g fun R e' kk xs=>bif (K.sl e' kk).beq (.sl e (.int .u8)) then .qB (0<xs.length) inferInstance (k [.r r (some { R with k:=.sl e' kk,x:=xs,w:=e' :: R.w }), .s d (.one (.ref r g))]) else .fail
 | _=>.fail
def CS (T:iD) (o:Oper) (d:Nat) (k:List Wr→Prog α):Prog α:=match o.op with
 | .slice t x lo hi mx=>match T.ty t with
  | some kk=>dJ x fun a=>Ak lo fun lo=>Ak hi fun hi=>Ak mx fun mx=>K4 kk a lo hi mx fun u=>k [.s d (.one u)]
  | none=>.fail
 | .call c=>match c.callee with
  | .builtin .len=>jg c.args.toList fun
   | [.part _ _ lo hi _]=>match (c.argTypes[0]?).bind T.ty with
    | some (.sl _ _)=>k [.s d (.one (.val (.int .i64) ((hi - lo:Nat):Int) []))]
    | _=>.fail
   | _=>.fail
  | .builtin .append=>jg c.args.toList fun
   | [a,b]=>match (c.argTypes[0]?).bind T.ty,(c.argTypes[1]?).bind T.ty with
    | some (.sl e0 k0),some (.sl _ _)=>Jb (.sl e0 k0) d a b k
    | _,_=>.fail
   | _=>.fail
  | .builtin .copy=>jg c.args.toList fun
   | [a,b]=>match (c.argTypes[0]?).bind T.ty,(c.argTypes[1]?).bind T.ty with
    | some (.sl e0 k0),some (.sl _ _)=>NN (.sl e0 k0) d a b k
    | _,_=>.fail
   | _=>.fail
  | _=>.fail
 | .build t ps=>match T.ty t with
  | some (.st c)=>wI ps.toList fun l=>Ph c l 0 (k [.s d (.lit t c (l.map (·.2)))])
  | _=>.fail
 | .convert s t x=>match T.ty t with
  | some (.sl e (.int .u8))=>bif Nat.beq s t then dJ x fun a=>I1 e d a k else .fail
  | _=>.fail
 | _=>.fail
def UU (T:iD) (s:Nat) (k:List Wr→Prog α):Prog α:=.slot s fun
 | .lit t c l=>bif (match T.ty t with | some kk=>kk.beq (.st c) | none=>false) then wT (xB 0 l) ⟨.st c,(K.st c).zero,[],[],[],false,[]⟩ fun b=>
   bif !yF b.ws b.all then .fail else ig (aX s 1) (k (b.ws++[.r (aX s 1) (some (aI b.k b.x (bD b.k.tys b.bad) b.tags .anon b.keep)), .s s (.one (.ref (aX s 1) 0))]))
  else .fail
 | _=>.fail
def vO:List Stp→List Stp→Bool
 | [.fD i],[.fD j]=>!Nat.beq i j
 | _,_=>false
def freshen (r:Nat) (p:List Stp) (v v':Nat):AV→AV
 | .oQ q p' n=>bif Nat.beq r q && Nat.beq n v && vO p p' then .oQ q p' v' else .oQ q p' n
 | a=>a
def Ju (r:Nat) (p:List Stp) (v:Nat):List Wr→AV→AV
 | [.r _ (some R)]=>freshen r p v R.rR
 | _=>fun a=>a
def JY (s s2:Nat) (k:List Wr→Prog α):Prog α:=.slot s fun
 | .one (.oQ r p v)=>sF .unit (.oQ r p v) fun tk=>bif Nat.beq s s2 || tk.ws.isEmpty then .fail else ig (aX s 1) (.slot s2 fun
  | .lit t c l=>k (tk.ws++[.r (aX s 1) (some (aI tk.k tk.x tk.own tk.gq .anon tk.keep)), .s s (.one (.ref (aX s 1) 0)), .s s2 (.lit t c (l.map (Ju r p v tk.ws)))])
  | _=>.fail)
 | _=>.fail
def shares (r:Nat) (l:List AV):Bool:=l.any fun
 | .oQ q _ _=>Nat.beq r q
 | _=>false
def splits (s2:Nat):List (Nat×Operand)→Prog (List Wr)
 | []=>.ret []
 | (_, .tmp s) :: l=>.slot s fun
  | .one (.oQ r _ _)=>.slot s2 fun
   | .lit _ _ m=>bif shares r m then RF (JY s s2 .ret) (splits s2 l) else splits s2 l
   | _=>.fail
  | _=>splits s2 l
 | _ :: l=>splits s2 l
def vY:List (Nat×Operand)→(Nat→Prog α)→Prog α
 | [],_=>.fail
 | (_, .tmp s) :: l,k=>.slot s fun
  | .lit _ _ _=>k s
  | _=>vY l k
 | _ :: l,k=>vY l k
def TS (T:iD) (d:Nat) (t:TypeId) (ps:Array (Nat×Operand)):Prog (List Wr):=match T.ty t with
 | some (.st c)=>wI ps.toList fun l=>wT l ⟨.st c,(K.st c).zero,[],[],[],false,[]⟩ fun b=>bif !yF b.ws b.all then .fail else bif b.k.tys.all fun t=>au t b.bad then
   .ret (b.ws++[.s d (.one (.val b.k b.x b.tags))])
  else ig (aX d 0) (.ret (b.ws++[.r (aX d 0) (some (aI b.k b.x (bD b.k.tys b.bad) b.tags .anon b.keep)), .s d (.one (.ref (aX d 0) 0))]))
 | _=>.fail
def Eo (T:iD) (d:Nat) (t:TypeId) (ps:Array (Nat×Operand)):Prog (List Wr):=
 vY ps.toList fun s=>RF (splits s ps.toList) (RF (UU T s .ret) (TS T d t ps))
def FN (T:iD) (o:Oper) (d:Nat) (k:List Wr→Prog α):Prog α:=match o.op with
 | .build t ps=>(Eo T d t ps).bind k
 | .call c=>match c.callee with
  | .builtin .append=>jg c.args.toList fun
   | [a,b]=>match c.argTypes[0]?,(c.argTypes[1]?).bind T.ty with
    | some t,some (.sl _ _)=>TP T d t a b k
    | _,_=>.fail
   | _=>.fail
  | _=>.fail
 | .load t x=>dJ x fun a=>yf T true t a fun u=>match T.ty t with
  | some kk=>sF kk u fun tk=>ig (aX d 0) (k (tk.ws++[Wr.r (aX d 0) (some (aI tk.k tk.x tk.own tk.gq .anon tk.keep)),Wr.s d (.one (.ref (aX d 0) 0))]))
  | none=>.fail
 | _=>.fail
def J3 (T:iD) (t:TypeId) (a v:AV) (k:List Wr→Prog α):Prog α:=match v with
 | .sW r p n m=>match T.ty t with
  | some k0=>yX k0 a r p n m k
  | none=>.fail
 | .app r p n q=>match T.ty t with
  | some k0=>yS k0 a r p n q k
  | none=>.fail
 | v=>J2 T t a v k
def SE (T:iD) (hi:Hint) (n:Nat) (o:Oper) (k:List Wr→Prog α):Prog α:=match o.op with
 | .store t x v=>dJ x fun a=>dJ v fun v=>J3 T t a v k
 | .call c=>match c.callee with
  | .builtin .clear=>jg c.args.toList fun
   | [a]=>match (c.argTypes[0]?).bind T.ty with
    | some (.sl e0 k0)=>Ja (.sl e0 k0) a k
    | _=>.fail
   | _=>.fail
  | _=>Ku hi n none c k
 | _=>.fail
def SC (T:iD) (hi:Hint) (n:Nat) (o:Oper) (d:Nat) (k:List Wr→Prog α):Prog α:=
 let put (a:AV):Prog α:=k [.s d (.one a)]
 match o.op with
 | .move x=>qp x fun a=>k [.s d a]
 | .assign x=>qp x fun
  | .one .iC=>match T.ty o.type with
   | some (.sl e kk)=>.root (aX d 0) fun
    | none=>k [.r (aX d 0) (some (aI (.sl e kk) [] (e :: KP hi d kk) [] .anon)), .s d (.one (.ref (aX d 0) 0))]
    | some _=>k [.s d (.one .iC)]
   | _=>.fail
  | a=>k [.s d a]
 | .pick c a b=>dJ c fun c=>asBool c fun c=>qp a fun a=>qp b fun b=>.br c (k [.s d a]) (k [.s d b])
 | .alloc t=>match T.ty t with
  | some kk=>ig (aX d 0) (k [.r (aX d 0) (some (aI kk kk.zero kk.tys [] (.var t))), .s d (.one (.ptr (aX d 0) [] 0))])
  | none=>.fail
 | .box t x=>match T.ty t with
  | some kk=>dJ x fun a=>QI a kk (fun r g=>put (.Bu r g kk [])) <| sF kk a fun tk=>bif tk.k.beq kk && !au t tk.bad then
    ig (aX d 0) (k (tk.ws++[.r (aX d 0) (some (aI tk.k tk.x tk.own tk.gq (.var t) tk.keep)), .s d (.one (.ptr (aX d 0) [] 0))]))
   else .fail
  | none=>.fail
 | .load t x=>dJ x fun a=>yf T (au d hi.abw) t a put
 | .nilCheck x=>dJ x fun
  | .ptr r p h=>put (.ptr r p h)
  | .iK bt kk y tags=>put (.iK bt kk y tags)
  | _=>.fail
 | .binOp op t x y _=>IX T t op x y fun v=>k [.s d v]
 | .unOp op _ x=>dJ x fun a=>unP op a fun v=>k [.s d v]
 | .convert s t x=>dJ x fun a=>NM T d s t a k
 | .field t x f=>match T.ty t with
  | some kk=>dJ x fun a=>BJ kk a f put
  | none=>.fail
 | .fieldAddr t x f=>match T.ty t with
  | some kk=>dJ x fun a=>rq kk a f put
  | none=>.fail
 | .indexAddr t x i=>match T.ty t with
  | some kk=>dJ x fun a=>dJ i fun i=>asInt i fun _ i=>ry kk a i put
  | none=>.fail
 | .index t x i=>dJ x fun a=>dJ i fun i=>asInt i fun _ i=>match T.ty t,a with
  | some .str, .val .str s _=>.qB (aM i (show List Int from s).length) inferInstance (put (.val (.int .u8) ((show List Int from s).getD i.toNat 0) []))
  | _,_=>.fail
 | .extract x i=>qp x fun
  | .CV l=>match l[i]? with
   | some a=>put a
   | none=>.fail
  | _=>.fail
 | .build t ps=>match T.ty t with
  | some (.st c)=>wI ps.toList fun l=>wT l ⟨.st c,(K.st c).zero,[],[],[],false,[]⟩ fun b=>bif !yF b.ws b.all then .fail else bif b.k.tys.all fun t=>au t b.bad then
    k (b.ws++[.s d (.one (.val b.k b.x b.tags))])
   else ig (aX d 0) (k (b.ws++[.r (aX d 0) (some (aI b.k b.x (bD b.k.tys b.bad) b.tags .anon b.keep)), .s d (.one (.ref (aX d 0) 0))]))
  | _=>.fail
 | .buildSlice t len ps=>match T.ty t with
  | some (.sl e kk)=>wI ps.toList fun l=>BF kk l ⟨[],[],[],[],false,[]⟩ fun b=>bif !(yF b.ws b.all && Nat.ble (len * kk.size) 16777216) then .fail else bif Nat.beq (fV b.xs) len && !au e b.bad then
    ig (aX d 0) (k (b.ws++[.r (aX d 0) (some (aI (.sl e kk) b.xs (e :: bD (KP hi d kk) b.bad) b.tags .anon b.keep)), .s d (.one (.ref (aX d 0) 0))]))
   else bif Nat.beq (fV b.xs) 0 then
    ig (aX d 0) (k [.r (aX d 0) (some (aI (.sl e kk) (List.replicate len kk.zero) (e :: kk.tys) [] .anon)), .s d (.one (.ref (aX d 0) 0))])
   else .fail
  | _=>.fail
 | .makeSlice t x y=>match T.ty t with
  | some (.sl e kk)=>dJ x fun a=>dJ y fun b=>asInt a fun ik i=>asInt b fun jk j=>bif uW ik .i64 && uW jk .i64 then
    .qB (i=j∧0≤i∧i * T.bytes e≤140737488355328) inferInstance (ig (aX d 0)
     (k [.r (aX d 0) (some (aI (.sl e kk) (List.replicate i.toNat kk.zero) (e :: kk.tys) [] .anon)), .s d (.one (.ref (aX d 0) 0))]))
   else .fail
  | _=>.fail
 | .makeFunc (.func f) first caps=>bif first.isEmpty then jg caps.toList fun l=>Lx l fun cs=>put (.fn f cs) else .fail
 | .slice t x lo hi mx=>match T.ty t with
  | some kk=>bif isZero lo && isZero hi && isZero mx then match kk with
    | .sl _ _=>dJ x fun
     | .iC=>put .iC
     | a=>qz a fun k' _ _=>bif k'.beq kk then put .iC else .fail
    | _=>.fail
   else match mx with
    | none=>dJ x fun a=>Ak lo fun lo=>Ak hi fun hi=>JX kk a lo hi put
    | some _=>.fail
  | none=>.fail
 | .call c=>match c.callee with
  | .builtin .len=>jg c.args.toList fun
   | [.iC]=>match (c.argTypes[0]?).bind T.ty with
    | some (.sl _ _)=>put (.val (.int .i64) 0 [])
    | _=>.fail
   | [.val .str s _]=>match (c.argTypes[0]?).bind T.ty with
    | some .str=>put (.val (.int .i64) ((show List Int from s).length:Int) [])
    | _=>.fail
   | [a]=>match (c.argTypes[0]?).bind T.ty with
    | some (.sl _ _)=>qz a fun kk x _=>match kk,x with
     | .sl _ kk,xs=>put (.val (.int .i64) ((show List (El kk) from xs).length:Int) [])
     | _,_=>.fail
    | _=>.fail
   | _=>.fail
  | .builtin .append=>jg c.args.toList fun
   | [a,b]=>match c.argTypes[0]?,(c.argTypes[1]?).bind T.ty with
    | some t,some (.sl _ _)=>vX T d t a b k
    | some t,some .str=>vX T d t a b k
    | _,_=>.fail
   | _=>.fail
  | .builtin .min=>jg c.args.toList fun
   | .val (.int ik) x _ :: l=>ML false ik x l fun z=>put (.val (.int ik) z [])
   | _=>.fail
  | .builtin .max=>jg c.args.toList fun
   | .val (.int ik) x _ :: l=>ML true ik x l fun z=>put (.val (.int ik) z [])
   | _=>.fail
  | .value _=>Ku hi n (some d) c k
  | _=>.fail
 | _=>.fail
def Ab (T:iD) (hi:Hint) (n:Nat) (o:Oper) (k:List Wr→Prog α):Prog α:=match o.dst with
 | some d=>bif Nat.blt d hi.nt then (bif au d hi.parts then CS T o d k else bif au d hi.apps then FN T o d k else SC T hi n o d k) else .fail
 | none=>SE T hi n o k
end
variable {R:Type}
def refine (σ:St) (s:Nat) (b:Bool) (T:List Tag):St:={ σ with slots:=upd σ.slots s (.one (.val .bool b T)) }
def guardOf (ops:Array Oper) (o:Oper):Option (Option Nat×Bool):=match o.guard with
 | none=>none
 | some (g,want)=>some ((ops[g]?).bind (·.dst),want)
def guarded (σ:St) (ops:Array Oper) (o:Oper) (go:List Loc→St→Option R) (skip:List Loc→St→Option R):Option R:=match guardOf ops o with
 | none=>go [] σ
 | some (some s,want)=>match σ.slots s with
  | .one (.val .bool b T)=>if b=true then (bif want then go [.s s] (refine σ s true T) else skip [.s s] (refine σ s true T))
    else (bif want then skip [.s s] (refine σ s false T) else go [.s s] (refine σ s false T))
  | .CV []=>skip [.s s] σ
  | _=>none
 | some (none,_)=>none
def BB (hi:Hint) (o:Oper):Bool:=match o.dst with
 | some d=>Nat.blt d hi.nt
 | none=>true
def Aa (o:Oper):List Wr:=match o.dst with
 | some d=>[.s d (.CV [])]
 | none=>[]
def xU (T:iD) (hi:Hint) (n:Nat) (ops:Array Oper):List Oper→St→(St→Option R)→Option R
 | [],σ,K=>K σ
 | o :: l,σ,K=>guarded σ ops o
   (fun _ σ=>(Ab T hi n o .ret).run σ fun ws=>xU T hi n ops l (az ws σ) K)
   (fun _ σ=>bif BB hi o then xU T hi n ops l (az (Aa o) σ) K else none)
structure Eff where
 i:Nat
 rd:List Loc
 wr:List Loc
def MJ (x:Loc):List Loc→Bool
 | []=>false
 | y :: l=>bif x.beq y then true else MJ x l
def EI (a b:List Loc):Bool:=a.all fun x=>!MJ x b
def binders (ops:Array Oper) (i:Nat):List Nat:=((((ops[i]?).getD default).after.toList.filter (Region.binds .any)).map (·.on))
def leads (ops:Array Oper):Nat→Nat→Nat→Bool
 | 0,_,_=>false
 | f+1,j,i=>au j (binders ops i) || (binders ops i).any fun b=>Nat.blt j b && leads ops f j b
def zK (ops:Array Oper) (e:Eff) (l:List Eff):Bool:=
 (binders ops e.i).all (fun b=>Nat.blt b e.i) && l.all fun b=>au b.i (binders ops e.i) || ((EI b.wr (e.rd++e.wr) && EI b.rd e.wr) || leads ops 6 b.i e.i)
def BI (T:iD) (hi:Hint) (n:Nat) (ops:Array Oper):List Oper→Nat→List Eff→St→(St→Option R)→Option R
 | [],_,_,σ,K=>K σ
 | o :: l,i,es,σ,K=>guarded σ ops o
   (fun g σ=>(Ab T hi n o .ret).Ap σ g fun ws rd=>
    bif zK ops ⟨i,rd,ws.map Wr.loc⟩ es then BI T hi n ops l (i+1) (⟨i,rd,ws.map Wr.loc⟩ :: es) (az ws σ) K else none)
   (fun g σ=>bif BB hi o && zK ops ⟨i,g,(Aa o).map Wr.loc⟩ es then BI T hi n ops l (i+1) (⟨i,g,(Aa o).map Wr.loc⟩ :: es) (az (Aa o) σ) K else none)
inductive FQ where
 | undef
 | val (k:K) (ids:List Nat)
 | iC
 | ref (r:Nat)
 | ptr (r:Nat) (p:List (Option Nat))
 | iK (bt:TypeId) (k:K) (ids:List Nat)
 | oz
 | fn (f:Nat) (caps:List (TypeId×K×List Nat))
def I4:List (TypeId×K×List Nat)→List K
 | []=>[]
 | c :: l=>c.2.1 :: I4 l
def FQ.ks:FQ→List K
 | .val k _ | .iK _ k _=>[k]
 | .ptr _ p=>(fA.into 0 p).kin
 | .fn _ caps=>I4 caps
 | _=>[]
structure F8 where
 k:K
 own:List TypeId
 ids:List Nat
 kind:zD
 fixed:Bool
 keep:Bool
 log:Option (K×List TypeId×List TypeId)
def bg (σ:St) (tys:List TypeId):List Tag→Bool
 | []=>true
 | (r,n) :: l=>(bif fC r then true else match σ.roots r with
  | some R=>!R.aZ && clean R.w n tys
  | none=>false) && bg σ tys l
def lH (rs:List Nat):List Tag→List Nat
 | []=>[]
 | (r,_) :: l=>bif (fC r || au r rs) && !au r (lH rs l) then r :: lH rs l else lH rs l
def shP:List Stp→List (Option Nat)
 | []=>[]
 | .fD n :: p=>some n :: shP p
 | .idx _ :: p=>none :: shP p
def CQ (rs:List Nat):List (TypeId×Dat×List Tag)→List (TypeId×K×List Nat)
 | []=>[]
 | (t,d,tags) :: l=>(t,d.1,lH rs tags) :: CQ rs l
def NZ (rs ex:List Nat):List Nat:=ex.filter fun i=>fC i || au i rs
def shA (rs ex:List Nat):AV→FQ
 | .undef=>.undef
 | .val k _ tags=>.val k (lH rs tags++NZ rs ex)
 | .iC=>.iC
 | .ref r _=>.ref r
 | .oQ _ _ _=>.undef
 | .ptr r p _=>.ptr r (shP p)
 | .iK bt k _ tags=>.iK bt k (lH rs tags)
 | .oz=>.oz
 | .Bu _ _ _ _=>.undef
 | .u6 _=>.undef
 | .part _ _ _ _ _=>.undef
 | .sW _ _ _ _=>.undef
 | .app _ _ _ _=>.undef
 | .fn f caps=>.fn f (CQ rs caps)
def DT (t:TypeId) (ids:List Nat):Bool:=!Nat.beq t SENT || ids.all fC
def uF (σ:St) (rs:List Nat):(cs:List (TypeId×K×List Nat))→List (TypeId×Dat×List Tag)→Option (Cont (I4 cs))
 | [],[]=>some ()
 | (t,k,ids) :: cs,(t',d,tags) :: l=>bif Nat.beq t t' && bg σ (t :: k.tys) tags && kD (lH rs tags) ids && DT t ids then
   match bR d.1 k d.2,uF σ rs cs l with
   | some x,some c=>some (x,c)
   | _,_=>none
  else none
 | _,_=>none
def LF (σ:St) (rs:List Nat):(sh:FQ)→AV→Option (Cont sh.ks)
 | .undef,_=>some ()
 | .val k ids, .val k' x tags=>bif bg σ k.tys tags && kD (lH rs tags) ids then
   match bR k' k x with
   | some y=>some (y,())
   | none=>none
  else none
 | .iC, .iC=>some ()
 | .ref r, .ref r' g=>bif Nat.beq r r' && au r rs && (match σ.roots r with | some R=>Nat.beq R.g g | none=>false) then some () else none
 | .ptr r p, .ptr r' q h=>bif Nat.beq r r' && au r rs && (match σ.roots r with | some R=>clean R.h h (dS q R.k) | none=>false) then idxOf p q else none
 | .iK bt k ids, .iK bt' k' x tags=>bif Nat.beq bt bt' && bg σ (bt :: k.tys) tags && kD (lH rs tags) ids && DT bt ids then
   match bR k' k x with
   | some y=>some (y,())
   | none=>none
  else none
 | .oz, .oz=>some ()
 | .fn f cs, .fn f' caps=>bif Nat.beq f f' then uF σ rs cs caps else none
 | _,_=>none
def Cq:(cs:List (TypeId×K×List Nat))→Cont (I4 cs)→List (TypeId×Dat×List Tag)
 | [],_=>[]
 | (t,k,ids) :: cs,c=>(t,⟨k,c.1⟩,ids.map fun r=>(r,0)) :: Cq cs c.2
def Yc:(sh:FQ)→Cont sh.ks→AV
 | .undef,_=>.undef
 | .val k ids,c=>.val k c.1 (ids.map fun r=>(r,0))
 | .iC,_=>.iC
 | .ref r,_=>.ref r 0
 | .ptr r p,c=>.ptr r (pathOf p c) 0
 | .iK bt k ids,c=>.iK bt k c.1 (ids.map fun r=>(r,0))
 | .oz,_=>.oz
 | .fn f cs,c=>.fn f (Cq cs c)
def YB (wd:List (Nat×List Nat)) (rs:List Nat) (σ:St):List Nat→List (Nat×FQ)
 | []=>[]
 | s :: l=>(match σ.slots s with
  | .one a=>(s,shA rs (ru (2 * s) wd) a)
  | _=>(s, .undef)) :: YB wd rs σ l
def Mv:List (Nat×FQ)→List K
 | []=>[]
 | (_,sh) :: l=>sh.ks++Mv l
def iI (r:Nat):List (Nat×K×List TypeId×List TypeId)→Option (K×List TypeId×List TypeId)
 | []=>none
 | (q,l) :: ls=>bif Nat.beq r q then some l else iI r ls
def YA (wd:List (Nat×List Nat)) (iJ:List (Nat×K×List TypeId×List TypeId)) (rs:List Nat) (σ:St):List Nat→Option (List (Nat×F8))
 | []=>some []
 | r :: l=>match σ.roots r,YA wd iJ rs σ l with
  | some R,some q=>some ((r,⟨R.k,R.own,lH rs R.tags++(NZ rs (ru (2 * r+1) wd)).filter (fun q=>!Nat.beq q r),R.kind,R.fixed,R.keep,iI r iJ⟩) :: q)
  | _,_=>none
def Qg:List (Nat×F8)→List K
 | []=>[]
 | (_,sh) :: l=>sh.k :: Qg l
def WY (σ:St) (rs:List Nat):(l:List (Nat×FQ))→Option (Cont (Mv l))
 | []=>some ()
 | (s,sh) :: l=>match σ.slots s with
  | .one a=>match LF σ rs sh a,WY σ rs l with
   | some c,some d=>some (Cont.app sh.ks (Mv l) c d)
   | _,_=>none
  | _=>match sh with
   | .undef=>match WY σ rs l with
    | some d=>some d
    | none=>none
   | _=>none
def PL:zD→zD→Bool
 | .anon, .anon | .par, .par | .dead, .dead=>true
 | .var a, .var b=>Nat.beq a b
 | _,_=>false
def wM (R:Root):Option (List TypeId×List TypeId)→Bool
 | some (wt,ht)=>kD R.w wt && kD R.ew wt && kD R.h ht && kD R.eh ht && Nat.beq R.g 0
 | none=>true
def UR (R:Root):Option (K×List TypeId×List TypeId)→Bool
 | some (k,l)=>R.k.beq k && wM R (some l)
 | none=>true
def rE (R:Root) (l:List TypeId):Root:={ R with own:=bD R.own l,w:=l++R.w }
def Pm (l:List TypeId) (r:Nat) (σ:St):St:=match l with
 | []=>σ
 | l=>match σ.roots r with
  | some R=>bif R.aZ || !bg σ R.wF R.tags || !R.own.any (fun t=>au t l) then σ else { σ with roots:=upd σ.roots r (some (rE R l)) }
  | none=>σ
def xh (hi:Hint):List Nat→St→St
 | [],σ=>σ
 | r :: rs,σ=>xh hi rs (Pm (ru (1000000+r) hi.less) r σ)
def YK (σ:St) (rs:List Nat):(l:List (Nat×F8))→Option (Cont (Qg l))
 | []=>some ()
 | (r,sh) :: l=>match σ.roots r with
  | some R=>bif bg σ R.wF R.tags && kD (lH rs R.tags) sh.ids && lJ sh.k R.own sh.own && PL R.kind sh.kind && (R.fixed == sh.fixed) && (R.keep == sh.keep) && !R.aZ && UR R sh.log then
    match bR R.k sh.k R.x,YK σ rs l with
    | some x,some d=>some (x,d)
    | _,_=>none
   else none
  | none=>none
def mkS:(l:List (Nat×FQ))→Cont (Mv l)→Nat→sK
 | [],_,_=>.one .undef
 | (s,sh) :: l,c,n=>bif Nat.beq n s then .one (Yc sh (Cont.fst sh.ks (Mv l) c)) else mkS l (Cont.snd sh.ks (Mv l) c) n
def Yb:Option (K×List TypeId×List TypeId)→List TypeId
 | some (_,l,_)=>l
 | none=>[]
def Ya:Option (K×List TypeId×List TypeId)→List TypeId
 | some (_,_,l)=>l
 | none=>[]
def Su:(l:List (Nat×F8))→Cont (Qg l)→Nat→Option Root
 | [],_,_=>none
 | (r,sh) :: l,c,n=>bif Nat.beq n r then some { k:=sh.k,x:=c.1,own:=sh.own,tags:=sh.ids.map fun r=>(r,0),w:=[],h:=[],g:=0,kind:=sh.kind,fixed:=sh.fixed,keep:=sh.keep,ew:=Yb sh.log,eh:=Ya sh.log } else Su l c.2 n
structure RS where
 ss:List (Nat×FQ)
 rs:List (Nat×F8)
abbrev RS.V (s:RS):Type:=Cont (Mv s.ss++Qg s.rs)
def U5 (wd:List (Nat×List Nat)) (iJ:List (Nat×K×List TypeId×List TypeId)) (ss rs:List Nat) (σ:St):Option RS:=match YA wd iJ rs σ rs with
 | some q=>bif iJ.all (fun p=>au p.1 rs) then some ⟨YB wd rs σ ss,q⟩ else none
 | none=>none
def LG (rs:List Nat) (s:RS) (σ:St):Option s.V:=match WY σ rs s.ss,YK σ rs s.rs with
 | some a,some b=>some (Cont.app (Mv s.ss) (Qg s.rs) a b)
 | _,_=>none
def Fw (s:RS) (c:s.V):St:=⟨mkS s.ss (Cont.fst _ _ c),Su s.rs (Cont.snd _ _ c)⟩
inductive Ex where
 | normal
 | exit (id:Nat)
 | ret
def rounds {V:Type} (B:(V→Option R)→V→Option R):Nat→V→Option R
 | 0=>fun _=>none
 | n+1=>B (rounds B n)
def GK (b:Nat):List (Nat×List Nat×List Nat)→Option (List Nat×List Nat)
 | []=>none
 | (c,h) :: l=>bif Nat.beq b c then some h else GK b l
def zW {A:Type} (f:A→A→Bool):List A→List A→Bool
 | [],[]=>true
 | a :: l,b :: m=>f a b && zW f l m
 | _,_=>false
def xS:(k:K)→El k→El k→Bool
 | .int _,x,y=>decide ((show Int from x)=y)
 | .bool,x,y=>(show Bool from x) == y
 | .str,x,y=>decide ((show List Int from x)=y)
 | .sl _ k,xs,ys=>zW (xS k) xs ys
 | .unit,_,_=>true
 | .pair a b,x,y=>xS a x.1 y.1 && xS b x.2 y.2
 | .st f,x,y=>xS f x y
 | .gap _,_,_=>true
 | .id _,x,y=>Nat.beq x y
def uE:(ks:List K)→Cont ks→Cont ks→Bool
 | [],_,_=>true
 | k :: ks,c,d=>xS k c.1 d.1 && uE ks c.2 d.2
def RV (ks:List K):Option (Cont ks)→Option (Cont ks)→Option (Cont ks)
 | some a,some b=>bif uE ks a b then some a else none
 | _,_=>none
theorem Hq {A:Type} {f:A→A→Bool} (hf:∀x y,f x y=true→x=y):∀{l m:List A},zW f l m=true→l=m
 | [],[],_=>rfl
 | a :: l,b :: m,h=>by
  simp only [zW,afW] at h
  rw [hf a b h.1,Hq hf h.2]
 | [],_ :: _,h=>by simp [zW] at h
 | _ :: _,[],h=>by simp [zW] at h
theorem Cn {A:Type} {f:A→A→Bool} (hf:∀x,f x x=true):∀{l:List A},zW f l l=true
 | []=>rfl
 | a :: l=>by simp [zW,hf a,Cn hf]
theorem NW:∀{k:K} {x y:El k},xS k x y=true→x=y:=by
 intro k
 induction k with
 | int ik=>intro x y h; exact of_decide_eq_true h
 | bool=>intro x y h; exact eq_of_beq h
 | str=>intro x y h; exact of_decide_eq_true h
 | sl e k ih=>intro x y h; exact Hq (fun x y h=>ih h) h
 | unit=>intro x y _; rfl
 | pair a b iha ihb=>
  intro x y h
  simp only [xS,afW] at h
  exact Prod.ext (iha h.1) (ihb h.2)
 | st f ih=>intro x y h; exact ih (x:=x) (y:=y) h
 | gap n=>intro x y _; rfl
 | id e=>intro x y h; exact afU h
theorem Jk:∀{k:K} {x:El k},xS k x x=true:=by
 intro k
 induction k with
 | int ik=>intro x; exact decide_eq_true rfl
 | bool=>intro x; exact beq_self_eq_true (α:=Bool) x
 | str=>intro x; exact decide_eq_true rfl
 | sl e k ih=>intro x; exact Cn fun x=>ih
 | unit=>intro x; rfl
 | pair a b iha ihb=>intro x; simp [xS,iha,ihb]
 | st f ih=>intro x; exact ih (x:=x)
 | gap n=>intro x; rfl
 | id e=>intro x; exact Nat.beq_refl x
theorem Bt:∀{ks:List K} {c d:Cont ks},uE ks c d=true→c=d
 | [],_,_,_=>rfl
 | k :: ks,c,d,h=>by
  simp only [uE,afW] at h
  exact Prod.ext (NW h.1) (Bt h.2)
theorem xR:∀{ks:List K} {c:Cont ks},uE ks c c=true
 | [],_=>rfl
 | k :: ks,c=>by simp [uE,Jk,xR]
theorem ND {ks:List K} (a:Option (Cont ks)):RV ks a a=a:=by
 cases a with
 | none=>rfl
 | some a=>simp [RV,xR]
theorem NF {ks:List K} {a b:Option (Cont ks)} {z:Cont ks} (h:RV ks a b=some z):a=some z∧b=some z:=by
 cases a with
 | none=>simp [RV] at h
 | some a=>
  cases b with
  | none=>simp [RV] at h
  | some b=>
   simp only [RV] at h
   cases hb:uE ks a b with
   | false=>rw [hb] at h; simp at h
   | true=>
    rw [hb] at h
    simp only [cond_true,afQ] at h
    have:=Bt hb
    subst h
    exact ⟨rfl,by rw [this]⟩
def den (T:iD) (hi:Hint) (n:Nat) (ag:Option R→Option R→Option R):Nat→Code→St→(Ex→St→Option R)→Option R
 | _, .skip,σ,K=>K .normal σ
 | _, .region _ ops draw,σ,K=>bif draw then BI T hi n ops ops.toList 0 [] σ (K .normal) else xU T hi n ops ops.toList σ (K .normal)
 | b, .seq x y,σ,K=>den T hi n ag b x σ fun
  | .normal,σ'=>den T hi n ag b y σ' K
  | e,σ'=>K e σ'
 | b, .cond c x y,σ,K=>(dJ c fun a=>.ret a).run σ fun
  | .u6 e=>if e=true then ag (den T hi n ag b x σ K) (den T hi n ag b y σ K) else den T hi n ag b y σ K
  | a=>(asBool a .ret).run σ fun t=>if t=true then den T hi n ag b x σ K else den T hi n ag b y σ K
 | _, .block id x,σ,K=>den T hi n ag id x σ fun
  | .exit i,σ'=>bif Nat.beq i id then K .normal σ' else K (.exit i) σ'
  | e,σ'=>K e σ'
 | b, .loop x,σ,K=>match GK b hi.loops with
  | some (ss,rs)=>match U5 hi.wide hi.iJ ss rs (xh hi rs σ) with
   | some s=>match LG rs s (xh hi rs σ) with
    | some c=>rounds (fun L v=>den T hi n ag b x (Fw s v) fun
     | .normal,σ'=>match LG rs s (xh hi rs σ') with
      | some v'=>L v'
      | none=>none
     | e,σ'=>K e σ') n c
    | none=>none
   | none=>none
  | none=>none
 | _, .exit id,σ,K=>K (.exit id) σ
 | _, .ret,σ,K=>K .ret σ
 | _,_,_,_=>none
def jc:(ps:List fA)→(i:Nat)→Cont (kin ps)→List (Nat×AV)
 | [],_,_=>[]
 | .val k gL :: ps,i,c=>(i, .val k c.1 (bif k.flat then [] else (mM i,0) :: gL.map fun j=>(ak j,0))) :: jc ps (i+1) c.2
 | .ro k :: ps,i,c=>(i, .iK SENT k c.1 [(mM i,0)]) :: jc ps (i+1) c.2
 | .rw _ _ _ _ :: ps,i,c=>(i, .ptr (ak i) [] 0) :: jc ps (i+1) c.2
 | .jF _ _ _ :: ps,i,c=>(i, .ref (ak i) 0) :: jc ps (i+1) c.2
 | .own _ _ :: ps,i,c=>(i, .ref (ak i) 0) :: jc ps (i+1) c.2
 | .fn f ks :: ps,i,c=>(i, .fn f (uA i ks (Cont.fst ks (kin ps) c))) :: jc ps (i+1) (Cont.snd ks (kin ps) c)
 | .into _ p :: ps,i,c=>(i, .iC) :: jc ps (i+1) (Cont.snd (fA.into 0 p).kin (kin ps) c)
where uA (i:Nat):(ks:List K)→Cont ks→List (TypeId×Dat×List Tag)
 | [],_=>[]
 | k :: ks,c=>(SENT,⟨k,c.1⟩,[(mM i,0)]) :: uA i ks c.2
def fU:(ps:List fA)→(i:Nat)→Cont (kin ps)→List (Nat×Root)
 | [],_,_=>[]
 | .val _ _ :: ps,i,c=>fU ps (i+1) c.2
 | .ro _ :: ps,i,c=>fU ps (i+1) c.2
 | .rw k ow _ _ :: ps,i,c=>(ak i,aI k c.1 ow (bif k.tys.all (fun t=>au t ow) then [] else [(mM i,0)]) .par true) :: fU ps (i+1) c.2
 | .jF k ow _ :: ps,i,c=>(ak i,{ aI k c.1 ow (bif k.tys.all (fun t=>au t ow) then [] else [(mM i,0)]) .anon true with fixed:=true }) :: fU ps (i+1) c.2
 | .own k ow :: ps,i,c=>(ak i,aI k c.1 ow (bif k.tys.all (fun t=>au t ow) then [] else [(mM i,0)]) .anon) :: fU ps (i+1) c.2
 | .fn _ ks :: ps,i,c=>fU ps (i+1) (Cont.snd ks (kin ps) c)
 | .into _ p :: ps,i,c=>fU ps (i+1) (Cont.snd (fA.into 0 p).kin (kin ps) c)
def oo:List (Nat×AV)→Nat→sK
 | [],_=>.one .undef
 | (s,a) :: l,n=>bif Nat.beq n s then .one a else oo l n
def fZ:List (Nat×Root)→Nat→Option Root
 | [],_=>none
 | (s,a) :: l,n=>bif Nat.beq n s then some a else fZ l n
def bX (ps:List fA) (c:Cont (kin ps)):St:=⟨oo (jc ps 0 c),fZ (fU ps 0 c)⟩
def nu (exts gL:List Nat) (tags:List Tag):Bool:=tags.all fun t=>
 bif fC t.1 then au (t.1 / 4) exts else bif Nat.beq (t.1 % 4) 0 then au (t.1 / 4) gL else true
def JR {α:Type} (T:iD) (own:Bool) (rv:ResultVar) (k:AV→Prog α):Prog α:=match rv with
 | .tmp t=>dJ (.tmp t) k
 | .cell t ty=>dJ (.tmp t) fun a=>yf T own ty a k
def GI {α:Type} (T:iD):(rs:List ug)→List ResultVar→(Cont (gU rs)→List gP→List (List Tag)→Prog α)→Prog α
 | [],[],k=>k () [] []
 | .val kk exts gL :: rs,v :: vs,k=>
  let go (x:El kk) (tags:List Tag):Prog α:=bif kk.flat || nu exts gL tags then GI T rs vs fun c ts tg=>k (x,c) ts (tags :: tg) else .fail
  JR T false v fun a=>match a with
  | .iC=>match kk,go with
   | .sl _ _,go=>go [] []
   | _,_=>.fail
  | a=>qz a fun k' x tags=>match bR k' kk x with
   | some y=>go y (bif kk.flat then [] else tags)
   | none=>.fail
 | .own kk ow exts gL :: rs,v :: vs,k=>JR T true v fun a=>sF kk a fun tk=>match bR tk.k kk tk.x with
  | some y=>bif kD (kk.tys.filter fun t=>au t ow) tk.own && (kk.tys.all (fun t=>au t ow) || nu exts gL tk.tags) then GI T rs vs fun c ts tg=>k (y,c) (tk :: ts) tg else .fail
  | none=>.fail
 | _,_,_=>.fail
def AJ (σ:St) (i:Nat):Option Root:=match σ.roots (ak i) with
 | some R=>bif R.aZ || !bg σ R.wF R.tags then none else some R
 | none=>none
def jR (σ:St):(ps:List fA)→Nat→Option (Cont (jD ps))
 | [],_=>some ()
 | .rw k ow wt ht :: ps,i=>match AJ σ i,jR σ ps (i+1) with
  | some R,some d=>bif lJ k R.own ow && wM R (some (wt,ht)) && (k.tys.all (fun t=>au t ow) || nu [i] [] R.tags) then
    match bR R.k k R.x with
    | some x=>some (x,d)
    | none=>none
   else none
  | _,_=>none
 | .jF k ow wt :: ps,i=>match AJ σ i,jR σ ps (i+1) with
  | some R,some d=>bif lJ k R.own ow && wM R (some (wt,k.tys)) && (k.tys.all (fun t=>au t ow) || nu [i] [] R.tags) then
    match bR R.k k R.x with
    | some x=>some (x,d)
    | none=>none
   else none
  | _,_=>none
 | .val _ _ :: ps,i=>jR σ ps (i+1)
 | .ro _ :: ps,i=>jR σ ps (i+1)
 | .own _ _ :: ps,i=>jR σ ps (i+1)
 | .fn _ _ :: ps,i=>jR σ ps (i+1)
 | .into _ _ :: ps,i=>jR σ ps (i+1)
def fin (T:iD) (ps:List fA) (rs:List ug) (rv:List ResultVar) (σ:St):Option (Cont (gU rs++jD ps)):=
 (GI T rs rv fun c ts tg=>bif yF (ts.flatMap (·.ws)) (ts.flatMap (·.tags)++tg.flatten) then .ret (c,ts.flatMap (·.ws)) else .fail:Prog (Cont (gU rs)×List Wr)).run σ fun q=>
  match jR (az q.2 σ) ps 0 with
  | some d=>some (Cont.app (gU rs) (jD ps) q.1 d)
  | none=>none
def Root.OZ (R:Root) (t:TypeId):Bool:=match R.kind with
 | .var u=>Nat.beq t u
 | _=>false
def Rz {α:Type} (t:TypeId) (kk:K) (ow:List TypeId) (exts:List Nat) (a:AV) (k:El kk→Nat→Prog α):Prog α:=match a with
 | .ptr r [] _=>oD r fun R=>bif R.OZ t && kD (kk.tys.filter fun t=>au t ow) R.own && (kk.tys.all (fun t=>au t ow) || nu exts [] R.tags) then
   match bR R.k kk R.x with
   | some y=>k y r
   | none=>.fail
  else .fail
 | _=>.fail
def cutV {α:Type} (j:Nat) (a:AV) (k:Int→Prog α):Prog α:=match a with
 | .ref r g=>bif Nat.beq r (ak j) && Nat.beq g 0 then oD r fun R=>bif Nat.beq R.g 0 then match R.k,R.x with
   | .sl _ kk,xs=>k ((show List (El kk) from xs).length:Int)
   | _,_=>.fail
  else .fail
  else .fail
 | .part r g lo hi _=>bif Nat.beq r (ak j) && Nat.beq g 0 && Nat.beq lo 0 then k (hi:Int) else .fail
 | _=>.fail
def QU (T:iD) (ps:List fA):(rs:List ug)→List ResultVar→St→Option (Cont (gU rs++jD ps))
 | [.ptr t kk ow exts],[rv],σ=>(JR T false rv fun a=>Rz t kk ow exts a fun y r=>.ret (y,r):Prog (El kk×Nat)).run σ fun q=>
   match jR (az [.r q.2 none] σ) ps 0 with
   | some d=>some (q.1,d)
   | none=>none
 | [.into j []],[rv],σ=>(JR T false rv fun a=>cutV j a fun m=>.ret m:Prog Int).run σ fun m=>
   match jR σ ps 0 with
   | some d=>some (m,d)
   | none=>none
 | rs,sD,σ=>fin T ps rs sD σ
def rJ:List fA→Nat→List (Nat×K×List TypeId×List TypeId)
 | [],_=>[]
 | .rw k _ wt ht :: ps,i=>(ak i,k,wt,ht) :: rJ ps (i+1)
 | .jF k _ wt :: ps,i=>(ak i,k,wt,k.tys) :: rJ ps (i+1)
 | _ :: ps,i=>rJ ps (i+1)
def QM (T:iD) (hi:Hint) (fn:Func) (ps:List fA) (rs:List ug) (n:Nat) (c:Cont (kin ps)):Option (Cont (gU rs++jD ps)):=
 match fn.body with
 | some code=>den T { hi with nt:=fn.ntmps,iJ:=rJ ps 0 } n (RV (gU rs++jD ps)) 0 code (bX ps c) fun
  | .ret,σ=>QU T ps rs fn.results.toList σ
  | .normal,σ=>QU T ps rs fn.results.toList σ
  | _,_=>none
 | none=>none
end
section
open Go
class Fr where
 free:Nat→Prop
 obj:Nat→Option Obj
 iq:Nat→Value
 UL:iq 0=.slice none 0 0
 X7:∀i,∃a n c,iq i=.slice a n c
abbrev acY:Fr:=⟨fun _=>False,fun _=>none,fun _=>.slice none 0 0,rfl,fun _=>⟨none,0,0,rfl⟩⟩
variable [Fr]
structure yI (n lo hi:Nat):Prop where
 le:lo≤hi
 out:∀i,i<n→¬(lo≤i∧i<hi)
instance {n lo hi:Nat}:CoeFun (yI n lo hi) (fun _=>∀i,i<n→¬(lo≤i∧i<hi)):=⟨yI.out⟩
theorem yI.zero {n:Nat}:yI n 0 0:=⟨af6 _,fun _ _=>by omega⟩
abbrev Heap:=Nat→Option Obj
def hp (w:World):Heap:=fun b=>w.heap[b]?
def cellAt (h:Heap) (b o:Nat):Option Value:=match h b with
 | some (.cells c _ _)=>c[o]?
 | _=>none
def ni (h:Heap) (b:Nat):Option TypeId:=match h b with
 | some (.cells _ e _)=>some e
 | _=>none
def Cells (h:Heap) (b o:Nat) (cs:List Value):Prop:=∀i,i<cs.length→cellAt h b (o+i)=cs[i]?
theorem uB (w:World) (b o:Nat):w.cell? ⟨b,o,none⟩=cellAt (hp w) b o:=by
 unfold World.cell? cellAt hp
 cases w.heap[b]? with
 | none=>rfl
 | some x=>cases x <;> rfl
theorem qJ {h h':Heap} {b:Nat} (e:h' b=h b) (o:Nat):cellAt h' b o=cellAt h b o:=by unfold cellAt; rw [e]
def q9 (h:Heap) (b:Nat) (e:TypeId):Prop:=ni h b=some e∨Fr.free b
theorem BD {h h':Heap} {b:Nat} (e:h' b=h b):ni h' b=ni h b:=by unfold ni; rw [e]
theorem BC {h h':Heap} {b:Nat} {t:TypeId} (e:h' b=h b) (H:q9 h b t):q9 h' b t:=H.imp (fun H=>(BD e).trans H) id
theorem Cells.congr {h h':Heap} {b o:Nat} {cs:List Value} (e:h' b=h b) (H:Cells h b o cs):Cells h' b o cs:=fun i hi=>(qJ e _).trans (H i hi)
def CG:IntKind→Int→Prop
 | .u8,n=>0≤n∧n<256
 | _,_=>True
def Vw (h:Heap) (ok:Nat→Prop):(k:K)→El k→List Value→Prop
 | .int ik,n,cs=>cs=[.int ik n]∧CG ik n
 | .bool,b,cs=>cs=[.bool b]
 | .str,s,cs=>∃B:ByteArray,cs=[.string B]∧(show List Int from s)=bytesOf B
 | .sl e k,xs,cs=>∃a n c,cs=[.slice a n c]∧n=(show List (El k) from xs).length∧n≤c∧
   (0<n→∃b o,a=some ⟨b,o,none⟩∧ok b∧q9 h b e∧
    ∀(i:Nat) (hi:i<(show List (El k) from xs).length),∃ds,Cells h b (o+i * k.size) ds∧Vw h ok k ((show List (El k) from xs)[i]) ds)
 | .unit,_,cs=>cs=[]
 | .pair a b,x,cs=>∃c1 c2,cs=c1++c2∧Vw h ok a x.1 c1∧Vw h ok b x.2 c2
 | .st f,x,cs=>Vw h ok f x cs
 | .gap n,_,cs=>cs.length=n
 | .id _,i,cs=>cs=[Fr.iq (show Nat from i)]
def Ow (h:Heap) (own:List TypeId) (ok:Nat→Prop):(k:K)→El k→List Value→List Nat→Prop
 | .sl e k,xs,cs,fo=>if au e own=true then
   ∃a n c,cs=[.slice a n c]∧n=(show List (El k) from xs).length∧n≤c∧
    ((c=0∧fo=[])∨∃b o arr lo hi,a=some ⟨b,o,none⟩∧h b=some (.cells arr e (lo,hi))∧yI arr.size lo hi∧o+c * k.size≤arr.size∧
     ∃bz:List (List Nat),bz.length=(show List (El k) from xs).length∧fo.Perm (b :: bz.flatten)∧
      ∀(i:Nat) (hi:i<(show List (El k) from xs).length),∃ds,Cells h b (o+i * k.size) ds∧Ow h own ok k ((show List (El k) from xs)[i]) ds (bz.getD i []))
  else fo=[]∧Vw h ok (.sl e k) xs cs
 | .pair a b,x,cs,fo=>∃c1 c2 f1 f2,cs=c1++c2∧fo.Perm (f1++f2)∧Ow h own ok a x.1 c1 f1∧Ow h own ok b x.2 c2 f2
 | .st f,x,cs,fo=>Ow h own ok f x cs fo
 | .int ik,n,cs,fo=>fo=[]∧Vw h ok (.int ik) n cs
 | .bool,n,cs,fo=>fo=[]∧Vw h ok .bool n cs
 | .str,n,cs,fo=>fo=[]∧Vw h ok .str n cs
 | .unit,_,cs,fo=>fo=[]∧cs=[]
 | .gap n,_,cs,fo=>fo=[]∧cs.length=n
 | .id e,i,cs,fo=>fo=[]∧Vw h ok (.id e) i cs
theorem jP {h:Heap} {ok:Nat→Prop}:∀{k:K} {x:El k} {cs:List Value},Vw h ok k x cs→cs.length=k.size:=by
 intro k
 induction k with
 | int ik=>intro x cs H; rw [H.1]; rfl
 | bool=>intro x cs H; rw [show cs=_ from H]; rfl
 | id e=>intro x cs H; rw [show cs=_ from H]; rfl
 | str=>intro x cs H; obtain ⟨B,rfl,_⟩:=H; rfl
 | sl e k ih=>intro x cs H; obtain ⟨a,n,c,rfl,_⟩:=H; rfl
 | unit=>intro x cs H; rw [show cs=_ from H]; rfl
 | pair a b iha ihb=>intro x cs H; obtain ⟨c1,c2,rfl,h1,h2⟩:=H; simp [K.size,iha h1,ihb h2]
 | st f ih=>intro x cs H; exact ih (x:=x) H
 | gap n=>intro x cs H; exact H
theorem fI {h h':Heap} {ok ok':Nat→Prop} (hh:∀b,ok b→h' b=h b) (hk:∀b,ok b→ok' b):∀{k:K} {x:El k} {cs:List Value},Vw h ok k x cs→Vw h' ok' k x cs:=by
 intro k
 induction k with
 | int ik=>intro x cs H; exact H
 | bool=>intro x cs H; exact H
 | id e=>intro x cs H; exact H
 | str=>intro x cs H; exact H
 | sl e k ih=>
  intro x cs H
  obtain ⟨a,n,c,e1,e2,e3,H⟩:=H
  refine ⟨a,n,c,e1,e2,e3,fun hn=>?_⟩
  obtain ⟨b,o,ea,hb,ht,H⟩:=H hn
  refine ⟨b,o,ea,hk b hb,BC (hh b hb) ht,fun i hi=>?_⟩
  obtain ⟨ds,h1,h2⟩:=H i hi
  exact ⟨ds,h1.congr (hh b hb),ih h2⟩
 | unit=>intro x cs H; exact H
 | pair a b iha ihb=>intro x cs H; obtain ⟨c1,c2,e,h1,h2⟩:=H; exact ⟨c1,c2,e,iha h1,ihb h2⟩
 | st f ih=>intro x cs H; exact ih (x:=x) H
 | gap n=>intro x cs H; exact H
theorem iF {h h':Heap} {ok ok':Nat→Prop}:∀{k:K} {x:El k} {cs:List Value},k.flat=true→Vw h ok k x cs→Vw h' ok' k x cs:=by
 intro k
 induction k with
 | sl e k ih=>intro x cs h; simp [K.flat] at h
 | gap n=>intro x cs h; simp [K.flat] at h
 | pair a b iha ihb=>
  intro x cs h H
  simp only [K.flat,afW] at h
  obtain ⟨c1,c2,e,h1,h2⟩:=H
  exact ⟨c1,c2,e,iha h.1 h1,ihb h.2 h2⟩
 | st f ih=>intro x cs h H; exact ih (x:=x) h H
 | _=>intro x cs _ H; exact H
theorem A8 {h:Heap} {ok:Nat→Prop}:∀{k:K} {x:El k} {cs:List Value} (ts:List TypeId),(∀t∈k.tys,t∈ts)→Vw h ok k x cs→Vw h (fun b=>ok b∧∃t∈ts,q9 h b t) k x cs:=by
 intro k
 induction k with
 | int ik=>intro x cs ts _ H; exact H
 | bool=>intro x cs ts _ H; exact H
 | id e=>intro x cs ts _ H; exact H
 | str=>intro x cs ts _ H; exact H
 | sl e k ih=>
  intro x cs ts hts H
  obtain ⟨a,n,c,e1,e2,e3,H⟩:=H
  refine ⟨a,n,c,e1,e2,e3,fun hn=>?_⟩
  obtain ⟨b,o,ea,hb,ht,H⟩:=H hn
  refine ⟨b,o,ea,⟨hb,e,hts e (by simp [K.tys]),ht⟩,ht,fun i hi=>?_⟩
  obtain ⟨ds,h1,h2⟩:=H i hi
  exact ⟨ds,h1,ih ts (fun t h=>hts t (by simp [K.tys,h])) h2⟩
 | unit=>intro x cs ts _ H; exact H
 | pair a b iha ihb=>
  intro x cs ts hts H
  obtain ⟨c1,c2,e,h1,h2⟩:=H
  exact ⟨c1,c2,e,iha ts (fun t h=>hts t (by simp [K.tys,h])) h1,ihb ts (fun t h=>hts t (by simp [K.tys,h])) h2⟩
 | st f ih=>intro x cs ts hts H; exact ih (x:=x) ts hts H
 | gap n=>intro x cs ts _ H; exact H
theorem cO {h:Heap} {own:List TypeId} {ok:Nat→Prop}:∀{k:K} {x:El k} {cs:List Value} {fo:List Nat},Ow h own ok k x cs fo→cs.length=k.size:=by
 intro k
 induction k with
 | int ik=>intro x cs fo H; exact jP H.2
 | bool=>intro x cs fo H; exact jP H.2
 | id e=>intro x cs fo H; exact jP H.2
 | str=>intro x cs fo H; exact jP H.2
 | sl e k ih=>
  intro x cs fo H
  unfold Ow at H
  split at H
  ·obtain ⟨a,n,c,rfl,_⟩:=H; rfl
  ·exact jP H.2
 | unit=>intro x cs fo H; rw [H.2]; rfl
 | pair a b iha ihb=>intro x cs fo H; obtain ⟨c1,c2,f1,f2,rfl,_,h1,h2⟩:=H; simp [K.size,iha h1,ihb h2]
 | st f ih=>intro x cs fo H; exact ih (x:=x) H
 | gap n=>intro x cs fo H; exact H.2
theorem ou {bz:List (List Nat)} {i:Nat} {b:Nat} (h:b∈bz.getD i []):b∈bz.flatten:=by
 rw [af3] at h
 cases hi:bz[i]? with
 | none=>rw [hi] at h; simp at h
 | some l=>rw [hi] at h; exact List.mem_flatten.2 ⟨l,List.mem_of_getElem? hi,by simpa using h⟩
theorem bq {h h':Heap} {own:List TypeId} {ok ok':Nat→Prop} (hh:∀b,ok b→h' b=h b) (hk:∀b,ok b→ok' b) :
  ∀{k:K} {x:El k} {cs:List Value} {fo:List Nat},(∀b∈fo,h' b=h b)→Ow h own ok k x cs fo→Ow h' own ok' k x cs fo:=by
 intro k
 induction k with
 | int ik=>intro x cs fo _ H; exact ⟨H.1,fI hh hk H.2⟩
 | bool=>intro x cs fo _ H; exact ⟨H.1,fI hh hk H.2⟩
 | id e=>intro x cs fo _ H; exact ⟨H.1,fI hh hk H.2⟩
 | str=>intro x cs fo _ H; exact ⟨H.1,fI hh hk H.2⟩
 | sl e k ih=>
  intro x cs fo hfo H
  unfold Ow at H ⊢
  split
  ·rename_i hm
   rw [if_pos hm] at H
   obtain ⟨a,n,c,e1,e2,e3,H⟩:=H
   refine ⟨a,n,c,e1,e2,e3, ?_⟩
   rcases H with H | ⟨b,o,arr,lo,hi,ea,hb,hf,hs,bz,hl,hp,H⟩
   ·exact .inl H
   ·have hbb:h' b=h b:=hfo b (hp.mem_iff.2 (by simp))
    refine .inr ⟨b,o,arr,lo,hi,ea,hbb.trans hb,hf,hs,bz,hl,hp,fun i hi=>?_⟩
    obtain ⟨ds,h1,h2⟩:=H i hi
    exact ⟨ds,h1.congr hbb,ih (fun b' hb'=>hfo b' (hp.mem_iff.2 (by simp [ou hb']))) h2⟩
  ·rename_i hm
   rw [if_neg hm] at H
   exact ⟨H.1,fI hh hk H.2⟩
 | unit=>intro x cs fo _ H; exact H
 | pair a b iha ihb=>
  intro x cs fo hfo H
  obtain ⟨c1,c2,f1,f2,e,hp,h1,h2⟩:=H
  exact ⟨c1,c2,f1,f2,e,hp,iha (fun b hb=>hfo b (hp.mem_iff.2 (by simp [hb]))) h1,ihb (fun b hb=>hfo b (hp.mem_iff.2 (by simp [hb]))) h2⟩
 | st f ih=>intro x cs fo hfo H; exact ih (x:=x) hfo H
 | gap n=>intro x cs fo _ H; exact H
theorem oN {h:Heap} {own:List TypeId} {ok:Nat→Prop}:∀{k:K} {x:El k} {cs:List Value} {fo:List Nat} (ts:List TypeId),(∀t∈aR own k,t∈ts)→Ow h own ok k x cs fo→Ow h own (fun b=>ok b∧∃t∈ts,q9 h b t) k x cs fo:=by
 intro k
 induction k with
 | int ik=>intro x cs fo ts _ H; exact H
 | bool=>intro x cs fo ts _ H; exact H
 | id e=>intro x cs fo ts _ H; exact H
 | str=>intro x cs fo ts _ H; exact H
 | sl e k ih=>
  intro x cs fo ts hts H
  unfold Ow at H ⊢
  split
  ·rename_i hm
   rw [if_pos hm] at H
   obtain ⟨a,n,c,e1,e2,e3,H⟩:=H
   refine ⟨a,n,c,e1,e2,e3, ?_⟩
   rcases H with H | ⟨b,o,arr,lo,hi,ea,hb,hf,hs,bz,hl,hp,H⟩
   ·exact .inl H
   ·refine .inr ⟨b,o,arr,lo,hi,ea,hb,hf,hs,bz,hl,hp,fun i hi=>?_⟩
    obtain ⟨ds,h1,h2⟩:=H i hi
    exact ⟨ds,h1,ih ts (fun t ht=>hts t (by simp [aR,hm,ht])) h2⟩
  ·rename_i hm
   rw [if_neg hm] at H
   exact ⟨H.1,A8 ts (fun t ht=>hts t (by simpa [aR,hm,K.tys] using ht)) H.2⟩
 | unit=>intro x cs fo ts _ H; exact H
 | pair a b iha ihb=>
  intro x cs fo ts hts H
  obtain ⟨c1,c2,f1,f2,e,hp,h1,h2⟩:=H
  exact ⟨c1,c2,f1,f2,e,hp,iha ts (fun t h=>hts t (by simp [aR,h])) h1,ihb ts (fun t h=>hts t (by simp [aR,h])) h2⟩
 | st f ih=>intro x cs fo ts hts H; exact ih (x:=x) ts hts H
 | gap n=>intro x cs fo ts _ H; exact H
theorem jJ {h:Heap} {own:List TypeId} {ok:Nat→Prop} (ok':Nat→Prop) (hk:∀b,ok b→ok' b) :
  ∀{k:K} {x:El k} {cs:List Value} {fo:List Nat},(∀b∈fo,ok' b)→Ow h own ok k x cs fo→Vw h ok' k x cs:=by
 intro k
 induction k with
 | int ik=>intro x cs fo _ H; exact fI (fun _ _=>rfl) hk H.2
 | bool=>intro x cs fo _ H; exact fI (fun _ _=>rfl) hk H.2
 | id e=>intro x cs fo _ H; exact fI (fun _ _=>rfl) hk H.2
 | str=>intro x cs fo _ H; exact fI (fun _ _=>rfl) hk H.2
 | sl e k ih=>
  intro x cs fo hfo H
  unfold Ow at H
  split at H
  ·obtain ⟨a,n,c,e1,e2,e3,H⟩:=H
   refine ⟨a,n,c,e1,e2,e3,fun hn=>?_⟩
   rcases H with H | ⟨b,o,arr,lo,hi,ea,hb,hf,hs,bz,hl,hp,H⟩
   ·omega
   ·refine ⟨b,o,ea,hfo b (hp.mem_iff.2 (by simp)),by refine .inl ?_; unfold ni; rw [hb],fun i hi=>?_⟩
    obtain ⟨ds,h1,h2⟩:=H i hi
    exact ⟨ds,h1,ih (fun b' hb'=>hfo b' (hp.mem_iff.2 (by simp [ou hb']))) h2⟩
  ·exact fI (fun _ _=>rfl) hk H.2
 | unit=>intro x cs fo _ H; exact H.2
 | pair a b iha ihb=>
  intro x cs fo hfo H
  obtain ⟨c1,c2,f1,f2,e,hp,h1,h2⟩:=H
  exact ⟨c1,c2,e,iha (fun b hb=>hfo b (hp.mem_iff.2 (by simp [hb]))) h1,ihb (fun b hb=>hfo b (hp.mem_iff.2 (by simp [hb]))) h2⟩
 | st f ih=>intro x cs fo hfo H; exact ih (x:=x) hfo H
 | gap n=>intro x cs fo _ H; exact H.2
theorem qG {h:Heap} {own own':List TypeId} {ok:Nat→Prop} :
  ∀{k:K} {x:El k} {cs:List Value} {fo:List Nat},(∀t∈k.tys,au t own'=true→au t own=true)→Ow h own ok k x cs fo→
   ∃dA fd,fo.Perm (dA++fd)∧Ow h own' (fun b=>ok b∨b∈fd) k x cs dA:=by
 intro k
 induction k with
 | int ik=>intro x cs fo _ H; exact ⟨[],[],by rw [H.1]; exact .refl _,rfl,fI (fun _ _=>rfl) (fun _ h=>.inl h) H.2⟩
 | bool=>intro x cs fo _ H; exact ⟨[],[],by rw [H.1]; exact .refl _,rfl,fI (fun _ _=>rfl) (fun _ h=>.inl h) H.2⟩
 | id e=>intro x cs fo _ H; exact ⟨[],[],by rw [H.1]; exact .refl _,rfl,fI (fun _ _=>rfl) (fun _ h=>.inl h) H.2⟩
 | str=>intro x cs fo _ H; exact ⟨[],[],by rw [H.1]; exact .refl _,rfl,fI (fun _ _=>rfl) (fun _ h=>.inl h) H.2⟩
 | sl e k ih=>
  intro x cs fo ht H
  by_cases hm':au e own'=true
  ·have hm:=ht e (by simp [K.tys]) hm'
   unfold Ow at H
   rw [if_pos hm] at H
   obtain ⟨a,n,c,e1,e2,e3,H⟩:=H
   rcases H with ⟨h0,h1⟩ | ⟨b,o,arr,lo,hi,ea,hb,hf,hs,bz,hl,hp,H⟩
   ·refine ⟨[],[],by rw [h1]; exact .refl _, ?_⟩
    unfold Ow
    rw [if_pos hm']
    exact ⟨a,n,c,e1,e2,e3, .inl ⟨h0,rfl⟩⟩
   ·
    have step:∀i:Nat,∃p:List Nat×List Nat,(hi:i<(show List (El k) from x).length)→((bz.getD i []).Perm (p.1++p.2)∧∃ds,Cells h b (o+i * k.size) ds∧Ow h own' (fun b=>ok b∨b∈p.2) k ((show List (El k) from x)[i]) ds p.1):=by
     intro i
     by_cases hi:i<(show List (El k) from x).length
     ·obtain ⟨ds,h1,h2⟩:=H i hi
      obtain ⟨dA,fd,hp',h3⟩:=ih (fun t ht'=>ht t (by simp [K.tys,ht'])) h2
      exact ⟨(dA,fd),fun _=>⟨hp',ds,h1,h3⟩⟩
     ·exact ⟨([],[]),fun h=>absurd h hi⟩
    have ⟨q,hq⟩:∃q:Nat→List Nat×List Nat,∀i,(hi:i<(show List (El k) from x).length)→((bz.getD i []).Perm ((q i).1++(q i).2)∧∃ds,Cells h b (o+i * k.size) ds∧Ow h own' (fun b=>ok b∨b∈(q i).2) k ((show List (El k) from x)[i]) ds (q i).1):=
     ⟨fun i=>Classical.choose (step i),fun i=>Classical.choose_spec (step i)⟩
    let N:=(show List (El k) from x).length
    refine ⟨b :: (List.range N).flatMap (fun i=>(q i).1),(List.range N).flatMap (fun i=>(q i).2), ?_, ?_⟩
    ·refine hp.trans ?_
     rw [List.cons_append]
     refine .cons b ?_
     have Xx:bz.flatten=(List.range N).flatMap (fun i=>bz.getD i []):=by
      rw [List.flatMap_def]
      congr 1
      apply List.ext_getElem
      ·simp [N,hl]
      ·intro i h1 h2
       simp [af3,af4 h1]
     rw [Xx]
     have gen:∀l:List Nat,(∀i∈l,i<N)→(l.flatMap (fun i=>bz.getD i [])).Perm (l.flatMap (fun i=>(q i).1)++l.flatMap (fun i=>(q i).2)):=by
      intro l
      induction l with
      | nil=>intro _; exact .refl _
      | cons i l ihl=>
       intro hl'
       simp only [List.flatMap_cons]
       have h1:=(hq i (hl' i (by simp))).1
       have h2:=ihl (fun j hj=>hl' j (by simp [hj]))
       refine (h1.append h2).trans ?_
       simp only [agb]
       refine List.Perm.append_left _ ?_
       rw [←agb, ←agb]
       exact List.Perm.append_right _ List.perm_append_comm
     exact gen _ (fun i hi=>List.mem_range.1 hi)
    ·unfold Ow
     rw [if_pos hm']
     refine ⟨a,n,c,e1,e2,e3, .inr ⟨b,o,arr,lo,hi,ea,hb,hf,hs,(List.range N).map (fun i=>(q i).1),by simp [N],by rw [List.flatMap_def],fun i hi=>?_⟩⟩
     obtain ⟨ds,h1,h2⟩:=(hq i hi).2
     refine ⟨ds,h1, ?_⟩
     have:(List.map (fun i=>(q i).1) (List.range N)).getD i []=(q i).1:=by
      rw [af3,List.getElem?_map,List.getElem?_range hi]; rfl
     rw [this]
     exact bq (fun _ _=>rfl) (fun b' hb'=>hb'.imp id (fun h=>agt.2 ⟨i,List.mem_range.2 hi,h⟩)) (fun _ _=>rfl) h2
  ·refine ⟨[],fo,by simp, ?_⟩
   unfold Ow
   rw [if_neg hm']
   exact ⟨rfl,jJ _ (fun _ h=>.inl h) (fun _ h=>.inr h) H⟩
 | unit=>intro x cs fo _ H; exact ⟨[],[],by rw [H.1]; exact .refl _,rfl,H.2⟩
 | pair a b iha ihb=>
  intro x cs fo ht H
  obtain ⟨c1,c2,f1,f2,e,hp,h1,h2⟩:=H
  obtain ⟨g1,d1,p1,r1⟩:=iha (fun t h=>ht t (by simp [K.tys,h])) h1
  obtain ⟨g2,d2,p2,r2⟩:=ihb (fun t h=>ht t (by simp [K.tys,h])) h2
  refine ⟨g1++g2,d1++d2,(hp.trans (p1.append p2)).trans ?_,c1,c2,g1,g2,e, .refl _, ?_, ?_⟩
  ·simp only [agb]
   refine List.Perm.append_left _ ?_
   rw [←agb, ←agb]
   exact List.Perm.append_right _ List.perm_append_comm
  ·exact bq (fun _ _=>rfl) (fun b' hb'=>hb'.imp id (fun h=>by simp [h])) (fun _ _=>rfl) r1
  ·exact bq (fun _ _=>rfl) (fun b' hb'=>hb'.imp id (fun h=>by simp [h])) (fun _ _=>rfl) r2
 | st f ih=>intro x cs fo ht H; exact ih (x:=x) ht H
 | gap n=>intro x cs fo _ H; exact ⟨[],[],by rw [H.1]; exact .refl _,rfl,H.2⟩
theorem nV {h:Heap} {own own':List TypeId} {ok:Nat→Prop} :
  ∀{k:K} {x:El k} {cs:List Value} {fo:List Nat},(∀t∈k.tys,au t own'=au t own)→Ow h own ok k x cs fo→Ow h own' ok k x cs fo:=by
 intro k
 induction k with
 | int ik=>intro x cs fo _ H; exact H
 | bool=>intro x cs fo _ H; exact H
 | id e=>intro x cs fo _ H; exact H
 | str=>intro x cs fo _ H; exact H
 | sl e k ih=>
  intro x cs fo ht H
  unfold Ow at H ⊢
  rw [ht e (by simp [K.tys])]
  split
  ·rename_i hm
   rw [if_pos hm] at H
   obtain ⟨a,n,c,e1,e2,e3,H⟩:=H
   refine ⟨a,n,c,e1,e2,e3, ?_⟩
   rcases H with H | ⟨b,o,arr,lo,hi,ea,hb,hf,hs,bz,hl,hp,H⟩
   ·exact .inl H
   ·refine .inr ⟨b,o,arr,lo,hi,ea,hb,hf,hs,bz,hl,hp,fun i hi=>?_⟩
    obtain ⟨ds,h1,h2⟩:=H i hi
    exact ⟨ds,h1,ih (fun t ht'=>ht t (by simp [K.tys,ht'])) h2⟩
  ·rename_i hm
   rw [if_neg hm] at H
   exact H
 | unit=>intro x cs fo _ H; exact H
 | pair a b iha ihb=>
  intro x cs fo ht H
  obtain ⟨c1,c2,f1,f2,e,hp,h1,h2⟩:=H
  exact ⟨c1,c2,f1,f2,e,hp,iha (fun t h=>ht t (by simp [K.tys,h])) h1,ihb (fun t h=>ht t (by simp [K.tys,h])) h2⟩
 | st f ih=>intro x cs fo ht H; exact ih (x:=x) ht H
 | gap n=>intro x cs fo _ H; exact H
theorem mZ {h:Heap} {own:List TypeId} {ok:Nat→Prop}:∀{k:K} {x:El k} {cs:List Value},(∀t∈k.tys,au t own=false)→Vw h ok k x cs→Ow h own ok k x cs []:=by
 intro k
 induction k with
 | int ik=>intro x cs _ H; exact ⟨rfl,H⟩
 | bool=>intro x cs _ H; exact ⟨rfl,H⟩
 | id e=>intro x cs _ H; exact ⟨rfl,H⟩
 | str=>intro x cs _ H; exact ⟨rfl,H⟩
 | sl e k ih=>
  intro x cs ht H
  unfold Ow
  rw [if_neg (by rw [ht e (by simp [K.tys])]; simp)]
  exact ⟨rfl,H⟩
 | unit=>intro x cs _ H; exact ⟨rfl,H⟩
 | pair a b iha ihb=>
  intro x cs ht H
  obtain ⟨c1,c2,e,h1,h2⟩:=H
  exact ⟨c1,c2,[],[],e, .refl _,iha (fun t h=>ht t (by simp [K.tys,h])) h1,ihb (fun t h=>ht t (by simp [K.tys,h])) h2⟩
 | st f ih=>intro x cs ht H; exact ih (x:=x) ht H
 | gap n=>intro x cs _ H; exact ⟨rfl,H⟩
end
section
open Go
variable [Fr]
def bu:Nat→K→Option (Nat×K)
 | 0, .pair a _=>some (0,a)
 | n+1, .pair a b=>match bu n b with
  | some (o,k)=>some (a.size+o,k)
  | none=>none
 | _,_=>none
def mP (h:Heap) (b o n:Nat):List Value:=(List.range n).map fun j=>(cellAt h b (o+j)).getD undef
theorem gM {h:Heap} {b o:Nat} {cs:List Value} (H:Cells h b o cs):mP h b o cs.length=cs:=by
 unfold mP
 apply List.ext_getElem
 ·simp
 ·intro i h1 h2
  simp [H i h2,af4 h2]
def bE (h:Heap):List Stp→(k:K)→List Value→Option (Nat×Nat)→Option (List Value×Option (Nat×Nat))
 | [],_,cs,wh=>some (cs,wh)
 | .fD n :: p, .st c,cs,wh=>match bu n c with
  | some (off,k')=>bE h p k' ((cs.drop off).take k'.size) (wh.map fun q=>(q.1,q.2+off))
  | none=>none
 | .idx i :: p, .sl _ k,cs,_=>match cs with
  | [.slice (some a) _ _]=>bE h p k (mP h a.block (a.off+i.toNat * k.size) k.size) (some (a.block,a.off+i.toNat * k.size))
  | _=>none
 | _,_,_,_=>none
def kH:List Stp→(k:K)→El k→Prop
 | [],_,_=>True
 | .fD n :: p, .st c,x=>match aK n c x with
  | some d=>kH p d.1 d.2
  | none=>False
 | .idx i :: p, .sl _ k,xs=>0≤i∧i<((show List (El k) from xs).length:Int)∧kH p k ((show List (El k) from xs).getD i.toNat k.zero)
 | _,_,_=>False
def gu (h h':Heap) (b o n:Nat):Prop:=
 ∃arr jG e fr,h b=some (.cells arr e fr)∧h' b=some (.cells jG e fr)∧jG.size=arr.size∧∀i,¬(o≤i∧i<o+n)→jG[i]?=arr[i]?
theorem gu.of_same {h h':Heap} {b:Nat} (o n:Nat) {arr:Array Value} {e:TypeId} {fr:Nat×Nat} (e1:h b=some (.cells arr e fr)) (e2:h' b=h b):gu h h' b o n:=
 ⟨arr,arr,e,fr,e1,e2.trans e1,rfl,fun _ _=>rfl⟩
theorem gu.cells {h h':Heap} {b o n o':Nat} {cs:List Value} (H:gu h h' b o n) (hc:Cells h b o' cs) (hd:o'+cs.length≤o∨o+n≤o'):Cells h' b o' cs:=by
 obtain ⟨arr,jG,e,fr,h1,h2,_,h3⟩:=H
 intro i hi
 have:=hc i hi
 unfold cellAt at this ⊢
 rw [h1] at this
 rw [h2]
 simp only at this ⊢
 rw [h3 _ (by omega)]
 exact this
theorem gu.cellAt {h h':Heap} {b o n:Nat} (H:gu h h' b o n) {i:Nat} (hi:¬(o≤i∧i<o+n)):cellAt h' b i=cellAt h b i:=by
 obtain ⟨arr,jG,e,fr,h1,h2,_,h3⟩:=H
 unfold Ow.cellAt
 rw [h1,h2]
 exact h3 i hi
theorem Cells.append {h:Heap} {b o:Nat} {c1 c2:List Value}:Cells h b o (c1++c2)↔Cells h b o c1∧Cells h b (o+c1.length) c2:=by
 constructor
 ·intro H
  refine ⟨fun i hi=>?_,fun i hi=>?_⟩
  ·rw [H i (by simp; omega),List.getElem?_append_left hi]
  ·have:=H (c1.length+i) (by simp; omega)
   rw [List.getElem?_append_right (by omega)] at this
   rw [Nat.add_assoc,this]
   congr 1
   omega
 ·rintro ⟨H1,H2⟩ i hi
  by_cases h1:i<c1.length
  ·rw [H1 i h1,List.getElem?_append_left h1]
  ·have:=H2 (i - c1.length) (by simp at hi; omega)
   rw [List.getElem?_append_right (by omega), ←this]
   congr 1
   omega
theorem tV {a b c:List Nat}:(a++(b++c)).Perm (b++(a++c)):=by
 rw [←agb, ←agb]
 exact List.Perm.append_right _ List.perm_append_comm
theorem tN:∀(n:Nat) {c:K} {x:El c} {t z:Dat},cu n c x t=some z→aK n z.1 z.2=some t:=by
 intro n
 induction n with
 | zero=>
  intro c x t z h
  cases c with
  | pair a b=>simp only [cu,afQ] at h; subst h; rfl
  | _=>simp [cu] at h
 | succ n ih=>
  intro c x t z h
  cases c with
  | pair a b=>
   simp only [cu] at h
   cases h2:cu n b x.2 t with
   | none=>rw [h2] at h; simp at h
   | some y=>rw [h2] at h; simp only [afQ] at h; subst h; exact ih h2
  | _=>simp [cu] at h
theorem Bq:∀(n:Nat) {c:K} {x:El c} {s t z:Dat},aK n c x=some s→cu n c x t=some z→t.1=s.1→z.1=c:=by
 intro n
 induction n with
 | zero=>
  intro c x s t z hg h e
  cases c with
  | pair a b=>
   simp only [aK,afQ] at hg
   simp only [cu,afQ] at h
   subst hg; subst h
   simp only at e
   simp [e]
  | _=>simp [cu] at h
 | succ n ih=>
  intro c x s t z hg h e
  cases c with
  | pair a b=>
   simp only [aK] at hg
   simp only [cu] at h
   cases h2:cu n b x.2 t with
   | none=>rw [h2] at h; simp at h
   | some y=>rw [h2] at h; simp only [afQ] at h; subst h; simp [ih hg h2 e]
  | _=>simp [cu] at h
theorem uD:∀(n:Nat) {c:K} {x:El c} {t z:Dat} {off:Nat} {k':K},bu n c=some (off,k')→cu n c x t=some z→bu n z.1=some (off,t.1):=by
 intro n
 induction n with
 | zero=>
  intro c x t z off k' ho h
  cases c with
  | pair a b=>
   simp only [cu,afQ] at h
   subst h
   simp only [bu,afQ,af1] at ho ⊢
   exact ⟨ho.1,trivial⟩
  | _=>simp [cu] at h
 | succ n ih=>
  intro c x t z off k' ho h
  cases c with
  | pair a b=>
   simp only [cu] at h
   cases h2:cu n b x.2 t with
   | none=>rw [h2] at h; simp at h
   | some y=>
    rw [h2] at h
    simp only [afQ] at h
    subst h
    simp only [bu] at ho ⊢
    cases h3:bu n b with
    | none=>rw [h3] at ho; simp at ho
    | some q=>
     rw [h3] at ho
     simp only [Option.map_some,afQ,af1] at ho
     rw [ih (k':=q.2) (off:=q.1) (by rw [h3]) h2]
     simp [←ho.1]
  | _=>simp [cu] at h
theorem AA {h:Heap} {own:List TypeId} {ok:Nat→Prop}:∀(n:Nat) {c:K} {x:El c} {cs:List Value} {fo:List Nat} {d:Dat},
  Ow h own ok c x cs fo→aK n c x=some d→
   ∃off pre cs1 post fE fr,bu n c=some (off,d.1)∧cs=pre++(cs1++post)∧pre.length=off∧fo.Perm (fE++fr)∧Ow h own ok d.1 d.2 cs1 fE∧
    (∀(h':Heap) (ok':Nat→Prop) (t:Dat) (mF:List Value) (qK:List Nat) (z:Dat),cu n c x t=some z→Ow h' own ok' t.1 t.2 mF qK→
     (∀b,ok b→ok' b∧h' b=h b)→(∀b∈fr,h' b=h b)→Ow h' own ok' z.1 z.2 (pre++(mF++post)) (qK++fr))∧
    ∀m s2,m≠n→aK m c x=some s2→∃off2 cs2 RY,bu m c=some (off2,s2.1)∧(cs.drop off2).take s2.1.size=cs2∧Ow h own ok s2.1 s2.2 cs2 RY∧(∀b∈RY,b∈fr)∧
     (∀mF:List Value,mF.length=d.1.size→((pre++(mF++post)).drop off2).take s2.1.size=cs2)∧∀t z,cu n c x t=some z→aK m z.1 z.2=some s2:=by
 intro n
 induction n with
 | zero=>
  intro c x cs fo d H hg
  cases c with
  | pair a b=>
   simp only [aK,afQ] at hg
   subst hg
   obtain ⟨c1,c2,f1,f2,e,hp,h1,h2⟩:=H
   refine ⟨0,[],c1,c2,f1,f2,rfl,by simpa using e,rfl,hp,h1, ?_, ?_⟩
   ·intro h' ok' t mF qK z hz ht hok hfr
    simp only [cu,afQ] at hz
    subst hz
    exact ⟨mF,c2,qK,f2,by simp, .refl _,ht,bq (fun b hb=>(hok b hb).2) (fun b hb=>(hok b hb).1) hfr h2⟩
   ·intro m s2 hm hg2
    cases m with
    | zero=>exact absurd rfl hm
    | succ m=>
     simp only [aK] at hg2
     have key:∀(m:Nat) {c:K} {x:El c} {cs:List Value} {fo:List Nat} {d:Dat},Ow h own ok c x cs fo→aK m c x=some d→
       ∃off cs1 fE,bu m c=some (off,d.1)∧(cs.drop off).take d.1.size=cs1∧(∀b∈fE,b∈fo)∧Ow h own ok d.1 d.2 cs1 fE:=by
      intro m
      induction m with
      | zero=>
       intro c x cs fo d H hg
       cases c with
       | pair a b=>
        simp only [aK,afQ] at hg
        subst hg
        obtain ⟨c1,c2,f1,f2,rfl,hp,h1,h2⟩:=H
        exact ⟨0,c1,f1,rfl,by simp [←cO h1],fun b hb=>hp.mem_iff.2 (by simp [hb]),h1⟩
       | _=>simp [aK] at hg
      | succ m ih=>
       intro c x cs fo d H hg
       cases c with
       | pair a b=>
        simp only [aK] at hg
        obtain ⟨c1,c2,f1,f2,rfl,hp,h1,h2⟩:=H
        obtain ⟨off,cs1,fE,g1,g2,g3,g4⟩:=ih h2 hg
        refine ⟨a.size+off,cs1,fE,by simp [bu,g1], ?_,fun b hb=>hp.mem_iff.2 (by simp [g3 b hb]),g4⟩
        rw [←g2, ←cO h1, ←List.drop_drop]
        simp
       | _=>simp [aK] at hg
     obtain ⟨off2,cs2,RY,g1,g2,g3,g4⟩:=key m h2 hg2
     refine ⟨a.size+off2,cs2,RY,by simp [bu,g1], ?_,g4,g3, ?_, ?_⟩
     ·rw [e, ←g2, ←cO h1, ←List.drop_drop]; simp
     ·intro mF hl
      simp only at hl
      rw [←g2, ←hl, ←List.drop_drop]; simp
     ·intro t z hz
      simp only [cu,afQ] at hz
      subst hz
      exact hg2
  | _=>simp [aK] at hg
 | succ n ih=>
  intro c x cs fo d H hg
  cases c with
  | pair a b=>
   simp only [aK] at hg
   obtain ⟨c1,c2,f1,f2,e,hp,h1,h2⟩:=H
   obtain ⟨off,pre,cs1,post,fE,fr,ho,ec,hl,hp',hd,hu,hoth⟩:=ih h2 hg
   refine ⟨a.size+off,c1++pre,cs1,post,fE,f1++fr, ?_,by rw [e,ec]; simp,by simp [cO h1,hl], ?_,hd, ?_, ?_⟩
   ·simp [bu,ho]
   ·exact (hp.trans (List.Perm.append_left _ hp')).trans tV
   ·intro h' ok' t mF qK z hz ht hok hfr
    simp only [cu] at hz
    cases hz2:cu n b x.2 t with
    | none=>rw [hz2] at hz; simp at hz
    | some z2=>
     rw [hz2] at hz
     simp only [afQ] at hz
     subst hz
     have r2:=hu h' ok' t mF qK z2 hz2 ht hok (fun b hb=>hfr b (by simp [hb]))
     exact ⟨c1,pre++(mF++post),f1,qK++fr,by simp,tV,bq (fun b hb=>(hok b hb).2) (fun b hb=>(hok b hb).1) (fun b hb=>hfr b (by simp [hb])) h1,r2⟩
   ·intro m s2 hm hg2
    cases m with
    | zero=>
     simp only [aK,afQ] at hg2
     subst hg2
     refine ⟨0,c1,f1,rfl,by rw [e, ←cO h1]; simp,h1,fun b hb=>by simp [hb],fun mF _=>by rw [←cO h1]; simp, ?_⟩
     intro t z hz
     simp only [cu] at hz
     cases hz2:cu n b x.2 t with
     | none=>rw [hz2] at hz; simp at hz
     | some z2=>rw [hz2] at hz; simp only [afQ] at hz; subst hz; rfl
    | succ m=>
     simp only [aK] at hg2
     obtain ⟨off2,cs2,RY,g1,g2,g3,g4,g5,g6⟩:=hoth m s2 (by omega) hg2
     refine ⟨a.size+off2,cs2,RY,by simp [bu,g1], ?_,g3,fun b hb=>by simp [g4 b hb], ?_, ?_⟩
     ·rw [e, ←g2, ←cO h1, ←List.drop_drop]; simp
     ·intro mF hl'
      rw [←g5 mF hl', ←cO h1, ←List.drop_drop]; simp
     ·intro t z hz
      simp only [cu] at hz
      cases hz2:cu n b x.2 t with
      | none=>rw [hz2] at hz; simp at hz
      | some z2=>rw [hz2] at hz; simp only [afQ] at hz; subst hz; exact g6 t z2 hz2
  | _=>simp [aK] at hg
theorem I7:∀(n:Nat) {c:K} {x:El c} {s u y:Dat},aK n c x=some s→cu n c x u=some y→u.1.size=s.1.size→y.1.size=c.size:=by
 intro n
 induction n with
 | zero=>
  intro c x s u y h1 h2 e
  cases c with
  | pair a b=>simp only [aK,cu,afQ] at h1 h2; subst h1; subst h2; simp only at e; simp [K.size,e]
  | _=>simp [aK] at h1
 | succ n ih=>
  intro c x s u y h1 h2 e
  cases c with
  | pair a b=>
   simp only [aK,cu] at h1 h2
   cases h3:cu n b x.2 u with
   | none=>rw [h3] at h2; simp at h2
   | some y2=>rw [h3] at h2; simp only [afQ] at h2; subst h2; simp [K.size,ih h1 h3 e]
  | _=>simp [aK] at h1
theorem xQ:∀(n m:Nat) {c:K} {x:El c} {s u y:Dat} {off2:Nat} {k2:K},m≠n→aK n c x=some s→cu n c x u=some y→u.1.size=s.1.size→bu m c=some (off2,k2)→bu m y.1=some (off2,k2):=by
 intro n
 induction n with
 | zero=>
  intro m c x s u y off2 k2 hm h1 h2 e h3
  cases c with
  | pair a b=>
   simp only [aK,cu,afQ] at h1 h2
   subst h1; subst h2
   cases m with
   | zero=>exact absurd rfl hm
   | succ m=>simp only [bu] at h3 ⊢; simp only at e; rw [e]; exact h3
  | _=>simp [aK] at h1
 | succ n ih=>
  intro m c x s u y off2 k2 hm h1 h2 e h3
  cases c with
  | pair a b=>
   simp only [aK,cu] at h1 h2
   cases h4:cu n b x.2 u with
   | none=>rw [h4] at h2; simp at h2
   | some y2=>
    rw [h4] at h2
    simp only [afQ] at h2
    subst h2
    cases m with
    | zero=>simp only [bu] at h3 ⊢; exact h3
    | succ m=>
     simp only [bu] at h3 ⊢
     cases h5:bu m b with
     | none=>rw [h5] at h3; simp at h3
     | some q=>
      rw [h5] at h3
      rw [ih m (off2:=q.1) (k2:=q.2) (by omega) h1 h4 e (by rw [h5])]
      exact h3
  | _=>simp [aK] at h1
theorem mR {pre cs1 post:List Value} {off n:Nat} (h1:pre.length=off) (h2:cs1.length=n):((pre++(cs1++post)).drop off).take n=cs1:=by
 subst h1; subst h2; simp
theorem bZ {A:Type} {l:List A} {d:A} {i:Nat} (h:i<l.length):l.getD i d=l[i]:=by
 rw [af3,af4 h]; rfl
theorem Ed {bz:List (List Nat)} {i:Nat} (h:i<bz.length):bz.flatten.Perm (bz.getD i []++((bz.take i).flatten++(bz.drop (i+1)).flatten)):=by
 have e:bz=bz.take i++(bz.getD i [] :: bz.drop (i+1)):=by
  rw [bZ h, ←List.drop_eq_getElem_cons h,List.take_append_drop]
 have:bz.flatten=(bz.take i).flatten++(bz.getD i []++(bz.drop (i+1)).flatten):=by
  rw [congrArg List.flatten e]; simp
 rw [this]
 exact tV
theorem PE {bz:List (List Nat)} {i:Nat} (h:i<bz.length) (q:List Nat):(bz.set i q).flatten.Perm (q++((bz.take i).flatten++(bz.drop (i+1)).flatten)):=by
 have h':i<(bz.set i q).length:=by simpa using h
 have:=Ed h'
 rw [bZ h',List.getElem_set_self] at this
 simpa [List.take_set_of_le,List.drop_set_of_lt] using this
theorem bW:∀(n:Nat) {c:K} {x:El c} {s:Dat},aK n c x=some s→aa.Ae n c=some s.1:=by
 intro n
 induction n with
 | zero=>
  intro c x s e
  cases c with
  | pair a b=>simp only [aK,afQ] at e; subst e; rfl
  | _=>simp [aK] at e
 | succ n ih=>
  intro c x s e
  cases c with
  | pair a b=>simp only [aK] at e; exact ih e
  | _=>simp [aK] at e
theorem Cr {h h':Heap} {own:List TypeId} {ok:Nat→Prop}:∀(p:List Stp) {k:K} {x:El k} {cs:List Value} {fo:List Nat} {wh:Option (Nat×Nat)},
  Ow h own ok k x cs fo→kH p k x→(∀t∈aa p k,au t own=true)→(∀b∈fo,h' b=h b)→bE h' p k cs wh=bE h p k cs wh:=by
 intro p
 induction p with
 | nil=>intro k x cs fo wh _ _ _ _; rfl
 | cons s p ih=>
  intro k x cs fo wh H hin Fe hfo
  cases s with
  | fD n=>
   cases k with
   | st c=>
    simp only [kH] at hin
    cases hcg:aK n c x with
    | none=>rw [hcg] at hin; exact hin.elim
    | some s=>
     rw [hcg] at hin
     obtain ⟨off,pre,cs0,post,sS,fr,ho,ec,hl,hp,hd,_⟩:=AA n (show Ow h own ok c x cs fo from H) hcg
     have hpt:aa (.fD n :: p) (.st c)=aa p s.1:=by simp [aa,bW n hcg]
     rw [hpt] at Fe
     simp only [bE]
     rw [ho]
     simp only
     rw [ec,mR hl (cO hd)]
     exact ih hd hin Fe (fun b hb=>hfo b (hp.mem_iff.2 (afV _ hb)))
   | _=>simp [kH] at hin
  | idx i=>
   cases k with
   | sl e k=>
    simp only [kH] at hin
    obtain ⟨hi0,hi1,hin⟩:=hin
    have aco:i<((@List.length (El k) x:Nat):Int):=hi1
    have hlt:i.toNat < @List.length (El k) x:=by omega
    have eg:(show List (El k) from x).getD i.toNat k.zero=(show List (El k) from x)[i.toNat]'hlt:=bZ hlt
    rw [eg] at hin
    unfold Ow at H
    rw [if_pos (Fe e (by simp [aa]))] at H
    obtain ⟨a,n,c,e1,e2,e3,H⟩:=H
    have e2':n=@List.length (El k) x:=e2
    rcases H with ⟨h0,_⟩ | ⟨b,o,arr,lo,hi,ea,hb,hf,hs,bz,hfl,hp,H⟩
    ·omega
    ·obtain ⟨ds,hcd,hod⟩:=H i.toNat hlt
     have hbb:h' b=h b:=hfo b (hp.mem_iff.2 (by simp))
     have r1:=gM hcd
     have r2:=gM (hcd.congr hbb)
     rw [cO hod] at r1 r2
     subst e1
     subst ea
     simp only [bE]
     rw [r1,r2]
     exact ih hod hin (fun t ht=>Fe t (by simp [aa,ht])) (fun b' hb'=>hfo b' (hp.mem_iff.2 (by simp [ou hb'])))
   | _=>simp [kH] at hin
def Aw (h h':Heap) (own:List TypeId) (k:K) (x:El k) (cs:List Value) (wh:Option (Nat×Nat)) (z:Dat) (cs':List Value) (bad:List TypeId):Prop:=
 ∀q c0 w0,kH q k x→(∀t∈aa q k,au t own=true∧t∉bad)→bE h q k cs wh=some (c0,w0)→(aO q z.1 z.2).isSome=true→kH q z.1 z.2∧∃c1,bE h' q z.1 cs' wh=some (c1,w0)
structure Upd (h:Heap) (own:List TypeId) (ok:Nat→Prop) (p:List Stp) (k:K) (x:El k) (cs:List Value) (wh:Option (Nat×Nat)) (d:Dat) (rest:List Nat) (cs1:List Value) (kP:Option (Nat×Nat)):Prop where
 go:∀(h':Heap) (ok':Nat→Prop) (t:Dat) (mF:List Value) (qK:List Nat) (z:Dat),dR p k x t=some z→mF.length=d.1.size→Ow h' own ok' t.1 t.2 mF qK→
  (∀b,ok b→ok' b∧h' b=h b)→(∀b∈rest,kP.map (·.1)≠some b→h' b=h b)→
  (∀b o,kP=some (b,o)→Cells h' b o mF∧gu h h' b o d.1.size)→
  (kP=none→mF=cs1)→(∀b o,wh=some (b,o)→kP.map (·.1)≠some b→h' b=h b)→
  ∃cs',cs'.length=cs.length∧Ow h' own ok' z.1 z.2 cs' (qK++rest)∧(∀b o,wh=some (b,o)→Cells h' b o cs')∧(wh=none→cs'=cs)∧
   ∀bad,t.1.size=d.1.size→Aw h h' own d.1 d.2 cs1 kP t mF bad→(t.1=d.1→z.1=k)∧z.1.size=k.size∧Aw h h' own k x cs wh z cs' bad∧bE h' p z.1 cs' wh=some (mF,kP)
def Wp (h:Heap) (own:List TypeId) (ok:Nat→Prop) (p:List Stp) (k:K) (x:El k) (cs:List Value) (fo:List Nat) (wh:Option (Nat×Nat)) (d:Dat):Prop:=
 ∃cs1 fE rest kP,bE h p k cs wh=some (cs1,kP)∧fo.Perm (fE++rest)∧Ow h own ok d.1 d.2 cs1 fE∧(∀b o,kP=some (b,o)→Cells h b o cs1)∧
  (∀b o,kP=some (b,o)→(aa p k=[]∧∃o0,wh=some (b,o0)∧o0≤o∧o+d.1.size≤o0+k.size)∨
   (b∈rest∧∃arr e lo hi,h b=some (.cells arr e (lo,hi))∧yI arr.size lo hi∧(aa p k).getLast?=some e∧o+d.1.size≤arr.size))∧
  (kP=none→wh=none)∧Upd h own ok p k x cs wh d rest cs1 kP
theorem oq {wh:Option (Nat×Nat)} {off b o:Nat} (e:wh.map (fun q=>(q.1,q.2+off))=some (b,o)):∃o0,wh=some (b,o0)∧o=o0+off:=by
 cases wh with
 | none=>simp at e
 | some q=>
  simp only [Option.map_some,afQ,af1] at e
  exact ⟨q.2,by rw [←e.1],e.2.symm⟩
theorem QW {h:Heap} {own:List TypeId} {ok:Nat→Prop} {p:List Stp} {n:Nat} {c:K} {x:El c} {cs:List Value} {fo:List Nat} {wh:Option (Nat×Nat)} {s d:Dat}
  (H:Ow h own ok c x cs fo) (hc:∀b o,wh=some (b,o)→Cells h b o cs) (hcg:aK n c x=some s) (hnd:fo.Nodup) (hbase:∀b o,wh=some (b,o)→b∉fo)
  (ih:∀{cs0:List Value} {sS:List Nat} {Qh:Option (Nat×Nat)},Ow h own ok s.1 s.2 cs0 sS→(∀b o,Qh=some (b,o)→Cells h b o cs0)→sS.Nodup→(∀b o,Qh=some (b,o)→b∉sS)→Wp h own ok p s.1 s.2 cs0 sS Qh d) :
  Wp h own ok (.fD n :: p) (.st c) x cs fo wh d:=by
 obtain ⟨off,pre,cs0,post,sS,fr,ho,ec,hl,hp,hd,hu,hoth⟩:=AA n H hcg
 have hsz:=cO hd
 have hpt:aa (.fD n :: p) (.st c)=aa p s.1:=by simp [aa,bW n hcg]
 have hnd':(sS++fr).Nodup:=hp.nodup hnd
 have hsub:(cs.drop off).take s.1.size=cs0:=by rw [ec]; exact mR hl hsz
 have hlen:cs.length=c.size:=cO H
 have adH:off+s.1.size+post.length=c.size:=by rw [←hlen,ec]; simp [hl,hsz]; omega
 obtain ⟨cs1,fE,rest,kP,hn,hp1,hd1,hc1,hin1,hnone,hup⟩:=ih (Qh:=wh.map fun q=>(q.1,q.2+off)) hd
  (fun b o e=>by
   obtain ⟨o0,e1,rfl⟩:=oq e
   have:=hc b o0 e1
   rw [ec,Cells.append,Cells.append] at this
   rw [←hl]
   exact this.2.1) (afX.1 hnd').1
  (fun b o e hb=>by
   obtain ⟨o0,e1,rfl⟩:=oq e
   exact hbase b o0 e1 (hp.mem_iff.2 (afV _ hb)))
 have ach:∀b o,kP=some (b,o)→b∉fr:=by
  intro b o e hb
  rcases hin1 b o e with ⟨_,o0,ew,_⟩ | ⟨h1,_⟩
  ·obtain ⟨o1,e1,_⟩:=oq ew
   exact hbase b o1 e1 (hp.mem_iff.2 (afS _ hb))
  ·exact (afX.1 hnd').2.2 b (hp1.mem_iff.2 (afS _ h1)) b hb rfl
 refine ⟨cs1,fE,rest++fr,kP, ?_, ?_,hd1,hc1, ?_, ?_,⟨?_⟩⟩
 ·simp only [bE]
  rw [ho]
  simp only
  rw [hsub]
  exact hn
 ·rw [←agb]
  exact hp.trans (List.Perm.append_right _ hp1)
 ·intro b o e
  rw [hpt]
  rcases hin1 b o e with ⟨h0,o0,ew,h1,h2⟩ | ⟨h1,h2⟩
  ·obtain ⟨o1,e1,rfl⟩:=oq ew
   refine .inl ⟨h0,o1,e1,by omega, ?_⟩
   show o+d.1.size≤o1+c.size
   omega
  ·exact .inr ⟨afV _ h1,h2⟩
 ·intro e
  have:=hnone e
  cases wh with
  | none=>rfl
  | some q=>simp at this
 ·intro h' ok' t mF qK z hz hl' ht hok hrest hw hcs hb0
  simp only [dR,hcg] at hz
  cases hs:dR p s.1 s.2 t with
  | none=>rw [hs] at hz; simp at hz
  | some u=>
   rw [hs] at hz
   simp only at hz
   cases hcp:cu n c x u with
   | none=>rw [hcp] at hz; simp at hz
   | some y=>
    rw [hcp] at hz
    simp only [afQ] at hz
    subst hz
    obtain ⟨QJ,hl0,ho0,hc0,hn0,hnk⟩:=hup.go h' ok' t mF qK u hs hl' ht hok (fun b hb=>hrest b (afV _ hb)) hw hcs
     (fun b o e=>by
      obtain ⟨o0,e1,_⟩:=oq e
      exact hb0 b o0 e1)
    have hfr:∀b∈fr,h' b=h b:=by
     intro b hb
     refine hrest b (afS _ hb) ?_
     intro e
     cases uL:kP with
     | none=>rw [uL] at e; simp at e
     | some q=>
      rw [uL] at e
      simp only [Option.map_some,afQ] at e
      exact ach q.1 q.2 uL (e▸hb)
    have r:=hu h' ok' u QJ (qK++rest) y hcp ho0 hok hfr
    refine ⟨pre++(QJ++post),by rw [ec]; simp [hl0], ?_, ?_, ?_, ?_⟩
    ·have r':Ow h' own ok' y.1 y.2 (pre++(QJ++post)) (qK++(rest++fr)):=by
      rw [show qK++(rest++fr)=qK++rest++fr from (agb ..).symm]; exact r
     exact r'
    ·intro b o e
     have hwc:=hc b o e
     rw [ec,Cells.append,Cells.append] at hwc
     have hc0':=hc0 b (o+off) (by rw [e]; rfl)
     rw [Cells.append,Cells.append,hl0,hsz,hl]
     have UG:=hwc.2.2
     rw [hsz,hl] at UG
     by_cases hbw:kP.map (·.1)=some b
     ·cases uL:kP with
      | none=>rw [uL] at hbw; simp at hbw
      | some q=>
       rw [uL] at hbw
       simp only [Option.map_some,afQ] at hbw
       subst hbw
       have hsb:=(hw q.1 q.2 uL).2
       rcases hin1 q.1 q.2 uL with ⟨_,o0,ew,g1,g2⟩ | ⟨h1,_⟩
       ·rw [e] at ew
        simp only [Option.map_some,afQ,af1,true_and] at ew
        exact ⟨hsb.cells hwc.1 (.inl (by omega)),hc0',hsb.cells UG (.inr (by omega))⟩
       ·exact absurd (hp.mem_iff.2 (afV _ (hp1.mem_iff.2 (afS _ h1)))) (hbase q.1 o e)
     ·have hbb:=hb0 b o e hbw
      exact ⟨hwc.1.congr hbb,hc0',UG.congr hbb⟩
    ·intro e
     have:=hn0 (by rw [e]; rfl)
     rw [this,ec]
    ·intro bad hkind wD
     obtain ⟨n1,n3,n2,n4⟩:=hnk bad hkind wD
     refine ⟨fun e=>congrArg K.st (Bq n hcg hcp (n1 e)),(show y.1.size=c.size from I7 n hcg hcp n3), ?_,by
      show bE h' (.fD n :: p) (.st y.1) _ _=_
      simp only [bE]
      rw [uD n ho hcp]
      simp only
      rw [mR hl (cO ho0)]
      exact n4⟩
     intro q c0 w0 hq XN Dk Vf
     cases q with
     | nil=>
      simp only [bE,afQ,af1] at Dk ⊢
      exact ⟨trivial,_,rfl,Dk.2⟩
     | cons sq q=>
      cases sq with
      | idx i=>simp [kH] at hq
      | fD m=>
       simp only [kH] at hq
       cases hg2:aK m c x with
       | none=>rw [hg2] at hq; exact hq.elim
       | some s2=>
        rw [hg2] at hq
        have acJ:aa (.fD m :: q) (.st c)=aa q s2.1:=by simp [aa,bW m hg2]
        rw [acJ] at XN
        by_cases hmn:m=n
        ·subst hmn
         rw [hcg] at hg2
         simp only [afQ] at hg2
         subst hg2
         simp only [bE] at Dk
         rw [ho] at Dk
         simp only at Dk
         rw [hsub] at Dk
         obtain ⟨r1,c1,r2⟩:=n2 q c0 w0 hq XN Dk (by
          have:(aO (.fD m :: q) (.st y.1) y.2).isSome=true:=Vf
          simpa only [aO,tN m hcp] using this)
         refine ⟨?_,c1, ?_⟩
         ·show kH (.fD m :: q) (.st y.1) y.2
          simp only [kH,tN m hcp]
          exact r1
         ·show bE h' (.fD m :: q) (.st y.1) _ _=_
          simp only [bE]
          rw [uD m ho hcp]
          simp only
          rw [mR hl (cO ho0)]
          exact r2
        ·obtain ⟨off2,cs2,RY,g1,g2,g3,g4,g5,g6⟩:=hoth m s2 hmn hg2
         simp only [bE] at Dk
         rw [g1] at Dk
         simp only at Dk
         rw [g2] at Dk
         have g7:=g6 u y hcp
         refine ⟨?_,c0, ?_⟩
         ·show kH (.fD m :: q) (.st y.1) y.2
          simp only [kH,g7]
          exact hq
         ·show bE h' (.fD m :: q) (.st y.1) _ _=_
          simp only [bE]
          rw [xQ n m hmn hcg hcp n3 g1]
          simp only
          rw [g5 QJ (by rw [hl0,hsz]), ←Dk]
          exact Cr q g3 hq (fun t ht=>(XN t ht).1) (fun b hb=>hfr b (g4 b hb))
theorem QX {h:Heap} {own:List TypeId} {ok:Nat→Prop} {p:List Stp} {i:Int} {e:TypeId} {k:K} {xs:List (El k)} {cs:List Value} {fo:List Nat} {wh:Option (Nat×Nat)} {d:Dat}
  (H:Ow h own ok (.sl e k) xs cs fo) (hc:∀b o,wh=some (b,o)→Cells h b o cs) (hnd:fo.Nodup) (hbase:∀b o,wh=some (b,o)→b∉fo) (hmem:au e own=true) (hlt:i.toNat<xs.length)
  (ih:∀{cs0:List Value} {sS:List Nat} {Qh:Option (Nat×Nat)},Ow h own ok k xs[i.toNat] cs0 sS→(∀b o,Qh=some (b,o)→Cells h b o cs0)→sS.Nodup→(∀b o,Qh=some (b,o)→b∉sS)→Wp h own ok p k xs[i.toNat] cs0 sS Qh d) :
  Wp h own ok (.idx i :: p) (.sl e k) xs cs fo wh d:=by
 unfold Ow at H
 rw [if_pos hmem] at H
 obtain ⟨a,n,c,e1,e2,e3,H⟩:=H
 have e2':n=xs.length:=e2
 rcases H with ⟨h0,_⟩ | ⟨b,o,arr,lo,hi,ea,hb,hf,ab4,bz,hfl,hp,H⟩
 ·omega
 have ab5:bz.length=xs.length:=hfl
 obtain ⟨ds,hcd,hod⟩:=H i.toNat hlt
 have hnd':(b :: bz.flatten).Nodup:=hp.nodup hnd
 have hnb:b∉bz.flatten:=(agp.1 hnd').1
 have hpk:=Ed (bz:=bz) (i:=i.toNat) (by omega)
 have nK:=hpk.nodup (agp.1 hnd').2
 obtain ⟨cs1,fE,rest,kP,hn,hp1,hd1,hc1,hin1,hnone,hup⟩:=ih (Qh:=some (b,o+i.toNat * k.size)) hod
  (fun b' o' e'=>by
   simp only [afQ,af1] at e'
   obtain ⟨rfl,rfl⟩:=e'
   exact hcd) (afX.1 nK).1
  (fun b' o' e' hb'=>by
   simp only [afQ,af1] at e'
   obtain ⟨rfl,rfl⟩:=e'
   exact hnb (ou hb'))
 have hdl:ds.length=k.size:=cO hod
 have hwn:kP≠none:=fun e'=>by have:=hnone e'; simp at this
 generalize hR:(bz.take i.toNat).flatten++(bz.drop (i.toNat+1)).flatten=R at *
 have hcap:i.toNat * k.size+k.size≤c * k.size:=by
  have:(i.toNat+1) * k.size≤c * k.size:=agm _ (by omega)
  rw [Nat.add_mul,Nat.one_mul] at this
  exact this
 refine ⟨cs1,fE,b :: (rest++R),kP, ?_, ?_,hd1,hc1, ?_,fun e'=>absurd e' hwn,⟨?_⟩⟩
 ·subst e1
  subst ea
  simp only [bE]
  have:mP h b (o+i.toNat * k.size) k.size=ds:=by
   have:=gM hcd
   rwa [hdl] at this
  rw [this]
  exact hn
 ·refine (hp.trans (.cons b (hpk.trans (List.Perm.append_right _ hp1)))).trans ?_
  rw [agb]
  exact List.perm_middle.symm
 ·intro b' o' e'
  rcases hin1 b' o' e' with ⟨hz,o0,ew,h1,h2⟩ | ⟨h1,jG,e'',lo',hi',g1,g2,g3,g4⟩
  ·simp only [afQ,af1] at ew
   obtain ⟨rfl,rfl⟩:=ew
   exact .inr ⟨agn,arr,e,lo,hi,hb,hf,by simp [aa,hz],by omega⟩
  ·refine .inr ⟨by simp [h1],jG,e'',lo',hi',g1,g2, ?_,g4⟩
   simp only [aa,List.getLast?_cons,g3,Option.getD_some]
 ·intro h' ok' t mF qK z hz hl' ht hok hrest hw hcs hb0
  simp only [dR] at hz
  rw [bZ hlt] at hz
  cases hs:dR p k xs[i.toNat] t with
  | none=>rw [hs] at hz; simp at hz
  | some u=>
   rw [hs] at hz
   simp only at hz
   cases hck:bR u.1 k u.2 with
   | none=>rw [hck] at hz; simp at hz
   | some y=>
    rw [hck] at hz
    simp only [afQ] at hz
    subst hz
    obtain ⟨uk,ux⟩:=u
    unfold bR at hck
    split at hck
    case isFalse=>simp at hck
    rename_i hbq
    have hk:=K.eq_of_beq hbq
    simp only at hk
    subst hk
    simp only [afQ] at hck
    subst hck
    have hwb:∀q,kP=some q→q.1∉R:=by
     intro q hq hqR
     rcases hin1 q.1 q.2 hq with ⟨_,o0,ew,_⟩ | ⟨h1,_⟩
     ·simp only [afQ,af1] at ew
      exact hnb (hpk.mem_iff.2 (afS _ (ew.1▸hqR)))
     ·exact (afX.1 nK).2.2 q.1 (hp1.mem_iff.2 (afS _ h1)) q.1 hqR rfl
    obtain ⟨ds',hl0,ho0,hc0,_,hnk⟩:=hup.go h' ok' t mF qK ⟨uk,ux⟩ hs hl' ht hok (fun b' hb'=>hrest b' (by simp [hb'])) hw hcs
     (fun b' o' e' hne=>by
      simp only [afQ,af1] at e'
      obtain ⟨rfl,rfl⟩:=e'
      exact hrest b agn hne)
    have Ue:∀b'∈R,h' b'=h b':=by
     intro b' hb'
     refine hrest b' (by simp [hb']) ?_
     intro e'
     cases uL:kP with
     | none=>exact absurd uL hwn
     | some q=>
      rw [uL] at e'
      simp only [Option.map_some,afQ] at e'
      exact hwb q uL (e'▸hb')
    have hblk:∃jG,h' b=some (.cells jG e (lo,hi))∧jG.size=arr.size∧∀j,¬(o+i.toNat * uk.size≤j∧j<o+i.toNat * uk.size+uk.size)→jG[j]?=arr[j]?:=by
     by_cases hbw:kP.map (·.1)=some b
     ·cases uL:kP with
      | none=>exact absurd uL hwn
      | some q=>
       rw [uL] at hbw
       simp only [Option.map_some,afQ] at hbw
       obtain ⟨a1,a2,te,fr,g1,g2,g3,g4⟩:=(hw q.1 q.2 uL).2
       rw [hbw] at g1 g2
       rw [hb] at g1
       simp only [afQ,Obj.cells.injEq] at g1
       obtain ⟨rfl,rfl,rfl⟩:=g1
       rcases hin1 q.1 q.2 uL with ⟨_,o0,ew,h1,h2⟩ | ⟨h1,_⟩
       ·simp only [afQ,af1] at ew
        refine ⟨a2,g2,g3,fun j hj=>g4 j ?_⟩
        intro hj2
        exact hj (by omega)
       ·exact absurd (hpk.mem_iff.2 (afV _ (hp1.mem_iff.2 (afS _ (hbw▸h1))))) hnb
     ·have:=hrest b agn hbw
      exact ⟨arr,this.trans hb,rfl,fun _ _=>rfl⟩
    obtain ⟨jG,hb',hsz',hsame⟩:=hblk
    have hmul:∀a b:Nat,a<b→a * uk.size+uk.size≤b * uk.size:=by
     intro a b hab
     have:(a+1) * uk.size≤b * uk.size:=agm _ (by omega)
     rwa [Nat.add_mul,Nat.one_mul] at this
    have KE:∀(j:Nat) (dj:List Value),j≠i.toNat→dj.length=uk.size→Cells h b (o+j * uk.size) dj→Cells h' b (o+j * uk.size) dj:=by
     intro j dj hji hjl h1 q hq
     have:=h1 q hq
     unfold cellAt at this ⊢
     rw [hb] at this
     rw [hb']
     simp only at this ⊢
     rw [hsame _ (by
      rcases Nat.lt_or_gt_of_ne hji with hlt' | XC
      ·have:=hmul j i.toNat hlt'; omega
      ·have:=hmul i.toNat j XC; omega)]
     exact this
    have KF:∀j,j≠i.toNat→∀q∈bz.getD j [],h' q=h q:=by
     intro j hji q hq
     refine Ue q ?_
     rw [←hR]
     by_cases hjf:j<bz.length
     ·rw [af3,af4 hjf] at hq
      simp only [Option.getD_some] at hq
      rcases Nat.lt_or_gt_of_ne hji with hlt' | XC
      ·exact afV _ (List.mem_flatten.2 ⟨bz[j],List.mem_take_iff_getElem.2 ⟨j,by omega,rfl⟩,hq⟩)
      ·refine afS _ (List.mem_flatten.2 ⟨bz[j],List.mem_drop_iff_getElem.2 ⟨j - (i.toNat+1),by omega, ?_⟩,hq⟩)
       congr 1
       omega
     ·rw [af3,List.getElem?_eq_none (by omega)] at hq
      simp at hq
    refine ⟨cs,rfl, ?_, ?_,fun _=>rfl, ?_⟩
    ·unfold Ow
     rw [if_pos hmem]
     refine ⟨a,n,c,e1,by rw [e2']; simp,e3, .inr ⟨b,o,jG,lo,hi,ea,hb',by rw [hsz']; exact hf,by rw [hsz']; exact ab4,bz.set i.toNat (qK++rest),by simp [ab5], ?_, ?_⟩⟩
     ·have:=PE (bz:=bz) (i:=i.toNat) (by omega) (qK++rest)
      rw [hR,agb] at this
      exact (List.perm_middle.trans (.cons b this.symm))
     ·intro j hj
      have hj':j<xs.length:=by simpa using hj
      by_cases hji:j=i.toNat
      ·subst hji
       refine ⟨ds',hc0 b _ rfl, ?_⟩
       have e1:(xs.set i.toNat ux)[i.toNat]'(by simpa using hj')=ux:=by simp
       have e2:(bz.set i.toNat (qK++rest)).getD i.toNat []=qK++rest:=by
        rw [bZ (by simp; omega)]; simp
       rw [e2]
       show Ow h' own ok' uk ((xs.set i.toNat ux)[i.toNat]'(by simpa using hj')) ds' _
       rw [e1]
       exact ho0
      ·obtain ⟨dj,h1,h2⟩:=H j hj'
       have hjl:dj.length=uk.size:=cO h2
       refine ⟨dj,KE j dj hji hjl h1, ?_⟩
       have e1:(xs.set i.toNat ux)[j]'(by simpa using hj')=xs[j]:=by
        rw [List.getElem_set_ne (by omega)]
       have e2:(bz.set i.toNat (qK++rest)).getD j []=bz.getD j []:=by
        rw [af3,af3,List.getElem?_set_ne (by omega)]
       rw [e2]
       show Ow h' own ok' uk ((xs.set i.toNat ux)[j]'(by simpa using hj')) dj _
       rw [e1]
       exact bq (fun b hb=>(hok b hb).2) (fun b hb=>(hok b hb).1) (KF j hji) h2
    ·intro b' o' e'
     have hcb:=hc b' o' e'
     by_cases hbw:kP.map (·.1)=some b'
     ·cases uL:kP with
      | none=>exact absurd uL hwn
      | some q=>
       rw [uL] at hbw
       simp only [Option.map_some,afQ] at hbw
       have hbf:=hbase b' o' e'
       rcases hin1 q.1 q.2 uL with ⟨_,o0,ew,_⟩ | ⟨h1,_⟩
       ·simp only [afQ,af1] at ew
        exact absurd (hp.mem_iff.2 (by rw [←hbw, ←ew.1]; exact agn)) hbf
       ·exact absurd (hp.mem_iff.2 (age _ (hpk.mem_iff.2 (afV _ (hp1.mem_iff.2 (afS _ (hbw▸h1))))))) hbf
     ·exact hcb.congr (hb0 b' o' e' hbw)
    ·intro bad hkind wD
     obtain ⟨_,_,n2,n4⟩:=hnk bad hkind wD
     refine ⟨fun _=>rfl,rfl, ?_,by
      subst e1
      subst ea
      simp only [bE]
      have hr':mP h' b (o+i.toNat * uk.size) uk.size=ds':=by
       have:=gM (hc0 b _ rfl)
       rwa [hl0,hdl] at this
      rw [hr']
      exact n4⟩
     intro q c0 w0 hq XN Dk Vf
     cases q with
     | nil=>exact ⟨trivial,_,by rw [←(show (cs,wh)=(c0,w0) from by simpa [bE] using Dk)]; rfl⟩
     | cons sq q=>
      cases sq with
      | fD m=>simp [kH] at hq
      | idx j=>
       simp only [kH] at hq
       obtain ⟨hj0,hj1,hq⟩:=hq
       have acs:j<(xs.length:Int):=hj1
       have hjl:j.toNat<xs.length:=by omega
       have ejx:(show List (El uk) from xs).getD j.toNat uk.zero=xs[j.toNat]:=bZ hjl
       rw [ejx] at hq
       subst e1
       subst ea
       simp only [bE] at Dk
       have XO:∀t∈aa q uk,au t own=true∧t∉bad:=fun t ht=>XN t (by simp [aa,ht])
       have hln:j<((xs.set i.toNat ux).length:Int):=by simpa using acs
       by_cases hji:j.toNat=i.toNat
       ·have hr:mP h b (o+j.toNat * uk.size) uk.size=ds:=by
         rw [hji]
         have:=gM hcd
         rwa [hdl] at this
        rw [hr,hji] at Dk
        have hq':kH q uk xs[i.toNat]:=by
         have:xs[j.toNat]=xs[i.toNat]:=by congr 1
         rw [←this]; exact hq
        obtain ⟨r1,c1,r2⟩:=n2 q c0 w0 hq' XO Dk (by
         have:(aO (.idx j :: q) (.sl e uk) (xs.set i.toNat ux)).isSome=true:=Vf
         simp only [aO] at this
         have e3:(show List (El uk) from xs.set i.toNat ux).getD j.toNat uk.zero=ux:=by
          rw [hji,bZ (by simpa using hlt)]; simp
         rw [e3] at this
         exact this)
        refine ⟨⟨hj0,hln, ?_⟩,c1, ?_⟩
        ·have:(show List (El uk) from xs.set i.toNat ux).getD j.toNat uk.zero=ux:=by
          rw [hji,bZ (by simpa using hlt)]; simp
         rw [this]
         exact r1
        ·simp only [bE]
         have hr':mP h' b (o+j.toNat * uk.size) uk.size=ds':=by
          rw [hji]
          have:=gM (hc0 b _ rfl)
          rwa [hl0,hdl] at this
         rw [hr',hji]
         exact r2
       ·obtain ⟨dj,h1,h2⟩:=H j.toNat hjl
        have Uq:dj.length=uk.size:=cO h2
        have hr:mP h b (o+j.toNat * uk.size) uk.size=dj:=by
         have:=gM h1
         rwa [Uq] at this
        have hr':mP h' b (o+j.toNat * uk.size) uk.size=dj:=by
         have:=gM (KE j.toNat dj hji Uq h1)
         rwa [Uq] at this
        rw [hr] at Dk
        refine ⟨⟨hj0,hln, ?_⟩,c0, ?_⟩
        ·have:(show List (El uk) from xs.set i.toNat ux).getD j.toNat uk.zero=xs[j.toNat]:=by
          rw [bZ (by simpa using hjl),List.getElem_set_ne (by omega)]
         rw [this]
         exact hq
        ·simp only [bE]
         rw [hr', ←Dk]
         exact Cr q h2 hq (fun t ht=>(XO t ht).1) (KF j.toNat hji)
theorem focus {h:Heap} {own:List TypeId} {ok:Nat→Prop}:∀(p:List Stp) {k:K} {x:El k} {cs:List Value} {fo:List Nat} {wh:Option (Nat×Nat)} {d:Dat},
  Ow h own ok k x cs fo→(∀b o,wh=some (b,o)→Cells h b o cs)→aO p k x=some d→kH p k x→(∀t∈aa p k,au t own=true)→fo.Nodup→(∀b o,wh=some (b,o)→b∉fo)→
   Wp h own ok p k x cs fo wh d:=by
 intro p
 induction p with
 | nil=>
  intro k x cs fo wh d H hc hg _ _ _ _
  simp only [aO,afQ] at hg
  subst hg
  refine ⟨cs,fo,[],wh,rfl,by simp,H,hc,fun b o e=>.inl ⟨rfl,o,e,af6 _,af6 _⟩,id,⟨?_⟩⟩
  intro h' ok' t mF qK z hz hl ht _ _ hw hn _
  simp only [dR,afQ] at hz
  subst hz
  exact ⟨mF,by rw [hl,cO H],by simpa using ht,fun b o e=>(hw b o e).1,hn,fun bad hk wD=>⟨id,hk,wD,rfl⟩⟩
 | cons s p ih=>
  intro k x cs fo wh d H hc hg hin Fe hnd hbase
  cases s with
  | fD n=>
   cases k with
   | st c=>
    simp only [aO] at hg
    cases hcg:aK n c x with
    | none=>rw [hcg] at hg; simp at hg
    | some s=>
     rw [hcg] at hg
     simp only at hg
     simp only [kH,hcg] at hin
     have hpt:aa (.fD n :: p) (.st c)=aa p s.1:=by simp [aa,bW n hcg]
     rw [hpt] at Fe
     exact QW (show Ow h own ok c x cs fo from H) hc hcg hnd hbase (fun H0 hc0 oI hb0=>ih H0 hc0 hg hin Fe oI hb0)
   | _=>simp [aO] at hg
  | idx i=>
   cases k with
   | sl e k=>
    simp only [aO] at hg
    simp only [kH] at hin
    obtain ⟨hi0,hi1,hin⟩:=hin
    have aco:i<((@List.length (El k) x:Nat):Int):=hi1
    have hlt:i.toNat < @List.length (El k) x:=by omega
    have eg:(show List (El k) from x).getD i.toNat k.zero=(show List (El k) from x)[i.toNat]'hlt:=bZ hlt
    rw [eg] at hin hg
    exact QX (xs:=x) H hc hnd hbase (Fe e (by simp [aa])) hlt (fun H0 hc0 oI hb0=>ih H0 hc0 hg hin (fun t ht=>Fe t (by simp [aa,ht])) oI hb0)
   | _=>simp [aO] at hg
end
section
open Go
variable [Fr]
def Prog.ends {α:Type}:Prog α→St→α→Prop
 | .ret a,_,x=>x=a
 | .fail,_,_=>False
 | .slot n k,σ,x=>(k (σ.slots n)).ends σ x
 | .root r k,σ,x=>(k (σ.roots r)).ends σ x
 | .qB c _ k,σ,x=>c∧k.ends σ x
 | .br c t e,σ,x=>(c=true∧t.ends σ x)∨(c=false∧e.ends σ x)
 | .opt _ o k,σ,x=>∃b,o=some b∧(k b).ends σ x
theorem rM {α R:Type} (p:Prog α) {σ:St} {K:α→Option R} {r:R} (h:p.run σ K=some r):∃x,p.ends σ x∧K x=some r:=by
 induction p with
 | ret a=>exact ⟨a,rfl,h⟩
 | fail=>simp [Prog.run] at h
 | slot n k ih=>exact ih _ h
 | root n k ih=>exact ih _ h
 | qB c d k ih=>
  simp only [Prog.run] at h
  split at h
  ·rename_i hc
   obtain ⟨x,h1,h2⟩:=ih h
   exact ⟨x,⟨hc,h1⟩,h2⟩
  ·simp at h
 | br c t e JD JC=>
  simp only [Prog.run] at h
  split at h
  ·rename_i hc
   obtain ⟨x,h1,h2⟩:=JD h
   exact ⟨x, .inl ⟨hc,h1⟩,h2⟩
  ·rename_i hc
   obtain ⟨x,h1,h2⟩:=JC h
   exact ⟨x, .inr ⟨by simpa using hc,h1⟩,h2⟩
 | opt β o k ih=>
  simp only [Prog.run] at h
  cases ho:o with
  | none=>rw [ho] at h; simp at h
  | some b=>
   rw [ho] at h
   obtain ⟨x,h1,h2⟩:=ih b h
   exact ⟨x,⟨b,rfl,h1⟩,h2⟩
def bK:K→List Value
 | .int ik=>[.int ik 0]
 | .bool=>[.bool false]
 | .str=>[.string ByteArray.empty]
 | .sl _ _=>[.slice none 0 0]
 | .id _=>[.slice none 0 0]
 | .unit=>[]
 | .pair a b=>bK a++bK b
 | .st f=>bK f
 | .gap _=>[]
def oJ:K→Value
 | .st f=>.agg (bK f).toArray
 | .int ik=>.int ik 0
 | .bool=>.bool false
 | .str=>.string ByteArray.empty
 | .sl _ _=>.slice none 0 0
 | .id _=>.slice none 0 0
 | _=>undef
def oM (P:Program) (t:TypeId) (k:K):Prop:=∃i,P.info? t=some i∧i.size=k.size∧i.zero=some (oJ k)
def iW (P:Program) (T:iD):K→(TypeId→Prop)×(List Field→Nat→Prop)
 | .int ik=>(fun t=>P.underlying t=some (.int ik)∧oM P t (.int ik),fun _ _=>False)
 | .bool=>(fun t=>P.underlying t=some .bool∧oM P t .bool,fun _ _=>False)
 | .str=>(fun t=>P.underlying t=some .string∧oM P t .str,fun _ _=>False)
 | .sl e k=>(fun t=>P.underlying t=some (.slice e)∧oM P t (.sl e k)∧(iW P T k).1 e∧0<k.size∧∃i,P.info? e=some i∧i.bytes=T.bytes e∧0<i.bytes,fun _ _=>False)
 | .unit=>(fun _=>False,fun fs _=>fs=[])
 | .pair a b=>(fun _=>False,fun fs off=>match fs with
  | []=>False
  | f :: fs=>f.offset=off∧(iW P T a).1 f.type∧0<a.size∧(iW P T b).2 fs (off+a.size))
 | .st c=>(fun t=>(∃fs,P.underlying t=some (.struct fs)∧(iW P T c).2 fs.toList 0)∧oM P t (.st c),fun _ _=>False)
 | .gap _=>(fun _=>False,fun _ _=>False)
 | .id e=>(fun t=>P.underlying t=some (.slice e)∧oM P t (.id e)∧T.ids=true,fun _ _=>False)
def fB (P:Program) (T:iD) (t:TypeId) (k:K):Prop:=(iW P T k).1 t
structure dU (P:Program) (T:iD):Prop where
 ty:∀t k,T.ty t=some k→fB P T t k
 ptr:∀t,T.ptr t=true→∃e,P.underlying t=some (.pointer e)
theorem fB.info {P:Program} {T:iD} {t:TypeId} {k:K} (h:fB P T t k):oM P t k:=by
 unfold fB iW at h
 cases k with
 | int ik=>exact h.2
 | bool=>exact h.2
 | id e=>exact h.2.1
 | str=>exact h.2
 | sl e k=>exact h.2.1
 | unit=>exact h.elim
 | pair a b=>exact h.elim
 | st c=>exact h.2
 | gap n=>exact h.elim
def VC (k:K) (v:Value) (cs:List Value):Prop:=match k with
 | .st _=>v=.agg cs.toArray
 | _=>cs=[v]∧∀x,v≠.agg x
theorem VC.cells {k:K} {v:Value} {cs:List Value} (h:VC k v cs):v.cells.toList=cs:=by
 unfold VC at h
 split at h
 ·subst h; simp [Value.cells]
 ·obtain ⟨rfl,hn⟩:=h
  cases v <;> first | rfl | (exact absurd rfl (hn _))
def qa:K→Bool
 | .st _=>true
 | _=>false
theorem fB.isAgg {P:Program} {T:iD} {t:TypeId} {k:K} (h:fB P T t k) (w:World):(Go.isAgg t).run P w=.ok (qa k) w:=by
 unfold fB iW at h
 cases k with
 | int ik=>simp [Go.isAgg,run_underlying h.1,qa]
 | bool=>simp [Go.isAgg,run_underlying h.1,qa]
 | id e=>simp [Go.isAgg,run_underlying h.1,qa]
 | str=>simp [Go.isAgg,run_underlying h.1,qa]
 | sl e k=>simp [Go.isAgg,run_underlying h.1,qa]
 | unit=>exact h.elim
 | pair a b=>exact h.elim
 | st c=>obtain ⟨⟨fs,h1,_⟩,_⟩:=h; simp [Go.isAgg,run_underlying h1,qa]
 | gap n=>exact h.elim
theorem oM.sizeOf {P:Program} {t:TypeId} {k:K} (h:oM P t k) (w:World):(Go.sizeOf t).run P w=.ok k.size w:=by
 obtain ⟨i,h1,h2,_⟩:=h
 simp [Go.sizeOf,run_typeInfo w h1,h2]
theorem oM.zero {P:Program} {t:TypeId} {k:K} (h:oM P t k) (w:World):(Go.zeroValue t).run P w=.ok (oJ k) w:=by
 obtain ⟨i,h1,_,h3⟩:=h
 simp [Go.zeroValue,run_typeInfo w h1,h3]
theorem addr_add (b o n:Nat):(⟨b,o,none⟩:Addr).add n=⟨b,o+n,none⟩:=by unfold Addr.add; split <;> simp_all
theorem pq {P:Program} {T:iD} {t:TypeId} {k:K} {w:World} {b o:Nat} {cs:List Value} {v:Value} (h:fB P T t k) (hc:Cells (hp w) b o cs) (hl:cs.length=k.size) (hv:VC k v cs) :
  (Instr.loadAt t (.pointer (some ⟨b,o,none⟩))).run P w=.ok v w:=by
 have hcell:∀j u,cs[j]?=some u→w.cell? ((⟨b,o,none⟩:Addr).add j)=some u:=by
  intro j u hj
  rw [addr_add,uB,hc j (List.getElem?_eq_some_iff.1 hj).1]
  exact hj
 unfold Instr.loadAt Instr.sureAddr loadVar
 simp only [agf,agl,Result.andThen,h.isAgg w]
 cases k with
 | st c=>
  have e:v=.agg cs.toArray:=hv
  have h2:=run_loadCells_list (P:=P) w ⟨b,o,none⟩ cs hcell
  rw [hl] at h2
  simp [qa,h.info.sizeOf w,h2,Result.andThen,e]
 | unit=>exact (show False from h).elim
 | pair a b=>exact (show False from h).elim
 | gap n=>exact (show False from h).elim
 | int ik=>
  obtain ⟨e,_⟩:cs=[v]∧_:=hv
  have:=hcell 0 v (by rw [e]; rfl)
  rw [addr_add,Nat.add_zero] at this
  simp [qa,this]
 | bool=>
  obtain ⟨e,_⟩:cs=[v]∧_:=hv
  have:=hcell 0 v (by rw [e]; rfl)
  rw [addr_add,Nat.add_zero] at this
  simp [qa,this]
 | id e=>
  obtain ⟨e,_⟩:cs=[v]∧_:=hv
  have:=hcell 0 v (by rw [e]; rfl)
  rw [addr_add,Nat.add_zero] at this
  simp [qa,this]
 | str=>
  obtain ⟨e,_⟩:cs=[v]∧_:=hv
  have:=hcell 0 v (by rw [e]; rfl)
  rw [addr_add,Nat.add_zero] at this
  simp [qa,this]
 | sl e k=>
  obtain ⟨e,_⟩:cs=[v]∧_:=hv
  have:=hcell 0 v (by rw [e]; rfl)
  rw [addr_add,Nat.add_zero] at this
  simp [qa,this]
def eF:K→Bool
 | .gap _=>false
 | .pair a b=>eF a && eF b
 | .st f=>eF f
 | _=>true
theorem iW.eF {P:Program} {T:iD}:∀{k:K},(∀t,(iW P T k).1 t→Ow.eF k=true)∧(∀fs off,(iW P T k).2 fs off→Ow.eF k=true):=by
 intro k
 induction k with
 | int ik=>exact ⟨fun _ _=>rfl,fun _ _ h=>h.elim⟩
 | bool=>exact ⟨fun _ _=>rfl,fun _ _ h=>h.elim⟩
 | id e=>exact ⟨fun _ _=>rfl,fun _ _ h=>h.elim⟩
 | str=>exact ⟨fun _ _=>rfl,fun _ _ h=>h.elim⟩
 | sl e k ih=>exact ⟨fun _ _=>rfl,fun _ _ h=>h.elim⟩
 | unit=>exact ⟨fun _ h=>h.elim,fun _ _ _=>rfl⟩
 | pair a b iha ihb=>
  refine ⟨fun _ h=>h.elim,fun fs off h=>?_⟩
  cases fs with
  | nil=>exact h.elim
  | cons f fs=>simp [Ow.eF,iha.1 _ h.2.1,ihb.2 _ _ h.2.2.2]
 | st f ih=>exact ⟨fun t h=>by obtain ⟨⟨fs,_,h⟩,_⟩:=h; exact ih.2 _ _ h,fun _ _ h=>h.elim⟩
 | gap n=>exact ⟨fun _ h=>h.elim,fun _ _ h=>h.elim⟩
theorem fB.eF {P:Program} {T:iD} {t:TypeId} {k:K} (h:fB P T t k):Ow.eF k=true:=iW.eF.1 t h
theorem EE {h:Heap} {ok:Nat→Prop}:∀{k:K} {x:El k} {cs:List Value},eF k=true→Vw h ok k x cs→∀v∈cs,v.oneCell'=true:=by
 intro k
 induction k with
 | int ik=>intro x cs _ H v hv; rw [H.1] at hv; simp at hv; subst hv; rfl
 | bool=>intro x cs _ H v hv; rw [show cs=_ from H] at hv; simp at hv; subst hv; rfl
 | id e=>intro x cs _ H v hv; rw [show cs=_ from H] at hv; simp only [af9] at hv; subst hv; obtain ⟨a,n,c,h⟩:=Fr.X7 x; rw [h]; rfl
 | str=>intro x cs _ H v hv; obtain ⟨B,rfl,_⟩:=H; simp at hv; subst hv; rfl
 | sl e k ih=>intro x cs _ H v hv; obtain ⟨a,n,c,rfl,_⟩:=H; simp at hv; subst hv; rfl
 | unit=>intro x cs _ H v hv; rw [show cs=_ from H] at hv; simp at hv
 | pair a b iha ihb=>
  intro x cs hg H v hv
  simp [eF] at hg
  obtain ⟨c1,c2,rfl,h1,h2⟩:=H
  rcases afZ.1 hv with h | h
  ·exact iha hg.1 h1 v h
  ·exact ihb hg.2 h2 v h
 | st f ih=>intro x cs hg H; exact ih (x:=x) hg H
 | gap n=>intro x cs hg; simp [eF] at hg
theorem IJ {h:Heap} {own:List TypeId} {ok:Nat→Prop} {k:K} {x:El k} {cs:List Value} {fo:List Nat} (hg:eF k=true) (H:Ow h own ok k x cs fo):∀v∈cs,v.oneCell'=true:=
 EE hg (jJ (fun _=>True) (fun _ _=>trivial) (fun _ _=>trivial) H)
theorem VC.mk {h:Heap} {ok:Nat→Prop} {k:K} {x:El k} {cs:List Value} (hk:∀a b,k≠.pair a b) (hu:k≠.unit) (hg:∀n,k≠.gap n) (H:Vw h ok k x cs):∃v,VC k v cs:=by
 cases k with
 | int ik=>exact ⟨.int ik x,H.1,by simp⟩
 | bool=>exact ⟨.bool x,H,by simp⟩
 | id e=>obtain ⟨a,n,c,h⟩:=Fr.X7 x; exact ⟨Fr.iq x,H,by rw [h]; simp⟩
 | str=>obtain ⟨B,e,_⟩:=H; exact ⟨.string B,e,by simp⟩
 | sl e k=>obtain ⟨a,n,c,e,_⟩:=H; exact ⟨.slice a n c,e,by simp⟩
 | unit=>exact absurd rfl hu
 | pair a b=>exact absurd rfl (hk a b)
 | st c=>exact ⟨.agg cs.toArray,rfl⟩
 | gap n=>exact absurd rfl (hg n)
theorem GX (w:World) (o:Obj) (b:Nat):hp (w.alloc o) b=if b=w.heap.size then some o else hp w b:=by
 show (w.heap.push o)[b]?=_
 rw [Array.getElem?_push]
 rfl
theorem mg (w:World) (o:Obj) {b:Nat} (h:b<w.heap.size):hp (w.alloc o) b=hp w b:=by
 rw [GX,if_neg (by omega)]
theorem oh (w:World) (o:Obj):hp (w.alloc o) w.heap.size=some o:=by
 rw [GX,if_pos rfl]
theorem zm (w:World) (b o:Nat) (v:Value) {b':Nat} (h:b'≠b):hp (w.setCell ⟨b,o,none⟩ v) b'=hp w b':=by
 simp only [hp,World.setCell,Array.getElem?_modify]
 rw [if_neg (by omega)]
theorem Aq (w:World) (b o:Nat) (v:Value) {arr:Array Value} {e:TypeId} {fr:Nat×Nat} (h:hp w b=some (.cells arr e fr)) :
  hp (w.setCell ⟨b,o,none⟩ v) b=some (.cells (arr.setIfInBounds o v) e fr):=by
 have h':w.heap[b]?=some (.cells arr e fr):=h
 simp [hp,World.setCell,Array.getElem?_modify,h']
theorem qd (b:Nat):∀(vs:List Value) (w:World) (arr:Array Value) (e:TypeId) (fr:Nat×Nat) (o:Nat),hp w b=some (.cells arr e fr)→o+vs.length≤arr.size→
  (∀b',b'≠b→hp (w.setCells b o vs) b'=hp w b')∧(w.setCells b o vs).heap.size=w.heap.size∧
  ∃jG,hp (w.setCells b o vs) b=some (.cells jG e fr)∧jG.size=arr.size∧(∀i,i<vs.length→jG[o+i]?=vs[i]?)∧∀i,¬(o≤i∧i<o+vs.length)→jG[i]?=arr[i]?:=by
 intro vs
 induction vs with
 | nil=>intro w arr e fr o hb _; exact ⟨fun _ _=>rfl,rfl,arr,hb,rfl,fun i hi=>by simp at hi,fun _ _=>rfl⟩
 | cons v vs ih=>
  intro w arr e fr o hb hl
  simp only [agd] at hl
  have h1:=Aq w b o v hb
  obtain ⟨g1,g2,jG,g3,g4,g5,g6⟩:=ih (w.setCell ⟨b,o,none⟩ v) _ e fr (o+1) h1 (by simp; omega)
  refine ⟨fun b' hb'=>(g1 b' hb').trans (zm w b o v hb'),by rw [World.setCells,g2]; simp [World.setCell],jG,g3,by rw [g4]; simp, ?_, ?_⟩
  ·intro i hi
   simp only [agd] at hi
   cases i with
   | zero=>
    rw [g6 _ (by omega)]
    simp only [Nat.add_zero,List.getElem?_cons_zero]
    rw [Array.getElem?_setIfInBounds_self_of_lt (by omega)]
   | succ i=>
    rw [show o+(i+1)=o+1+i from by omega,g5 i (by omega)]
    simp
  ·intro i hi
   simp only [agd] at hi
   rw [g6 i (by omega),Array.getElem?_setIfInBounds_ne (by omega)]
theorem mQ (b:Nat):∀(vs:List Value) (w:World) (o:Nat),(w.setCells b o vs).os=w.os∧(w.setCells b o vs).tape=w.tape∧(w.setCells b o vs).output=w.output:=by
 intro vs
 induction vs with
 | nil=>intro w o; exact ⟨rfl,rfl,rfl⟩
 | cons v vs ih=>intro w o; exact ih (w.setCell ⟨b,o,none⟩ v) (o+1)
theorem kC {P:Program} {w:World} {b o:Nat} {arr:Array Value} {e:TypeId} {lo hi:Nat} (vs:List Value) (hb:hp w b=some (.cells arr e (lo,hi))) (hf:yI arr.size lo hi)
  (hl:o+vs.length≤arr.size) (h1:∀v∈vs,v.oneCell'=true):(storeCells ⟨b,o,none⟩ vs).run P w=.ok () (w.setCells b o vs):=by
 have:=run_storeCells_cells (P:=P) b o vs 0 w (fun j hj=>by
   rw [uB]
   unfold cellAt
   rw [hb]
   simp only [Nat.add_zero]
   rw [Array.getElem?_eq_getElem (by omega)]
   rfl) (fun j hj=>by
   unfold World.frozen?
   have hb':w.heap[b]?=some (.cells arr e (lo,hi)):=hb
   simp only [hb',Nat.add_zero]
   have:=hf (o+j) (by omega)
   simp
   omega) h1
 simpa using this
theorem z8 {P:Program} {T:iD} {t:TypeId} {k:K} {w:World} {b o:Nat} {cs:List Value} {v:Value} {arr:Array Value} {e:TypeId} {lo hi:Nat} (h:fB P T t k) (hb:hp w b=some (.cells arr e (lo,hi)))
  (hf:yI arr.size lo hi) (hl:cs.length=k.size) (hs:o+k.size≤arr.size) (hv:VC k v cs) (h1:∀v∈cs,v.oneCell'=true) :
  (Instr.storeAt t (.pointer (some ⟨b,o,none⟩)) v).run P w=.ok () (w.setCells b o cs):=by
 have hc:=hv.cells
 have hsz:v.cells.size=k.size:=by rw [←hl, ←hc]; simp
 unfold Instr.storeAt Instr.sureAddr storeVar
 simp only [agf,agl,Result.andThen,h.info.sizeOf w,Sem.run_ite]
 rw [if_neg (by rw [hsz]; simp)]
 rw [hc]
 exact kC cs hb hf (by omega) h1
theorem CO {P:Program} (t:TypeId) (v:Value) (w:World):(newVar t v).run P w=.ok ⟨w.heap.size,0,none⟩ (w.alloc (.cells v.cells t)):=by
 simp [newVar,newRow]
theorem Ej {P:Program} (t:TypeId) (v:Value) (w:World):(Instr.box t v).run P w=.ok (.pointer (some ⟨w.heap.size,0,none⟩)) (w.alloc (.cells v.cells t)):=by
 simp [Instr.box,CO,Result.andThen]
theorem Ie {P:Program} {T:iD} {t:TypeId} {k:K} (h:fB P T t k) (w:World):(Instr.alloc t true (.tuple #[])).run P w=.ok (.pointer (some ⟨w.heap.size,0,none⟩)) (w.alloc (.cells (oJ k).cells t)):=by
 simp [Instr.alloc,h.info.zero w,CO,Result.andThen]
theorem Lb:∀{k:K},(∀a b,k≠.pair a b)→k≠.unit→(∀n,k≠.gap n)→VC k (oJ k) (bK k):=by
 intro k h1 h2 h3
 cases k with
 | int ik=>exact ⟨rfl,by simp [oJ]⟩
 | bool=>exact ⟨rfl,by simp [oJ]⟩
 | id e=>exact ⟨rfl,by simp [oJ]⟩
 | str=>exact ⟨rfl,by simp [oJ]⟩
 | sl e k=>exact ⟨rfl,by simp [oJ]⟩
 | unit=>exact absurd rfl h2
 | pair a b=>exact absurd rfl (h1 a b)
 | st c=>rfl
 | gap n=>exact absurd rfl (h3 n)
theorem yG {h:Heap} {own:List TypeId} {ok:Nat→Prop}:∀{k:K},eF k=true→(∀t∈k.tys,au t own=true)→Ow h own ok k k.zero (bK k) []:=by
 intro k
 induction k with
 | int ik=>intro _ _; exact ⟨rfl,rfl,by cases ik <;> simp [CG,K.zero]⟩
 | bool=>intro _ _; exact ⟨rfl,rfl⟩
 | id e=>intro _ _; exact ⟨rfl,by show _=[Fr.iq 0]; rw [Fr.UL]; rfl⟩
 | str=>intro _ _; exact ⟨rfl,ByteArray.empty,rfl,rfl⟩
 | sl e k ih=>
  intro _ ht
  unfold Ow
  rw [if_pos (ht e (by simp [K.tys]))]
  exact ⟨none,0,0,rfl,rfl,af6 _, .inl ⟨rfl,rfl⟩⟩
 | unit=>intro _ _; exact ⟨rfl,rfl⟩
 | pair a b iha ihb=>
  intro hg ht
  simp [eF] at hg
  exact ⟨bK a,bK b,[],[],rfl, .refl _,iha hg.1 (fun t h=>ht t (by simp [K.tys,h])),ihb hg.2 (fun t h=>ht t (by simp [K.tys,h]))⟩
 | st f ih=>intro hg ht; exact ih hg ht
 | gap n=>intro hg; simp [eF] at hg
end
section
open Go
variable [Fr]
structure Li where
 base:Option (Nat×Nat×Nat)
 bl:List Nat
 kp:Bool
structure Cx where
 nt:Nat
 w0:World
 ext:Nat→Nat→Prop
 par:Nat→Option Li
 ptrs:Nat→List Stp→List TypeId→Value→Prop
 refs:Nat→Value→Prop
structure dI where
 loc:Nat→Nat×Nat
 hdr:Nat→List Value
 fo:Nat→List Nat
def dQ (α:dI) (R:Root) (r:Nat):Option (Nat×Nat):=match R.kind with
 | .var _=>some (α.loc r)
 | .par=>some (α.loc r)
 | _=>none
def blk (α:dI) (R:Root) (r:Nat):List Nat:=(match dQ α R r with
 | some q=>[q.1]
 | none=>[])++α.fo r
def aN (σ:St) (r:Nat) (R:Root):Prop:=σ.roots r=some R∧R.aZ=false
def jS (cx:Cx) (b:Nat):Prop:=∃j pi o n,cx.par j=some pi∧pi.base=some (b,o,n)
def gV (cx:Cx) (σ:St) (α:dI) (F:List Nat) (w:World) (T:List Tag) (b:Nat):Prop:=
 b<w.heap.size∧b∉F∧¬jS cx b∧(∀r R,aN σ r R→b∈blk α R r→∃n,(r,n)∈T)∧
 (b<cx.w0.heap.size→(∃j n,(mM j,n)∈T∧cx.ext j b)∨∃j pi,cx.par j=some pi∧b∈pi.bl)
def bn (σ:St) (R:Root):Prop:=R.aZ=false∧bg σ R.wF R.tags=true
def Cv (σ:St) (α:dI) (F:List Nat) (w:World) (T:List Tag) (b:Nat):Prop:=
 b<w.heap.size∧b∉F∧∀r R,aN σ r R→b∈blk α R r→∃n,(r,n)∈T
def CJ (cx:Cx) (σ:St) (α:dI) (F:List Nat) (w:World) (bt:TypeId) (k:K) (x:El k) (T:List Tag) (v:Value):Prop:=
 (∃b o,v=.pointer (some ⟨b,o,none⟩))∧(bg σ (bt :: k.tys) T=true→∃b o cs,v=.pointer (some ⟨b,o,none⟩)∧Cells (hp w) b o cs∧Vw (hp w) (gV cx σ α F w T) k x cs∧Cv σ α F w T b∧
  ((bt=SENT∧∀t∈T,fC t.1=true)∨(q9 (hp w) b bt∧¬jS cx b)))
def jB (cx:Cx) (σ:St) (α:dI) (F:List Nat) (w:World):List (TypeId×Dat×List Tag)→List Value→Prop
 | [],[]=>True
 | c :: cs,v :: vs=>CJ cx σ α F w c.1 c.2.1.1 c.2.1.2 c.2.2 v∧jB cx σ α F w cs vs
 | _,_=>False
def jC:List Stp→K→Option (Nat×K)
 | [],k=>some (0,k)
 | .fD n :: p, .st c=>match bu n c with
  | some q=>match jC p q.2 with
   | some r=>some (q.1+r.1,r.2)
   | none=>none
  | none=>none
 | _,_=>none
def Vn (α:dI) (h:Heap) (r:Nat) (R:Root) (p:List Stp) (q:Nat) (Q:Root) (v:Value):Prop:=
 ∃(e:TypeId) (kk:K) (xs:List (El kk)) (wh:Option (Nat×Nat)) (b:Option Addr) (n c:Nat) (ce:List Value) (hq:Value) (b1 o1 c1:Nat) (arr:Array Value) (lo hi:Nat),
  aO p R.k R.x=some ⟨.sl e kk,xs⟩∧kH p R.k R.x∧(∀t∈aa p R.k,au t R.own=true)∧bE h p R.k (α.hdr r) (dQ α R r)=some ([.slice b n c],wh)∧
  (Q.k=Gg e kk∧Q.kind=.anon)∧α.hdr q=ce++[hq]∧ce.length=kk.size∧v=.slice (some ⟨b1,o1,none⟩) (n+1) c1∧n+1≤c1∧
  h b1=some (.cells arr e (lo,hi))∧yI arr.size lo hi∧o1+c1 * kk.size≤arr.size∧Cells h b1 (o1+n * kk.size) ce∧
  ((b=some ⟨b1,o1,none⟩∧b1∈α.fo r∧hq=.slice none 0 0∧c=c1)∨(hq=.slice (some ⟨b1,o1,none⟩) 0 c1∧b1∈α.fo q∧(0<n→∃b0 o0,b=some ⟨b0,o0,none⟩∧b0∈α.fo r∧∀i,i<n * kk.size→cellAt h b1 (o1+i)=cellAt h b0 (o0+i))))
def bH (cx:Cx) (σ:St) (α:dI) (F:List Nat) (w:World):AV→Value→Prop
 | .undef,_=>True
 | .val k x T,v=>(k.flat=true∨bg σ k.tys T=true)→∃cs,VC k v cs∧Vw (hp w) (gV cx σ α F w T) k x cs
 | .iC,v=>∃a,v=.slice a 0 0
 | .ref r g,v=>∀R,aN σ r R→R.g=g→R.kind=.anon∧VC R.k v (α.hdr r)
 | .oQ r p n,v=>∀R,σ.roots r=some R→bn σ R→R.rR=n→∀d,aO p R.k R.x=some d→
   kH p R.k R.x∧(∀t∈aa p R.k,au t R.own=true)∧∃cs wh,bE (hp w) p R.k (α.hdr r) (dQ α R r)=some (cs,wh)∧VC d.1 v cs
 | .ptr r p n,v=>(∃b o,v=.pointer (some ⟨b,o,none⟩))∧∀R,σ.roots r=some R→bn σ R→clean R.h n (dS p R.k)=true→(∀t∈aa p R.k,au t R.own=true)→(aO p R.k R.x).isSome=true→
   kH p R.k R.x∧∃cs b o,bE (hp w) p R.k (α.hdr r) (dQ α R r)=some (cs,some (b,o))∧v=.pointer (some ⟨b,o,none⟩)
 | .iK bt k x T,v=>CJ cx σ α F w bt k x T v
 | .oz,v=>v=.pointer none
 | .u6 e,v=>∃b,v=.bool b∧(b=true→e=true)
 | .part r g lo hi sz,v=>∃b' b n c,v=.slice b' (hi - lo) (c - lo)∧(lo=0∨c≠lo→b'=b.map (·.add (lo * sz)))∧lo≤hi∧hi≤n∧n≤c∧∀R,aN σ r R→R.g=g→R.kind=.anon∧VC R.k (.slice b n c) (α.hdr r)
 | .Bu r g k p,v=>∃u b off k1,v=.pointer (some ⟨b,off,none⟩)∧Cv σ α F w [] b∧Cells (hp w) b 0 u.cells.toList∧jC p k=some (off,k1)∧∀R,aN σ r R→R.g=g→R.kind=.anon∧VC R.k u (α.hdr r)
 | .sW r p n m,v=>∃b c,v=.slice b m c∧∀R,σ.roots r=some R→bn σ R→R.rR=n→∀d,aO p R.k R.x=some d→
   kH p R.k R.x∧(∀t∈aa p R.k,au t R.own=true)∧∃q wh,bE (hp w) p R.k (α.hdr r) (dQ α R r)=some ([.slice b q c],wh)∧m≤q
 | .app r p n q,v=>∀R,σ.roots r=some R→bn σ R→R.rR=n→∀Q,aN σ q Q→Q.rR=0→Vn α (hp w) r R p q Q v
 | .fn f cs,v=>∃vs:List Value,v=.func (.func f) #[] vs.toArray∧jB cx σ α F w cs vs
def dO (cx:Cx) (σ:St) (α:dI) (F:List Nat) (w:World):List AV→List Value→Prop
 | [],[]=>True
 | a :: l,v :: vs=>bH cx σ α F w a v∧dO cx σ α F w l vs
 | _,_=>False
def MF:K→List Value→List Value→Prop
 | .pair k r,u :: us,cs=>∃c1 c2,cs=c1++c2∧VC k u c1∧c1.length=k.size∧MF r us c2
 | .unit,[],cs=>cs=[]
 | _,_,_=>False
def iM (cx:Cx) (σ:St) (α:dI) (F:List Nat) (w:World):sK→Value→Prop
 | .one a,v=>bH cx σ α F w a v
 | .CV l,v=>∃vs:List Value,v=.tuple vs.toArray∧dO cx σ α F w l vs
 | .lit _ c l,v=>∃vs cs:List Value,(v=.agg cs.toArray∧MF c vs cs)∧dO cx σ α F w l vs
def yE (σ:St) (t:Tag):Prop:=fC t.1=true∨∃R,σ.roots t.1=some R∧(R.aZ=true∨t.2≤fV R.w)
def eG (σ:St) (T:List Tag):Prop:=∀t∈T,yE σ t
def nW (σ:St):AV→Prop
 | .val _ _ T=>eG σ T
 | .ref r g=>∃R,σ.roots r=some R∧(R.aZ=true∨g≤R.g)
 | .oQ r _ n=>∃R,σ.roots r=some R∧(R.aZ=true∨n≤R.rR)
 | .Bu r g _ _=>∃R,σ.roots r=some R∧(R.aZ=true∨g≤R.g)
 | .part r g _ _ _=>∃R,σ.roots r=some R∧(R.aZ=true∨g≤R.g)
 | .sW r _ n _=>∃R,σ.roots r=some R∧(R.aZ=true∨n≤R.rR)
 | .app r _ n q=>(∃R,σ.roots r=some R∧(R.aZ=true∨n≤R.rR))∧∃R,σ.roots q=some R
 | .ptr r _ n=>∃R,σ.roots r=some R∧(R.aZ=true∨n≤fV R.h)
 | .iK _ _ _ T=>eG σ T
 | .fn _ cs=>∀c∈cs,eG σ c.2.2
 | _=>True
def sO (σ:St):sK→Prop
 | .one a=>nW σ a
 | .CV l=>∀a∈l,nW σ a
 | .lit _ _ l=>∀a∈l,nW σ a
def Tu (cx:Cx) (w:World):Prop:=
 w.os=cx.w0.os∧w.tape=cx.w0.tape∧w.output=cx.w0.output∧cx.w0.heap.size≤w.heap.size∧
 (∀b,b<cx.w0.heap.size→(∀j pi,cx.par j=some pi→b∉pi.bl)→hp w b=hp cx.w0 b)∧
 (∀j pi b o n,cx.par j=some pi→pi.base=some (b,o,n)→gu (hp cx.w0) (hp w) b o n)
def mine (cx:Cx) (w:World) (b:Nat):Prop:=b<w.heap.size∧(cx.w0.heap.size≤b∨∃j pi,cx.par j=some pi∧b∈pi.bl)
structure qm (cx:Cx) (σ:St) (α:dI) (F:List Nat) (w:World) (r:Nat) (R:Root):Prop where
 ow:bn σ R→Ow (hp w) R.own (gV cx σ α F w R.tags) R.k R.x (α.hdr r) (α.fo r)
 len:(α.hdr r).length=R.k.size
 mem:∀b o,dQ α R r=some (b,o)→Cells (hp w) b o (α.hdr r)∧∃arr e lo hi,hp w b=some (.cells arr e (lo,hi))∧yI arr.size lo hi∧o+R.k.size≤arr.size∧(∀t,R.kind=.var t→e=t)
 nd:(blk α R r).Nodup
 mine:∀b∈blk α R r,Ow.mine cx w b
structure Rel (cx:Cx) (σ:St) (α:dI) (F:List Nat) (a:Act) (w:World):Prop where
 defs:a.defers=[]
 sz:cx.nt≤a.tmps.size
 jT:∀j pi b o n,cx.par j=some pi→pi.base=some (b,o,n)→∃R,aN σ (ak j) R∧R.kind=.par∧α.loc (ak j)=(b,o)∧R.k.size=n
 yu:∀r R,aN σ r R→R.kind=.par→∃j pi n,r=ak j∧cx.par j=some pi∧pi.base=some ((α.loc r).1,(α.loc r).2,n)
 slots:∀s,iM cx σ α F w (σ.slots s) (a.tmps.getD s undef)
 oF:∀s,sO σ (σ.slots s)
 roots:∀r R,aN σ r R→qm cx σ α F w r R
 dh:∀r R,σ.roots r=some R→eG σ R.tags∧fC r=false∧(∀n,(r,n)∉R.tags)
 AB:∀r R r' R',aN σ r R→aN σ r' R'→r≠r'→∀b∈blk α R r,b∉blk α R' r'
 fl:∀b∈F,mine cx w b
 uU:F.Nodup
 iB:∀r R,aN σ r R→∀b∈blk α R r,b∉F
 frame:Tu cx w
 qb:∀j pi,cx.par j=some pi→pi.kp=true→∃R,σ.roots (ak j)=some R∧(R.aZ=false→∀b∈pi.bl,¬jS cx b→
  (∃e,ni (hp cx.w0) b=some e∧(e∈R.w∨e∈R.ew))∨(hp w b=hp cx.w0 b∧b∉F∧∀q Q,aN σ q Q→b∈blk α Q q→q=ak j))
 lK:(∀j pi,cx.par j=some pi→∀b∈pi.bl,b<cx.w0.heap.size)∧(∀b,Fr.free b→b<cx.w0.heap.size∧∀j pi,cx.par j=some pi→b∉pi.bl)∧∀b,Fr.free b→hp cx.w0 b=Fr.obj b
 rA:∀j p ts v,cx.ptrs j p ts v→(∃b o,v=.pointer (some ⟨b,o,none⟩))∧∃R,σ.roots (ak j)=some R∧((∀t∈ts,t∉R.eh)→bH cx σ α F w (.ptr (ak j) p 0) v)
 rC:∀j v,cx.refs j v→(∃R,σ.roots (ak j)=some R)∧bH cx σ α F w (.ref (ak j) 0) v
theorem Rel.KW {cx:Cx} {σ:St} {α:dI} {F:List Nat} {a:Act} {w:World} (H:Rel cx σ α F a w) {b:Nat} (hm:mine cx w b):¬Fr.free b:=by
 intro hf
 obtain ⟨h1,h2⟩:=H.lK.2.1 b hf
 rcases hm.2 with h | ⟨j,pi,h3,h4⟩
 ·omega
 ·exact h2 j pi h3 h4
theorem Rel.fixed {cx:Cx} {σ:St} {α:dI} {F:List Nat} {a:Act} {w:World} (H:Rel cx σ α F a w) {b:Nat} (hf:Fr.free b):hp w b=Fr.obj b:=by
 obtain ⟨h1,h2⟩:=H.lK.2.1 b hf
 rw [H.frame.2.2.2.2.1 b h1 h2]
 exact H.lK.2.2 b hf
theorem Rel.J6 {cx:Cx} {σ:St} {α:dI} {F:List Nat} {a:Act} {w:World} (H:Rel cx σ α F a w) {b:Nat} {t:TypeId} (hm:mine cx w b) (h:q9 (hp w) b t):ni (hp w) b=some t:=h.resolve_right (H.KW hm)
theorem mh {A:Type} (l:List A):fV l=l.length:=by induction l <;> simp_all [fV]
theorem aJ {n:Nat} {l:List Nat}:au n l=true↔n∈l:=by
 induction l with
 | nil=>simp [au]
 | cons m l ih=>
  simp only [au,af2]
  cases h:Nat.beq n m with
  | true=>simp [afU h]
  | false=>simp [ih,Nat.ne_of_beq_eq_false h]
theorem aS {n:Nat} {l:List Nat}:au n l=false↔n∉l:=by rw [←aJ]; simp
theorem FL (a l:List Nat) {n:Nat} (h:n≤fV l):since (a++l) n=a++since l n:=by
 unfold since
 rw [mh] at h
 simp only [mh,afY]
 rw [List.take_append,List.take_of_length_le (by omega)]
 congr 2
 omega
theorem lZ {a l:List Nat} {n:Nat} {tys:List Nat} (h:n≤fV l):clean (a++l) n tys=true↔(∀t∈a,t∉tys)∧clean l n tys=true:=by
 unfold clean
 rw [FL a l h,List.all_append,afW,af5]
 simp [aS]
theorem Gs {σ:St} {tys:List TypeId} {t:Tag} {T:List Tag}:bg σ tys (t :: T)=true↔(fC t.1=true∨∃R,σ.roots t.1=some R∧R.aZ=false∧clean R.w t.2 tys=true)∧bg σ tys T=true:=by
 obtain ⟨r,n⟩:=t
 simp only [bg,afW]
 cases he:fC r with
 | true=>simp
 | false=>
  simp only [cond_false,afT,false_or]
  cases hr:σ.roots r with
  | none=>simp
  | some R=>simp
theorem lD {σ:St} {tys:List TypeId} {T:List Tag}:bg σ tys T=true↔∀t∈T,fC t.1=true∨∃R,σ.roots t.1=some R∧R.aZ=false∧clean R.w t.2 tys=true:=by
 induction T with
 | nil=>simp [bg]
 | cons t T ih=>rw [Gs,ih]; simp
def Views (cx:Cx) (σ:St) (α:dI) (F:List Nat) (w:World) (σ':St) (α':dI) (F':List Nat) (w':World):Prop:=
 ∀T tys,eG σ T→bg σ' tys T=true→bg σ tys T=true∧
  (∀b,gV cx σ α F w T b→((∃t∈tys,q9 (hp w) b t)∨∀t∈T,fC t.1=true)→gV cx σ' α' F' w' T b∧hp w' b=hp w b)∧
  ∀b,Cv σ α F w T b→((∃t∈tys,q9 (hp w) b t)∧¬jS cx b∨∀t∈T,fC t.1=true)→Cv σ' α' F' w' T b∧hp w' b=hp w b
theorem Views.vw {cx:Cx} {σ σ':St} {α α':dI} {F F':List Nat} {w w':World} (H:Views cx σ α F w σ' α' F' w') {T:List Tag} {tys:List TypeId} (hw:eG σ T) (hc:bg σ' tys T=true)
  {k:K} {x:El k} {cs:List Value} (hk:∀t∈k.tys,t∈tys) (h:Vw (hp w) (gV cx σ α F w T) k x cs):Vw (hp w') (gV cx σ' α' F' w' T) k x cs:=by
 obtain ⟨_,h2,_⟩:=H T tys hw hc
 exact fI (fun b hb=>(h2 b hb.1 (.inl hb.2)).2) (fun b hb=>(h2 b hb.1 (.inl hb.2)).1) (A8 tys hk h)
theorem Views.ro {cx:Cx} {σ σ':St} {α α':dI} {F F':List Nat} {w w':World} (H:Views cx σ α F w σ' α' F' w') {bt:TypeId} {k:K} {x:El k} {T:List Tag} {v:Value} (hw:eG σ T)
  (h:CJ cx σ α F w bt k x T v):CJ cx σ' α' F' w' bt k x T v:=by
 refine ⟨h.1,fun hc=>?_⟩
 obtain ⟨h1,_,h2⟩:=H T _ hw hc
 obtain ⟨b,o,cs,e,hcs,hv,hok,hb⟩:=h.2 h1
 have hb':Cv σ' α' F' w' T b∧hp w' b=hp w b:=h2 b hok (by
  rcases hb with ⟨_,hb⟩ | hb
  ·exact .inr hb
  ·exact .inl ⟨⟨bt,by simp,hb.1⟩,hb.2⟩)
 exact ⟨b,o,cs,e,hcs.congr hb'.2,H.vw hw hc (fun t ht=>by simp [ht]) hv,hb'.1,hb.imp id (fun h=>⟨BC hb'.2 h.1,h.2⟩)⟩
theorem Views.caps {cx:Cx} {σ σ':St} {α α':dI} {F F':List Nat} {w w':World} (H:Views cx σ α F w σ' α' F' w') :
  ∀{cs:List (TypeId×Dat×List Tag)} {vs:List Value},(∀c∈cs,eG σ c.2.2)→jB cx σ α F w cs vs→jB cx σ' α' F' w' cs vs
 | [],[],_,h=>h
 | c :: cs,v :: vs,hw,h=>⟨H.ro (hw c (by simp)) h.1,H.caps (fun c hc=>hw c (by simp [hc])) h.2⟩
 | [],_ :: _,_,h=>h.elim
 | _ :: _,[],_,h=>h.elim
theorem qU {cx:Cx} {σ σ':St} {α α':dI} {F F':List Nat} {w w':World} (H:Views cx σ α F w σ' α' F' w') {R:Root} (hw:eG σ R.tags) (h:bn σ' R):bn σ R:=
 ⟨h.1,(H R.tags R.wF hw h.2).1⟩
end
end Go.Proofs.Ytabnmpabdhmkoaa.Ow

/- A verified reading of translated code: values in place of memory; part A of 6, spaces and remarks taken out. No condition. Own work of this seat. -/
import Derived.Calls
import Derived.Orders
import Derived.Laws.Cells
import Derived.Laws.IdiomCopy
import Derived.Laws.Entries
import Derived.ChangeKeysEq
import Derived.WalkKit
set_option linter.unusedSectionVars false
set_option linter.unusedVariables false
set_option linter.unusedSimpArgs false
namespace Go.Proofs.YtailcbngagacaabGreat.Ow
open Go
abbrev anX := @Option.some.injEq
abbrev anY := @Option.bind_some
abbrev anZ := @List.mem_append_right
abbrev an0 := @Bool.false_eq_true
abbrev an1 := @Nat.eq_of_beq_eq_true
abbrev an2 := @List.mem_append_left
abbrev an3 := @Bool.and_eq_true
abbrev an4 := @List.nodup_append
abbrev an5 := @List.length_append
abbrev an6 := @List.mem_append
abbrev an7 := @Int.toNat_natCast
abbrev an8 := @Prod.mk.injEq
abbrev an9 := @List.mem_cons
abbrev aoa := @List.getD_eq_getElem?_getD
abbrev aob := @List.getElem?_eq_getElem
abbrev aoc := @List.all_eq_true
abbrev aod := @Nat.le_refl
abbrev aoe := @List.mem_filter
abbrev aof := @Result.andThen_ok
abbrev aog := @List.mem_singleton
abbrev aoh := @List.length_singleton
abbrev aoi := @List.append_assoc
abbrev aoj := @Classical.byContradiction
abbrev aok := @List.length_cons
abbrev aol := @List.mem_cons_of_mem
abbrev aom := @Sem.run_bind
abbrev aon := @Int.ofNat_lt
abbrev aoo := @Bool.not_true
abbrev aop := @List.getElem_mem
abbrev aoq := @List.append_nil
abbrev aor := @Sem.run_pure
abbrev aos := @Nat.mul_le_mul_right
abbrev aot := @List.mem_cons_self
abbrev aou := @List.nodup_cons
abbrev aov := @Nat.zero_le
abbrev aow := @Option.some.inj
abbrev aox := @List.mem_map
abbrev aoy := @List.mem_flatMap
abbrev aoz := @Bool.not_false
section
open Go
inductive K where
 | int (k:IntKind)
 | bool
 | str
 | sl (e:TypeId) (k:K)
 | unit
 | pair (a b:K)
 | st (f:K)
 | gap (n:Nat)
 | id (e:TypeId)
 deriving Inhabited
abbrev El:K→Type
 | .int _=>Int
 | .bool=>Bool
 | .str=>List Int
 | .sl _ k=>List (El k)
 | .unit=>Unit
 | .pair a b=>El a×El b
 | .st f=>El f
 | .gap _=>Unit
 | .id _=>Nat
def K.size:K→Nat
 | .int _ | .bool | .str | .sl _ _ | .id _=>1
 | .unit=>0
 | .pair a b=>a.size+b.size
 | .st f=>f.size
 | .gap n=>n
def K.zero:(k:K)→El k
 | .int _=>(0:Int)
 | .bool=>false
 | .str=>([]:List Int)
 | .sl _ _=>[]
 | .unit=>()
 | .pair a b=>(a.zero,b.zero)
 | .st f=>f.zero
 | .gap _=>()
 | .id _=>(0:Nat)
def Ad:IntKind→IntKind→Bool
 | .i8, .i8 | .i16, .i16 | .i32, .i32 | .i64, .i64 | .u8, .u8 | .u16, .u16 | .u32, .u32 | .u64, .u64=>true
 | _,_=>false
def K.beq:K→K→Bool
 | .int a, .int b=>Ad a b
 | .bool, .bool=>true
 | .str, .str=>true
 | .sl e a, .sl f b=>Nat.beq e f && a.beq b
 | .unit, .unit=>true
 | .pair a b, .pair c d=>a.beq c && b.beq d
 | .st a, .st b=>a.beq b
 | .gap n, .gap m=>Nat.beq n m
 | .id e, .id f=>Nat.beq e f
 | _,_=>false
theorem Bc {a b:IntKind} (h:Ad a b=true):a=b:=by cases a <;> cases b <;> simp_all [Ad]
theorem K.eq_of_beq:∀{a b:K},a.beq b=true→a=b:=by
 intro a
 induction a with
 | int k=>intro b h; cases b <;> simp_all [K.beq]; exact Bc h
 | sl e k ih=>intro b h; cases b <;> simp_all [K.beq]; exact ih h.2
 | pair a b iha ihb=>intro c h; cases c <;> simp_all [K.beq]; exact ⟨iha h.1,ihb h.2⟩
 | st f ih=>intro b h; cases b <;> simp_all [K.beq]; exact ih h
 | gap n=>intro b h; cases b <;> simp_all [K.beq]
 | id e=>intro b h; cases b <;> simp_all [K.beq]
 | _=>intro b h; cases b <;> simp_all [K.beq]
def K.like:K→K→Bool
 | .gap n,k=>Nat.beq n k.size
 | .pair a b, .pair c d=>a.like c && b.like d
 | .st a, .st b=>a.like b
 | a,b=>a.beq b
def bP (a b:K) (x:El a):Option (El b):=if h:a.beq b=true then some (K.eq_of_beq h▸x) else none
def K.hole:K→K
 | .sl _ _=>.gap 1
 | .pair a b=>.pair a.hole b.hole
 | .st f=>.st f.hole
 | k=>k
def uB:(k:K)→El k→El k.hole
 | .sl _ _,_=>()
 | .pair a b,x=>(uB a x.1,uB b x.2)
 | .st f,x=>uB f x
 | .int _,x=>x
 | .bool,x=>x
 | .str,x=>x
 | .unit,_=>()
 | .gap _,_=>()
 | .id _,x=>x
def K.tys:K→List TypeId
 | .sl e k=>e :: k.tys
 | .pair a b=>a.tys++b.tys
 | .st f=>f.tys
 | _=>[]
def K.flat:K→Bool
 | .sl _ _ | .gap _=>false
 | .pair a b=>a.flat && b.flat
 | .st f=>f.flat
 | _=>true
def Cont:List K→Type
 | []=>Unit
 | k :: ks=>El k×Cont ks
def Cont.app:(ks ls:List K)→Cont ks→Cont ls→Cont (ks++ls)
 | [],_,_,d=>d
 | _ :: ks,ls,c,d=>(c.1,Cont.app ks ls c.2 d)
inductive Stp where
 | fO (n:Nat)
 | idx (i:Int)
abbrev Dat:=(k:K)×El k
def rU (d:Dat):Dat:=⟨d.1.hole,uB d.1 d.2⟩
def aO:Nat→(c:K)→El c→Option Dat
 | 0, .pair a _,x=>some ⟨a,x.1⟩
 | n+1, .pair _ b,x=>aO n b x.2
 | _,_,_=>none
def aS:List Stp→(k:K)→El k→Option Dat
 | [],k,x=>some ⟨k,x⟩
 | .fO n :: p, .st c,x=>match aO n c x with
  | some d=>aS p d.1 d.2
  | none=>none
 | .idx i :: p, .sl _ k,xs=>aS p k ((show List (El k) from xs).getD i.toNat k.zero)
 | _,_,_=>none
def cz:Nat→(c:K)→El c→Dat→Option Dat
 | 0, .pair _ b,x,d=>some ⟨.pair d.1 b,(d.2,x.2)⟩
 | n+1, .pair a b,x,d=>match cz n b x.2 d with
  | some z=>some ⟨.pair a z.1,(x.1,z.2)⟩
  | none=>none
 | _,_,_,_=>none
def dX:List Stp→(k:K)→El k→Dat→Option Dat
 | [],_,_,d=>some d
 | .fO n :: p, .st c,x,d=>match aO n c x with
  | some s=>match dX p s.1 s.2 d with
   | some t=>match cz n c x t with
    | some z=>some ⟨.st z.1,z.2⟩
    | none=>none
   | none=>none
  | none=>none
 | .idx i :: p, .sl e k,xs,d=>match dX p k ((show List (El k) from xs).getD i.toNat k.zero) d with
  | some t=>match bP t.1 k t.2 with
   | some y=>some ⟨.sl e k,(show List (El k) from xs).set i.toNat y⟩
   | none=>none
  | none=>none
 | _,_,_,_=>none
def Stp.qL:Stp→Bool
 | .fO _=>true
 | .idx _=>false
def ah:List Stp→K→List TypeId
 | .fO n :: p, .st c=>match Ia n c with
  | some k=>ah p k
  | none=>[]
 | .idx _ :: p, .sl e k=>e :: ah p k
 | _,_=>[]
where Ia:Nat→K→Option K
 | 0, .pair a _=>some a
 | n+1, .pair _ b=>Ia n b
 | _,_=>none
abbrev Tag:=Nat×Nat
inductive AV where
 | undef
 | val (k:K) (x:El k) (tags:List Tag)
 | iP
 | ref (r g:Nat)
 | sV (r:Nat) (p:List Stp) (v:Nat)
 | ptr (r:Nat) (p:List Stp) (h:Nat)
 | jg (bt:TypeId) (k:K) (x:El k) (tags:List Tag)
 | su
 | JK (r g:Nat) (k:K) (p:List Stp)
 | Av (e:Bool)
 | part (r g lo hi sz:Nat)
 | xY (r:Nat) (p:List Stp) (v m:Nat)
 | app (r:Nat) (p:List Stp) (v q:Nat)
 | fn (f:Nat) (caps:List (TypeId×Dat×List Tag))
inductive xP where
 | one (a:AV)
 | Lc (l:List AV)
 | lit (t:TypeId) (c:K) (l:List AV)
inductive GH where
 | anon
 | var (t:TypeId)
 | par
 | dead
structure Root where
 k:K
 x:El k
 own:List TypeId
 tags:List Tag
 w:List TypeId
 h:List TypeId
 g:Nat
 kind:GH
 fixed:Bool
 keep:Bool
 ew:List TypeId:=[]
 eh:List TypeId:=[]
def Root.aX (R:Root):Bool:=match R.kind with
 | .dead=>true
 | _=>false
def Root.isVar (R:Root):Bool:=match R.kind with
 | .var _=>true
 | _=>false
def bT:Root:={ k:=.unit,x:=(),own:=[],tags:=[],w:=[],h:=[],g:=0,kind:=.dead,fixed:=true,keep:=true }
structure St where
 slots:Nat→xP
 roots:Nat→Option Root
inductive Loc where
 | s (n:Nat)
 | r (n:Nat)
inductive Wr where
 | s (n:Nat) (a:xP)
 | r (n:Nat) (o:Option Root)
def Loc.beq:Loc→Loc→Bool
 | .s a, .s b=>Nat.beq a b
 | .r a, .r b=>Nat.beq a b
 | _,_=>false
def Wr.loc:Wr→Loc
 | .s n _=>.s n
 | .r n _=>.r n
def upd {α:Type} (f:Nat→α) (n:Nat) (v:α):Nat→α:=fun m=>bif Nat.beq m n then v else f m
def Wr.app (w:Wr) (σ:St):St:=match w with
 | .s n a=>{ σ with slots:=upd σ.slots n a }
 | .r n (some R)=>{ σ with roots:=upd σ.roots n (some R) }
 | .r n none=>{ σ with roots:=upd σ.roots n (some bT) }
def aB:List Wr→St→St
 | [],σ=>σ
 | w :: ws,σ=>aB ws (w.app σ)
inductive Prog (α:Type):Type 1 where
 | ret (a:α)
 | fail
 | slot (n:Nat) (k:xP→Prog α)
 | root (r:Nat) (k:Option Root→Prog α)
 | vB (c:Prop) (d:Decidable c) (k:Prog α)
 | br (c:Bool) (t e:Prog α)
 | opt (β:Type) (o:Option β) (k:β→Prog α)
def Prog.bind {α β:Type}:Prog α→(α→Prog β)→Prog β
 | .ret a,f=>f a
 | .fail,_=>.fail
 | .slot n k,f=>.slot n fun v=>(k v).bind f
 | .root r k,f=>.root r fun v=>(k v).bind f
 | .vB c d k,f=>.vB c d (k.bind f)
 | .br c t e,f=>.br c (t.bind f) (e.bind f)
 | .opt β o k,f=>.opt β o fun b=>(k b).bind f
def Prog.run {α R:Type}:Prog α→St→(α→Option R)→Option R
 | .ret a,_,K=>K a
 | .fail,_,_=>none
 | .slot n k,σ,K=>(k (σ.slots n)).run σ K
 | .root r k,σ,K=>(k (σ.roots r)).run σ K
 | .vB c d k,σ,K=>@ite _ c d (k.run σ K) none
 | .br c t e,σ,K=>if c=true then t.run σ K else e.run σ K
 | .opt _ o k,σ,K=>o.bind fun b=>(k b).run σ K
def Prog.IA {α R:Type}:Prog α→St→List Loc→(α→List Loc→Option R)→Option R
 | .ret a,_,l,K=>K a l
 | .fail,_,_,_=>none
 | .slot n k,σ,l,K=>(k (σ.slots n)).IA σ (.s n :: l) K
 | .root r k,σ,l,K=>(k (σ.roots r)).IA σ (.r r :: l) K
 | .vB c d k,σ,l,K=>@ite _ c d (k.IA σ l K) none
 | .br c t e,σ,l,K=>if c=true then t.IA σ l K else e.IA σ l K
 | .opt _ o k,σ,l,K=>o.bind fun b=>(k b).IA σ l K
def Bl:List Wr→Nat→Option xP
 | [],_=>none
 | .s m a :: ws,n=>match Bl ws n with
  | some b=>some b
  | none=>bif Nat.beq n m then some a else none
 | .r _ _ :: ws,n=>Bl ws n
def Da:List Wr→Nat→Option (Option Root)
 | [],_=>none
 | .r m o :: ws,n=>match Da ws n with
  | some b=>some b
  | none=>bif Nat.beq n m then some (some (o.getD bT)) else none
 | .s _ _ :: ws,n=>Da ws n
def Prog.over {α:Type} (ws:List Wr):Prog α→Prog α
 | .ret a=>.ret a
 | .fail=>.fail
 | .slot n k=>match Bl ws n with
  | some v=>(k v).over ws
  | none=>.slot n fun v=>(k v).over ws
 | .root r k=>match Da ws r with
  | some v=>(k v).over ws
  | none=>.root r fun v=>(k v).over ws
 | .vB c d k=>.vB c d (k.over ws)
 | .br c t e=>.br c (t.over ws) (e.over ws)
 | .opt β o k=>.opt β o fun b=>(k b).over ws
def aaM (p q:Prog (List Wr)):Prog (List Wr):=p.bind fun ws=>(q.over ws).bind fun vs=>.ret (ws++vs)
end
section
open Go
def az (n:Nat):List Nat→Bool
 | []=>false
 | m :: l=>bif Nat.beq n m then true else az n l
def mQ (l m:List Nat):Bool:=l.all fun n=>az n m
def gJ {α:Type}:List α→Nat
 | []=>0
 | _ :: l=>gJ l+1
def ay (j:Nat):Nat:=4 * j
def pV (j:Nat):Nat:=4 * j+1
def aZ (d c:Nat):Nat:=4 * (8 * d+c)+2
def fJ (r:Nat):Bool:=Nat.beq (r % 4) 1
def since (l:List Nat) (n:Nat):List Nat:=l.take (gJ l - n)
def clean (l:List Nat) (n:Nat) (tys:List Nat):Bool:=(since l n).all fun t=>!az t tys
def bytesOf (s:ByteArray):List Int:=s.data.toList.map fun b=>(b.toNat:Int)
inductive dF where
 | val (k:K) (iA:List Nat)
 | ro (k:K)
 | rw (k:K) (ow wt ht:List TypeId)
 | into (j:Nat) (p:List (Option Nat))
 | jC (k:K) (ow wt:List TypeId)
 | own (k:K) (ow:List TypeId)
 | fn (f:Nat) (ks:List K)
inductive kJ where
 | val (k:K) (exts iA:List Nat)
 | own (k:K) (ow:List TypeId) (exts iA:List Nat)
 | ptr (t:TypeId) (k:K) (ow:List TypeId) (exts:List Nat)
 | into (j:Nat) (p:List (Option Nat))
def dF.kin:dF→List K
 | .val k _ | .ro k | .rw k _ _ _ | .jC k _ _ | .own k _=>[k]
 | .into _ p=>p.filterMap fun | none=>some (.int .i64) | some _=>none
 | .fn _ ks=>ks
def dF.jL:dF→List K
 | .rw k _ _ _ | .jC k _ _=>[k]
 | _=>[]
def kJ.gZ:kJ→List K
 | .val k _ _ | .own k _ _ _ | .ptr _ k _ _=>[k]
 | .into _ _=>[.int .i64]
def kin:List dF→List K
 | []=>[]
 | p :: ps=>p.kin++kin ps
def jL:List dF→List K
 | []=>[]
 | p :: ps=>p.jL++jL ps
def gZ:List kJ→List K
 | []=>[]
 | p :: ps=>p.gZ++gZ ps
structure Entry where
 f:FuncId
 ps:List dF
 rs:List kJ
 F:Nat→Cont (kin ps)→Option (Cont (gZ rs++jL ps))
structure iV where
 ty:TypeId→Option K
 bytes:TypeId→Nat
 ptr:TypeId→Bool
 eq:TypeId→Bool
 ids:Bool:=false
structure Hint where
 nt:Nat
 ajZ:List Nat
 loops:List (Nat×List Nat×List Nat)
 less:List (Nat×List TypeId)
 calls:List (Nat×Option Nat×Entry)
 jf:List (Nat×K×List TypeId×List TypeId)
 wide:List (Nat×List Nat):=[]
 parts:List Nat:=[]
 apps:List Nat:=[]
section
variable {α:Type}
def nP:List Tag→List TypeId→Prog α→Prog α
 | [],_,k=>k
 | (r,n) :: ts,tys,k=>bif fJ r then nP ts tys k else .root r fun
  | some R=>bif !R.aX && clean R.w n tys then nP ts tys k else .fail
  | none=>.fail
def aU (own:List TypeId):K→List TypeId
 | .sl e k=>bif az e own then aU own k else e :: k.tys
 | .pair a b=>aU own a++aU own b
 | .st f=>aU own f
 | _=>[]
def Root.Co (R:Root):List TypeId:=aU R.own R.k
def sD (r:Nat) (k:Root→Prog α):Prog α:=.root r fun
 | some R=>bif R.aX then .fail else nP R.tags R.Co (k R)
 | none=>.fail
def Root.wR (R:Root):Nat:=gJ R.w+gJ R.h
def Root.out (R:Root) (r:Nat) (k:K):List Tag:=bif k.flat then [] else bif k.tys.any (fun t=>az t R.own) then (r,gJ R.w) :: R.tags else R.tags
def iL (r:Nat) (k:Prog α):Prog α:=.root r fun
 | none=>k
 | some _=>.fail
def inK:IntKind→Int→Bool
 | .u8,n=>Int.blt n 256 && Int.ble 0 n
 | _,_=>true
where
 Int.blt (a b:Int):Bool:=decide (a<b)
 Int.ble (a b:Int):Bool:=decide (a≤b)
def YA:Value→AV
 | .int k n=>bif inK k n then .val (.int k) n [] else .undef
 | .bool b=>.val .bool b []
 | .string s=>.val .str (bytesOf s) []
 | .slice none 0 0=>.iP
 | .pointer none=>.su
 | _=>.undef
def uS (x:Operand) (k:xP→Prog α):Prog α:=match x with
 | .tmp t=>.slot t k
 | .const v=>k (.one (YA v))
 | .func f=>k (.one (.fn f []))
 | .global _=>.fail
def dN (x:Operand) (k:AV→Prog α):Prog α:=uS x fun
 | .one a=>k a
 | _=>.fail
def uX (a:AV) (k:(kk:K)→El kk→List Tag→Prog α):Prog α:=match a with
 | .val kk x tags=>nP tags kk.tys (k kk x tags)
 | .ref r g=>sD r fun R=>bif Nat.beq R.g g then k R.k R.x (R.out r R.k) else .fail
 | .sV r p h=>sD r fun R=>bif Nat.beq R.wR h then
   match aS p R.k R.x with
   | some d=>k d.1 d.2 (R.out r d.1)
   | none=>.fail
  else .fail
 | _=>.fail
def asInt (a:AV) (k:IntKind→Int→Prog α):Prog α:=match a with
 | .val (.int ik) n _=>k ik n
 | _=>.fail
def asBool (a:AV) (k:Bool→Prog α):Prog α:=match a with
 | .val .bool b _=>k b
 | _=>.fail
def Wr.um:Wr→List Nat
 | .r n _=>[n]
 | .s _ _=>[]
def FO:List Nat→Bool
 | []=>true
 | n :: l=>!az n l && FO l
def AU (ws:List Wr) (tags:List Tag):Bool:=tags.all fun t=>!az t.1 (ws.flatMap Wr.um)
def E9 (ws:List Wr) (tags:List Tag):Bool:=FO (ws.flatMap Wr.um) && AU ws tags
structure iD where
 k:K
 x:El k
 own:List TypeId
 tags:List Tag
 ws:List Wr
 keep:Bool
abbrev qz:Nat:=4294967294
def dY:List Stp→K→List TypeId
 | [],_=>[]
 | p,k=>qz :: ah p k
def tq (k:K):List TypeId:=match k.tys with
 | []=>[qz]
 | _=>[]
def Cz (R:Root) (p:List Stp) (d:Dat):Option Root:=
 match dX p R.k R.x (rU d) with
 | some z=>some { R with k:=z.1,x:=z.2,w:=d.1.tys++R.w,h:=tq d.1++d.1.tys++R.h }
 | none=>none
def xK (want:K) (a:AV) (k:iD→Prog α):Prog α:=match a with
 | .val kk x tags=>nP tags kk.tys (k ⟨kk,x,[],tags,[],false⟩)
 | .iP=>match want with
  | .sl e kk=>k ⟨.sl e kk,[],e :: kk.tys,[],[],false⟩
  | _=>.fail
 | .ref r g=>sD r fun R=>bif Nat.beq R.g g && !R.fixed then k ⟨R.k,R.x,R.own,R.tags,[.r r none],R.keep⟩ else .fail
 | .sV r p h=>sD r fun R=>bif Nat.beq R.wR h then
   match aS p R.k R.x with
   | some d=>bif p.all Stp.qL && !R.fixed && (!p.isEmpty || R.isVar) then
     match Cz R p d with
     | some R'=>k ⟨d.1,d.2,d.1.tys.filter (fun t=>az t R.own),R.tags,[.r r (some R')],R.keep⟩
     | none=>.fail
    else nP (R.out r d.1) d.1.tys (k ⟨d.1,d.2,[],R.out r d.1,[],false⟩)
   | none=>.fail
  else .fail
 | .part r g lo hi sz=>sD r fun R=>bif Nat.beq R.g g && !R.fixed && Nat.beq lo 0 then match R.k,R.x with
   | .sl e kk,xs=>bif kk.flat && az e R.own && Nat.beq kk.size sz then k ⟨.sl e kk,(show List (El kk) from xs).take hi,R.own,R.tags,[.r r none],R.keep⟩ else .fail
   | _,_=>.fail
  else .fail
 | _=>.fail
def Ae:List Int→List Int→Bool
 | _,[]=>false
 | [],_ :: _=>true
 | a :: x,b :: y=>decide (a<b) || (decide (a=b) && Ae x y)
def zD:(k:K)→El k→El k→Bool
 | .int _,x,y=>decide ((show Int from x)=y)
 | .bool,x,y=>(show Bool from x) == y
 | .str,x,y=>decide ((show List Int from x)=y)
 | .pair .unit .unit,_,_=>true
 | .pair a .unit,x,y=>zD a x.1 y.1
 | .pair a b,x,y=>zD a x.1 y.1 && zD b x.2 y.2
 | .st f,x,y=>zD f x y
 | _,_,_=>true
def v1 (k:K) (x:El k):xP:=.one (.val k x [])
def Ud (op:BinOp) (ik:IntKind) (x y:Int) (k:xP→Prog α):Prog α:=match op with
 | .add=>k (v1 (.int ik) (ik.wrap (x+y)))
 | .sub=>k (v1 (.int ik) (ik.wrap (x - y)))
 | .mul=>k (v1 (.int ik) (ik.wrap (x * y)))
 | .quo=>.vB (y≠0) inferInstance (k (v1 (.int ik) (ik.wrap (x.tdiv y))))
 | .rem=>.vB (y≠0) inferInstance (k (v1 (.int ik) (x.tmod y)))
 | .and=>k (v1 (.int ik) (ik.wrap (BitVec.ofInt ik.bits x &&& BitVec.ofInt ik.bits y).toNat))
 | .or=>k (v1 (.int ik) (ik.wrap (BitVec.ofInt ik.bits x ||| BitVec.ofInt ik.bits y).toNat))
 | .xor=>k (v1 (.int ik) (ik.wrap (BitVec.ofInt ik.bits x ^^^ BitVec.ofInt ik.bits y).toNat))
 | .andNot=>k (v1 (.int ik) (ik.wrap (BitVec.ofInt ik.bits x &&& ~~~ BitVec.ofInt ik.bits y).toNat))
 | .eql=>k (v1 .bool (decide (x=y)))
 | .neq=>k (v1 .bool (!decide (x=y)))
 | .lss=>k (v1 .bool (decide (x<y)))
 | .leq=>k (v1 .bool (decide (x≤y)))
 | .gtr=>k (v1 .bool (decide (x>y)))
 | .geq=>k (v1 .bool (decide (x≥y)))
 | _=>.fail
def Za (op:BinOp) (x y:List Int) (k:xP→Prog α):Prog α:=match op with
 | .add=>.vB (x.length+y.length≤9223372036854775807) inferInstance (k (v1 .str (x++y)))
 | .eql=>k (v1 .bool (decide (x=y)))
 | .neq=>k (v1 .bool (!decide (x=y)))
 | .lss=>k (v1 .bool (Ae x y))
 | .leq=>k (v1 .bool (Ae x y || decide (x=y)))
 | .gtr=>k (v1 .bool (!(Ae x y || decide (x=y))))
 | .geq=>k (v1 .bool (!Ae x y))
 | _=>.fail
def Qv (a b:AV):Option Bool:=match a,b with
 | .su, .su=>some true
 | .su, .ptr _ _ _ | .ptr _ _ _, .su=>some false
 | .su, .jg _ _ _ _ | .jg _ _ _ _, .su=>some false
 | _,_=>none
def Pv (T:iV) (t:TypeId) (op:BinOp) (a b:AV) (k:xP→Prog α):Prog α:=match a,b with
 | .val (.int ik) x _, .val (.int jk) y _=>match op with
  | .shl=>.vB (0≤y) inferInstance (k (v1 (.int ik) (ik.wrap (x * 2 ^ min y.toNat ik.bits))))
  | .shr=>.vB (0≤y) inferInstance (k (v1 (.int ik) (x.fdiv (2 ^ min y.toNat ik.bits))))
  | _=>bif Ad ik jk then Ud op ik x y k else .fail
 | .val .bool x _, .val .bool y _=>match T.ty t,op with
  | some .bool, .eql=>k (v1 .bool (x == y))
  | some .bool, .neq=>k (v1 .bool (!(x == y)))
  | _,_=>.fail
 | .val .str x _, .val .str y _=>Za op x y k
 | .val (.st c) x _, .val (.st d) y _=>match bP (.st d) (.st c) y with
  | some y'=>bif (c.flat && T.eq t) && (match T.ty t with | some kk=>kk.beq (.st c) | none=>false) then match op with
    | .eql=>k (v1 .bool (zD c x y'))
    | .neq=>k (v1 .bool (!zD c x y'))
    | _=>.fail
   else .fail
  | none=>.fail
 | a,b=>bif T.ptr t then match Qv a b,op with
  | some t, .eql=>k (v1 .bool t)
  | some t, .neq=>k (v1 .bool (!t))
  | _,_=>.fail
  else .fail
def Ym:Operand→Bool
 | .const (.slice none 0 0)=>true
 | _=>false
def abD:BinOp→Bool
 | .eql=>true
 | _=>false
def ag4 (T:iV) (t:TypeId) (a:AV) (k:AV→Prog α):Prog α:=match T.ty t with
 | some (.sl _ _)=>uX a fun kk x _=>match kk,x with
  | .sl _ kk,xs=>k (.Av (show List (El kk) from xs).isEmpty)
  | _,_=>.fail
 | _=>.fail
def RB (T:iV) (t:TypeId) (op:BinOp) (x y:Operand) (k:xP→Prog α):Prog α:=
 bif Ym y && abD op then dN x fun a=>ag4 T t a fun v=>k (.one v) else dN x fun a=>dN y fun b=>Pv T t op a b k
def unP (op:UnOp) (a:AV) (k:xP→Prog α):Prog α:=match op,a with
 | .neg, .val (.int ik) x _=>k (v1 (.int ik) (ik.wrap (0 - x)))
 | .xor, .val (.int ik) x _=>k (v1 (.int ik) (ik.wrap (BitVec.ofInt ik.bits (if ik.signed then -1 else ik.max) ^^^ BitVec.ofInt ik.bits x).toNat))
 | .not, .val .bool b _=>k (v1 .bool (!b))
 | _,_=>.fail
def aL (k:K) (x:El k) (ow:List TypeId) (tags:List Tag) (kind:GH) (keep:Bool:=false):Root:={ k,x,own:=ow,tags,w:=[],h:=[],g:=0,kind,fixed:=false,keep }
def Root.bt (R:Root):TypeId:=match R.kind with
 | .var t=>t
 | _=>4294967295
def eT (R:Root) (p:List Stp):TypeId:=(ah p R.k).getLastD R.bt
def IU (p:List Stp) (R:Root):Bool:=(ah p R.k).all fun t=>az t R.own
def addrOf (a:AV) (rd:Root→Nat→List Stp→Dat→Prog α) (ro:TypeId→Dat→List Tag→Prog α):Prog α:=match a with
 | .ptr r p h=>sD r fun R=>bif clean R.h h (dY p R.k) && IU p R then
   match aS p R.k R.x with
   | some d=>rd R r p d
   | none=>.fail
  else .fail
 | .jg bt k x tags=>nP tags (bt :: k.tys) (ro bt ⟨k,x⟩ tags)
 | _=>.fail
def Eu (T:iV) (sV:Bool) (t:TypeId) (a:AV) (k:AV→Prog α):Prog α:=
 match T.ty t with
 | none=>.fail
 | some kk=>match a with
  | .JK r g k0 p=>sD r fun R=>bif Nat.beq R.g g && R.k.beq k0 && p.all Stp.qL then
    match aS p R.k R.x with
    | some d=>bif d.1.beq kk then (bif d.1.flat then k (.val d.1 d.2 []) else k (.sV r p R.wR)) else .fail
    | none=>.fail
   else .fail
  | a=>addrOf a
   (fun R r p d=>bif d.1.beq kk then (bif sV && !d.1.flat then k (.sV r p R.wR) else k (.val d.1 d.2 (R.out r d.1))) else .fail)
   (fun _ d tags=>bif d.1.beq kk then k (.val d.1 d.2 (bif d.1.flat then [] else tags)) else .fail)
def bF (own bad:List TypeId):List TypeId:=own.filter fun t=>!az t bad
def iO:List Tag→List Tag→List Tag
 | [],m=>m
 | (r,n) :: l,m=>bif m.any fun t=>Nat.beq t.1 r && Nat.beq t.2 n then iO l m else (r,n) :: iO l m
def xq (r:Nat) (l:List Tag):List Tag:=l.filter fun t=>!Nat.beq t.1 r
def iD.bad (tk:iD):List TypeId:=aU tk.own tk.k
def OJ (R:Root) (r:Nat) (tags:List Tag) (bad:List TypeId):Bool:=tags.all (fun t=>!Nat.beq t.1 r) || match R.kind with
 | .par=>false
 | .var t=>!az t bad
 | _=>true
def OC (R:Root) (r:Nat) (p:List Stp) (d:Dat) (tk:iD):Option (Root×Dat):=
 bif !d.1.flat && p.all Stp.qL && !R.keep && (!p.isEmpty || R.isVar) && tk.tags.all (fun t=>!Nat.beq t.1 r) then
  match Cz R p d with
  | some Rg=>match tk.own.filter (fun t=>!az t R.own && az t d.1.tys && !az t Rg.k.tys) with
   | []=>none
   | l=>some ({ Rg with own:=l++R.own },rU d)
  | none=>none
 else none
def storeAt (kk:K) (r:Nat) (p:List Stp) (tk:iD) (R:Root) (d:Dat) (k:List Wr→Prog α):Prog α:=
 bif (d.1.beq kk || (d.1.beq kk.hole && p.all Stp.qL)) && (kk.flat || OJ R r tk.tags tk.bad) && (ah p R.k).all (fun t=>!az t tk.bad) then
  match dX p R.k R.x ⟨tk.k,tk.x⟩ with
  | some z=>bif R.keep && !kk.tys.all (fun t=>!az t R.own || az t tk.own) then .fail else
   k (tk.ws++[.r r (some { R with
    keep:=R.keep || tk.keep
    k:=z.1,x:=z.2
    own:=bF R.own tk.bad
    tags:=bif kk.flat then R.tags else iO (xq r tk.tags) R.tags
    w:=eT R p :: R.w
    h:=(bif d.1.beq kk then [] else tq kk)++kk.tys++R.h })])
  | none=>.fail
 else .fail
def Te (T:iV) (t:TypeId) (a v:AV) (k:List Wr→Prog α):Prog α:=
 match T.ty t,a with
 | some kk, .ptr r p h=>xK kk v fun tk=>bif tk.k.beq kk && tk.ws.all (fun w=>!w.loc.beq (.r r)) then
   sD r fun R=>bif clean R.h h (dY p R.k) && IU p R && AU tk.ws R.tags then
    match aS p R.k R.x with
    | some d=>match OC R r p d tk with
     | some q=>nP q.1.tags q.1.Co (storeAt kk r p tk q.1 q.2 k)
     | none=>storeAt kk r p tk R d k
    | none=>.fail
   else .fail
  else .fail
 | _,_=>.fail
def JZ (kk:K) (a:AV) (n:Nat) (k:AV→Prog α):Prog α:=match a with
 | .val (.st c) x tags=>bif (K.st c).beq kk then match aO n c x with
  | some d=>nP tags c.tys (k (.val d.1 d.2 (bif d.1.flat then [] else tags)))
  | none=>.fail
  else .fail
 | .ref r g=>sD r fun R=>bif Nat.beq R.g g && R.k.beq kk then
   match aS [.fO n] R.k R.x with
   | some d=>bif d.1.flat then k (.val d.1 d.2 []) else k (.sV r [.fO n] R.wR)
   | none=>.fail
  else .fail
 | .sV r p h=>sD r fun R=>bif Nat.beq R.wR h then
   match aS p R.k R.x,aS (p++[.fO n]) R.k R.x with
   | some d0,some d=>bif !d0.1.beq kk then .fail else bif d.1.flat then k (.val d.1 d.2 []) else k (.sV r (p++[.fO n]) R.wR)
   | _,_=>.fail
  else .fail
 | _=>.fail
def Oa (kk:K) (n:Nat):Bool:=match kk with
 | .st c=>(ah.Ia n c).isSome
 | _=>false
def MP:List Stp→K→Option K
 | [],k=>some k
 | .fO n :: p, .st c=>match ah.Ia n c with
  | some k=>MP p k
  | none=>none
 | _,_=>none
def ZZ (a:AV) (kk:K) (yes:Nat→Nat→Prog α) (no:Prog α):Prog α:=match a with
 | .ref r g=>.root r fun
  | some R=>bif R.fixed then (sD r fun R=>bif Nat.beq R.g g && R.k.beq kk then yes r g else .fail) else no
  | none=>no
 | _=>no
def vV (kk:K) (a:AV) (n:Nat) (k:AV→Prog α):Prog α:=match a with
 | .ptr r p h=>.root r fun
  | some R=>match aS p R.k R.x with
   | some d=>bif d.1.like kk && Oa kk n then k (.ptr r (p++[.fO n]) h) else .fail
   | none=>.fail
  | none=>.fail
 | .jg bt (.st c) x tags=>bif (K.st c).beq kk then match aO n c x with
  | some d=>nP tags (bt :: c.tys) (k (.jg bt d.1 d.2 tags))
  | none=>.fail
  else .fail
 | .JK r g k0 p=>match MP p k0 with
  | some k1=>bif k1.beq kk && Oa kk n then k (.JK r g k0 (p++[.fO n])) else .fail
  | none=>.fail
 | _=>.fail
def aK (i:Int) (n:Nat):Prop:=0≤i∧i<(n:Int)
instance (i:Int) (n:Nat):Decidable (aK i n):=inferInstanceAs (Decidable (_∧_))
def vY (k0:K) (a:AV) (i:Int) (k:AV→Prog α):Prog α:=match a with
 | .val (.sl e kk) xs tags=>bif (K.sl e kk).beq k0 then nP tags (e :: kk.tys) (.vB (aK i (show List (El kk) from xs).length) inferInstance
   (k (.jg e kk ((show List (El kk) from xs).getD i.toNat kk.zero) tags))) else .fail
 | .ref r g=>sD r fun R=>bif Nat.beq R.g g then
   match R.k,R.x with
   | .sl e kk,xs=>bif az e R.own && (K.sl e kk).beq k0 then .vB (aK i (show List (El kk) from xs).length) inferInstance (k (.ptr r [.idx i] (gJ R.h))) else .fail
   | _,_=>.fail
  else .fail
 | .sV r p h=>sD r fun R=>bif Nat.beq R.wR h then
   match aS p R.k R.x with
   | some ⟨.sl e kk,xs⟩=>bif !(K.sl e kk).beq k0 then .fail else bif az e R.own then .vB (aK i (show List (El kk) from xs).length) inferInstance (k (.ptr r (p++[.idx i]) (gJ R.h)))
     else .vB (aK i (show List (El kk) from xs).length) inferInstance (k (.jg e kk ((show List (El kk) from xs).getD i.toNat kk.zero) (R.out r (.sl e kk))))
   | _=>.fail
  else .fail
 | _=>.fail
structure DC where
 k:K
 x:El k
 bad:List TypeId
 tags:List Tag
 ws:List Wr
 keep:Bool
 all:List Tag
def iD.gN (tk:iD):List Tag:=match tk.bad with
 | []=>[]
 | _=>tk.tags
def CR:List (Nat×AV)→DC→(DC→Prog α)→Prog α
 | [],b,k=>k b
 | (n,a) :: l,b,k=>match b.k,b.x with
  | .st c,x=>match aO n c x with
   | some d=>xK d.1 a fun tk=>bif tk.k.beq d.1 then
     match cz n c x ⟨tk.k,tk.x⟩ with
     | some z=>CR l { k:=.st z.1,x:=z.2,bad:=tk.bad++b.bad,tags:=iO (tk.gN) b.tags,ws:=b.ws++tk.ws,keep:=tk.keep || b.keep,all:=tk.tags++b.all } k
     | none=>.fail
    else .fail
   | none=>.fail
  | _,_=>.fail
def Cw:List (Nat×Operand)→(List (Nat×AV)→Prog α)→Prog α
 | [],k=>k []
 | (n,x) :: l,k=>dN x fun a=>Cw l fun r=>k ((n,a) :: r)
def jR:List Operand→(List AV→Prog α)→Prog α
 | [],k=>k []
 | x :: l,k=>dN x fun a=>jR l fun r=>k (a :: r)
structure vP (kk:K) where
 xs:List (El kk)
 bad:List TypeId
 tags:List Tag
 ws:List Wr
 keep:Bool
 all:List Tag
def JS (kk:K):List (Nat×AV)→vP kk→(vP kk→Prog α)→Prog α
 | [],b,k=>k b
 | (n,a) :: l,b,k=>xK kk a fun tk=>match bP tk.k kk tk.x with
  | some y=>bif Nat.beq n (gJ b.xs) then JS kk l { xs:=b.xs++[y],bad:=tk.bad++b.bad,tags:=iO (tk.gN) b.tags,ws:=b.ws++tk.ws,keep:=tk.keep || b.keep,all:=tk.tags++b.all } k else .fail
  | none=>.fail
def Y9 (e:TypeId) (kk:K) (a:AV) (k:vP kk→Prog α):Prog α:=match a with
 | .val .str s _=>match bP (.int .u8) kk (0:Int) with
  | some _=>match bP (.sl e (.int .u8)) (.sl e kk) (show List Int from s) with
   | some xs=>k ⟨xs,[],[],[],false,[]⟩
   | none=>.fail
  | none=>.fail
 | .iP=>k ⟨[],[],[],[],false,[]⟩
 | .ref r g=>sD r fun R=>bif Nat.beq R.g g then
   match bP R.k (.sl e kk) R.x with
   | some xs=>bif kk.flat then k ⟨xs,[],[],[],false,[]⟩ else bif R.fixed then .fail else k ⟨xs,bif az e R.own then aU R.own kk else kk.tys,bif az e R.own && kk.tys.all (fun t=>az t R.own) then [] else R.tags,[.r r none],R.keep,R.tags⟩
   | none=>.fail
  else .fail
 | a=>uX a fun k' x tags=>match bP k' (.sl e kk) x with
   | some xs=>k ⟨xs,kk.tys,bif kk.flat then [] else tags,[],false,[]⟩
   | none=>.fail
def BM (T:iV) (d:Nat) (t:TypeId) (a b:AV) (k:List Wr→Prog α):Prog α:=
 match T.ty t with
 | some (.sl e kk)=>Y9 e kk b fun s=>bif az e s.bad then .fail else match a with
  | .iP=>.vB (s.xs.length * T.bytes e≤140737488355328) inferInstance (iL (aZ d 0)
    (k (s.ws++[.r (aZ d 0) (some (aL (.sl e kk) s.xs (e :: bF kk.tys s.bad) s.tags .anon s.keep)), .s d (.one (.ref (aZ d 0) 0))])))
  | .ref r g=>sD r fun R=>bif Nat.beq R.g g && !R.fixed && az e R.own && !(R.keep && !kk.tys.all (fun t=>!az t R.own || !az t s.bad)) && s.ws.all (fun w=>!w.loc.beq (.r r)) && AU s.ws R.tags then
    match bP R.k (.sl e kk) R.x with
    | some xs=>.vB (((show List (El kk) from xs).length+s.xs.length) * T.bytes e≤140737488355328) inferInstance
      (k (s.ws++[.r r (some { R with
        k:=.sl e kk,x:=(show List (El kk) from xs)++s.xs
        own:=bF R.own s.bad
        tags:=iO (xq r s.tags) R.tags
        w:=e :: R.w,h:=qz :: e :: R.h,g:=R.g+1,keep:=R.keep || s.keep }), .s d (.one (.ref r (R.g+1)))]))
    | none=>.fail
   else .fail
  | .sV r p h=>sD r fun R=>bif Nat.beq R.wR h && p.all Stp.qL && (!p.isEmpty || R.isVar) && !R.fixed && az e R.own && !(R.keep && !kk.tys.all (fun t=>!az t R.own || !az t s.bad)) && s.ws.all (fun w=>!w.loc.beq (.r r)) && AU s.ws R.tags then
    match aS p R.k R.x with
    | some dd=>match bP dd.1 (.sl e kk) dd.2,Cz R p dd with
     | some xs,some R'=>.vB (((show List (El kk) from xs).length+s.xs.length) * T.bytes e≤140737488355328) inferInstance (iL (aZ d 0)
       (k (s.ws++[.r r (some R'), .r (aZ d 0) (some (aL (.sl e kk) ((show List (El kk) from xs)++s.xs)
          (bF ((e :: kk.tys).filter fun t=>az t R.own) s.bad) (iO s.tags R.tags) .anon (R.keep || s.keep))), .s d (.one (.ref (aZ d 0) 0))])))
     | _,_=>.fail
    | none=>.fail
   else .fail
  | _=>.fail
 | _=>.fail
def ownRow (r g:Nat) (k:Root→(e:TypeId)→(kk:K)→List (El kk)→Prog α):Prog α:=sD r fun R=>bif Nat.beq R.g g then match R.k,R.x with
  | .sl e kk,xs=>bif kk.flat && az e R.own then k R e kk (show List (El kk) from xs) else .fail
  | _,_=>.fail
 else .fail
def Uq (k0:K) (a:AV) (lo hi mx:Option Int) (k:AV→Prog α):Prog α:=match a with
 | .ref r g=>ownRow r g fun _ e kk xs=>bif (K.sl e kk).beq k0 then
   match mx with
   | none=>.vB (0≤lo.getD 0∧lo.getD 0≤hi.getD (xs.length:Int)∧hi.getD (xs.length:Int)≤(xs.length:Int)) inferInstance (k (.part r g (lo.getD 0).toNat (hi.getD (xs.length:Int)).toNat kk.size))
   | some m=>bif hi.isSome then .vB (0≤lo.getD 0∧lo.getD 0≤hi.getD 0∧hi.getD 0≤m∧m≤(xs.length:Int)) inferInstance (k .undef) else .fail
  else .fail
 | .part r g l0 h0 sz=>ownRow r g fun _ e kk xs=>bif (K.sl e kk).beq k0 && Nat.beq kk.size sz && mx.isNone then
   .vB (0≤lo.getD 0∧lo.getD 0≤hi.getD ((h0 - l0:Nat):Int)∧(l0:Int)+hi.getD ((h0 - l0:Nat):Int)≤(xs.length:Int)) inferInstance
    (k (.part r g (l0+(lo.getD 0).toNat) (l0+(hi.getD ((h0 - l0:Nat):Int)).toNat) sz))
  else .fail
 | _=>.fail
def RQ (k0:K) (a:AV) (k:List Wr→Prog α):Prog α:=match a with
 | .part r g lo hi sz=>ownRow r g fun R e kk xs=>bif (K.sl e kk).beq k0 && Nat.beq kk.size sz then
   k [.r r (some { R with k:=.sl e kk,x:=xs.take lo++List.replicate (hi - lo) kk.zero++xs.drop hi,w:=e :: R.w })]
  else .fail
 | _=>.fail
def RS (k0:K) (d:Nat) (a b:AV) (k:List Wr→Prog α):Prog α:=match a,b with
 | .part r g l0 h0 sz, .part r' g' l1 h1 sz'=>ownRow r g fun R e kk xs=>bif (K.sl e kk).beq k0 && Nat.beq r r' && Nat.beq g g' && Nat.beq sz sz' && Nat.beq l0 0 && Nat.beq kk.size sz then
   .vB (h0≤l1) inferInstance (k [.r r (some { R with k:=.sl e kk,x:=xs.take h0++(xs.take h1).drop l1++xs.drop (h0+(h1 - l1)),w:=e :: R.w }), .s d (.one (.part r g 0 (h0+(h1 - l1)) sz))])
  else .fail
 | _,_=>.fail
def Xq (k0:K) (d:Nat) (a b:AV) (k:List Wr→Prog α):Prog α:=match a with
 | .ref r g=>ownRow r g fun R e kk xs=>bif (K.sl e kk).beq k0 then Y9 e kk b fun s=>
   .vB (s.xs.length≤xs.length) inferInstance (k [.r r (some { R with k:=.sl e kk,x:=s.xs++xs.drop s.xs.length,w:=e :: R.w }), .s d (.one (.val (.int .i64) (s.xs.length:Int) []))])
  else .fail
 | _=>.fail
abbrev Pp (e:TypeId) (kk:K):K:=.st (.pair kk (.pair (.sl e (.gap kk.size)) .unit))
def Qj:List Stp→List Int
 | []=>[]
 | .fO _ :: p=>Qj p
 | .idx i :: p=>i :: Qj p
def wC:List Stp→List Stp→Bool
 | [],[]=>true
 | .fO n :: p, .fO m :: q=>Nat.beq n m && wC p q
 | .idx _ :: p, .idx _ :: q=>wC p q
 | _,_=>false
def acL (T:iV) (d:Nat) (t:TypeId) (a b:AV) (k:List Wr→Prog α):Prog α:=match T.ty t,a,b with
 | some (.sl e kk), .sV r p h, .ref rb gb=>sD rb fun B=>bif Nat.beq B.g gb && !B.fixed && !Nat.beq r rb && p.all Stp.qL && !az qz (K.sl e kk).tys && (K.sl e kk).tys.all (fun t=>az t B.own) then
   match bP B.k (.sl e kk) B.x with
   | some ys=>sD r fun R=>bif Nat.beq R.wR h && !R.fixed && (K.sl e kk).tys.all (fun t=>az t R.own) && R.tags.all (fun t=>!Nat.beq t.1 rb) then
     match aS p R.k R.x with
     | some dd=>match bP dd.1 (.sl e kk) dd.2 with
      | some xs=>match dX p R.k R.x dd with
       | some z=>.vB ((show List (El kk) from ys).length=1∧((show List (El kk) from xs).length+1) * T.bytes e≤140737488355328) inferInstance (iL (aZ d 0)
         (k [.r rb none, .r r (some { R with k:=z.1,x:=z.2,w:=e :: R.w,h:=(K.sl e kk).tys++R.h }), .r (aZ d 0) (some (aL (Pp e kk) ((show List (El kk) from ys).getD 0 kk.zero,(([]:List Unit),())) (e :: kk.tys) [] .anon)),
          .s d (.one (.app r p (gJ (e :: R.w)+gJ ((K.sl e kk).tys++R.h)) (aZ d 0)))]))
       | none=>.fail
      | none=>.fail
     | none=>.fail
    else .fail
   | none=>.fail
  else .fail
 | _,_,_=>.fail
def FP (k0:K) (a:AV) (r:Nat) (p:List Stp) (n q:Nat) (k:List Wr→Prog α):Prog α:=match k0,a with
 | .sl e kk, .ptr r' p' h=>bif Nat.beq r r' && wC p p' && p.all Stp.qL && !Nat.beq r q then sD q fun Q=>bif Nat.beq Q.wR 0 && (e :: kk.tys).all (fun t=>az t Q.own) then
    match bP Q.k (Pp e kk) Q.x with
    | some y=>sD r fun R=>bif Nat.beq R.wR n && !R.fixed && clean R.h h (dY p' R.k) && (K.sl e kk).tys.all (fun t=>az t R.own) && R.tags.all (fun t=>!Nat.beq t.1 q) then
      match aS p R.k R.x with
      | some dd=>match bP dd.1 (.sl e kk) dd.2 with
       | some xs=>match dX p R.k R.x ⟨.sl e kk,(show List (El kk) from xs)++[(show El kk from y.1)]⟩ with
        | some z=>k [.r q none, .r r (some { R with k:=z.1,x:=z.2,w:=eT R p :: e :: R.w,h:=(K.sl e kk).tys++R.h })]
        | none=>.fail
       | none=>.fail
      | none=>.fail
     else .fail
    | none=>.fail
   else .fail
  else .fail
 | _,_=>.fail
def FU (k0:K) (a:AV) (r:Nat) (p:List Stp) (n m:Nat) (k:List Wr→Prog α):Prog α:=match k0,a with
 | .sl e kk, .ptr r' p' h=>bif Nat.beq r r' && wC p p' then .vB (Qj p=Qj p') inferInstance (sD r fun R=>bif Nat.beq R.wR n && !R.fixed && clean R.h h (dY p' R.k) && (K.sl e kk).tys.all (fun t=>az t R.own) then
      match aS p R.k R.x with
      | some dd=>match bP dd.1 (.sl e kk) dd.2 with
       | some xs=>match dX p R.k R.x ⟨.sl e kk,(show List (El kk) from xs).take m⟩ with
        | some z=>k [.r r (some { R with k:=z.1,x:=z.2,w:=eT R p :: (K.sl e kk).tys++R.w,h:=(K.sl e kk).tys++R.h })]
        | none=>.fail
       | none=>.fail
      | none=>.fail
     else .fail)
  else .fail
 | _,_=>.fail
end
end
section
open Go
def Cont.fst:(ks ls:List K)→Cont (ks++ls)→Cont ks
 | [],_,_=>()
 | _ :: ks,ls,c=>(c.1,Cont.fst ks ls c.2)
def Cont.snd:(ks ls:List K)→Cont (ks++ls)→Cont ls
 | [],_,c=>c
 | _ :: ks,ls,c=>Cont.snd ks ls c.2
abbrev SENT:Nat:=4294967295
structure cK where
 ids:List Tag
 wb:Option (Nat×List Stp×List TypeId×List TypeId)
 ws:List Wr
 bt:List TypeId:=[]
def idxOf:(p:List (Option Nat))→List Stp→Option (Cont (dF.into 0 p).kin)
 | [],[]=>some ()
 | some n :: p, .fO m :: q=>bif Nat.beq n m then idxOf p q else none
 | none :: p, .idx i :: q=>match idxOf p q with
  | some c=>some (i,c)
  | none=>none
 | _,_=>none
def pathOf:(p:List (Option Nat))→Cont (dF.into 0 p).kin→List Stp
 | [],_=>[]
 | some n :: p,c=>.fO n :: pathOf p c
 | none :: p,c=>.idx c.1 :: pathOf p c.2
section
variable {α:Type}
def oO (k:K) (own ow:List TypeId):Bool:=k.tys.all fun t=>az t own == az t ow
def TN:(ks:List K)→List (TypeId×Dat×List Tag)→(Cont ks→List Tag→Prog α)→Prog α
 | [],[],k=>k () []
 | kk :: ks,(t,d,tags) :: l,k=>nP tags (t :: d.1.tys) (match bP d.1 kk d.2 with
  | some x=>TN ks l fun c ts=>k (x,c) (iO tags ts)
  | none=>.fail)
 | _,_,_=>.fail
def jS:(ps:List dF)→List AV→(Cont (kin ps)→List cK→Prog α)→Prog α
 | [],[],k=>k () []
 | .val kk _ :: ps,a :: l,k=>
  let go (x:El kk) (tags:List Tag):Prog α:=jS ps l fun c is=>k (x,c) (⟨tags,none,[],[]⟩ :: is)
  match a with
  | .iP=>match kk,go with
   | .sl _ _,go=>go [] []
   | _,_=>.fail
  | a=>uX a fun k' x tags=>match bP k' kk x with
   | some y=>go y (bif kk.flat then [] else tags)
   | none=>.fail
 | .ro kk :: ps,a :: l,k=>
  let go (d:Dat) (tags:List Tag):Prog α:=match bP d.1 kk d.2 with
   | some y=>jS ps l fun c is=>k (y,c) (⟨tags,none,[],[]⟩ :: is)
   | none=>.fail
  addrOf a (fun R r _ d=>go d ((r,gJ R.w) :: R.tags)) (fun _ d tags=>go d tags)
 | .rw kk ow wt ht :: ps,a :: l,k=>match a with
  | .ptr r p h=>sD r fun R=>bif clean R.h h (dY p R.k) && IU p R then
    match aS p R.k R.x with
    | some d=>match bP d.1 kk d.2 with
     | some y=>bif oO kk R.own ow then jS ps l fun c is=>k (y,c) (⟨R.tags,some (r,p,wt,ht),[],[eT R p]⟩ :: is) else .fail
     | none=>.fail
    | none=>.fail
   else .fail
  | _=>.fail
 | .jC kk ow wt :: ps,a :: l,k=>
  let go (R:Root) (r:Nat) (p:List Stp) (d:Dat):Prog α:=match bP d.1 kk d.2 with
   | some y=>bif oO kk R.own ow then jS ps l fun c is=>k (y,c) (⟨R.tags,some (r,p,wt,kk.tys),[],[]⟩ :: is) else .fail
   | none=>.fail
  match a with
  | .sV r p h=>sD r fun R=>bif Nat.beq R.wR h then
    match aS p R.k R.x with
    | some d=>go R r p d
    | none=>.fail
   else .fail
  | .ref r g=>sD r fun R=>bif Nat.beq R.g g then go R r [] ⟨R.k,R.x⟩ else .fail
  | _=>.fail
 | .own kk ow :: ps,a :: l,k=>xK kk a fun tk=>match bP tk.k kk tk.x with
  | some y=>bif oO kk tk.own ow then jS ps l fun c is=>k (y,c) (⟨tk.tags,none,tk.ws,[]⟩ :: is) else .fail
  | none=>.fail
 | .fn f ks :: ps,a :: l,k=>match a with
  | .fn f' caps=>bif Nat.beq f f' then TN ks caps fun c tags=>jS ps l fun c' is=>k (Cont.app ks (kin ps) c c') (⟨tags,none,[],[]⟩ :: is) else .fail
  | _=>.fail
 | .into _ [] :: ps,a :: l,k=>match a with
  | .iP=>jS ps l fun c is=>k c (⟨[],none,[],[]⟩ :: is)
  | _=>.fail
 | _,_,_=>.fail
def cK.touched (i:cK):List Nat:=(match i.wb with | some (r,_)=>[r] | none=>[])++i.ws.flatMap Wr.um
def ED:List cK→Bool
 | []=>true
 | i :: l=>match i.wb with
  | some _=>l.all fun j=>j.wb.isNone
  | none=>ED l
def Af (r:Nat):List cK→Nat→Option Nat
 | [],_=>none
 | i :: is,n=>match i.wb with
  | some (r',_)=>bif Nat.beq r r' then some n else Af r is (n+1)
  | none=>Af r is (n+1)
def xN (is:List cK):List dF→List cK→Bool
 | .val k iA :: ps,i :: l=>(iA.all fun j=>match is[j]? with | some q=>q.wb.isSome | none=>false) && i.ids.all (fun t=>match Af t.1 is 0 with
   | some n=>az n iA && (match is[n]? with
     | some j=>j.bt.all fun b=>!az b k.tys
     | none=>false)
   | none=>!az t.1 (is.flatMap fun j=>j.ws.flatMap Wr.um)) && xN is ps l
 | _ :: ps,i :: l=>i.ids.all (fun t=>!az t.1 (is.flatMap cK.touched)) && xN is ps l
 | [],[]=>true
 | _,_=>false
def Jt:(ps:List dF)→List cK→Cont (jL ps)→(List Wr→Prog α)→Prog α
 | [],[],_,k=>k []
 | .rw kk _ _ _ :: ps,⟨_,some (r,p,wt,ht),_,_⟩ :: is,c,k=>.root r fun
  | some R=>match dX p R.k R.x ⟨kk,c.1⟩ with
   | some z=>Jt ps is c.2 fun ws=>k (.r r (some { R with k:=z.1,x:=z.2,w:=(eT R p :: wt)++R.w,h:=ht++R.h }) :: ws)
   | none=>.fail
  | none=>.fail
 | .jC kk _ _ :: ps,⟨_,some (r,p,wt,ht),_,_⟩ :: is,c,k=>.root r fun
  | some R=>match dX p R.k R.x ⟨kk,c.1⟩ with
   | some z=>Jt ps is c.2 fun ws=>k (.r r (some { R with k:=z.1,x:=z.2,w:=(SENT :: (kk.tys++wt))++R.w,h:=ht++R.h }) :: ws)
   | none=>.fail
  | none=>.fail
 | .val _ _ :: ps,_ :: is,c,k | .ro _ :: ps,_ :: is,c,k | .own _ _ :: ps,_ :: is,c,k | .fn _ _ :: ps,_ :: is,c,k | .into _ _ :: ps,_ :: is,c,k=>Jt ps is c k
 | _,_,_,_=>.fail
def Qx (ws:List Wr):List Nat→(List Tag→Prog α)→Prog α
 | [],k=>k []
 | r :: l,k=>bif fJ r then Qx ws l fun ts=>k ((r,0) :: ts) else
  match ws.find? (fun w=>w.loc.beq (.r r)) with
  | some (.r _ (some R))=>Qx ws l fun ts=>k ((r,gJ R.w) :: ts)
  | some _=>.fail
  | none=>.root r fun
   | some R=>Qx ws l fun ts=>k ((r,gJ R.w) :: ts)
   | none=>.fail
def Eo (is:List cK) (exts iA:List Nat):List Nat:=
 exts.flatMap (fun j=>match is[j]? with | some i=>i.ids.map (·.1) | none=>[])++
 iA.flatMap (fun j=>match is[j]? with
  | some i=>match i.wb with
   | some q=>[q.1]
   | none=>[]
  | none=>[])
def xU:List Nat→List Nat
 | []=>[]
 | n :: l=>bif az n l then xU l else n :: xU l
def yR (d:Nat) (is:List cK) (ws:List Wr):(rs:List kJ)→(c:Nat)→Cont (gZ rs)→(List AV→List Wr→Prog α)→Prog α
 | [],_,_,k=>k [] []
 | .val kk exts iA :: rs,c,x,k=>Qx ws (bif kk.flat then [] else xU (Eo is exts iA)) fun tags=>
   yR d is ws rs (c+1) x.2 fun as ws'=>k (.val kk x.1 tags :: as) ws'
 | .own kk ow exts iA :: rs,c,x,k=>Qx ws (bif kk.tys.all (fun t=>az t ow) then [] else xU (Eo is exts iA)) fun tags=>
   iL (aZ d c) (yR d is ws rs (c+1) x.2 fun as ws'=>k (.ref (aZ d c) 0 :: as) (.r (aZ d c) (some (aL kk x.1 ow tags .anon)) :: ws'))
 | .ptr t kk ow exts :: rs,c,x,k=>Qx ws (bif kk.tys.all (fun t=>az t ow) then [] else xU (Eo is exts [])) fun tags=>
   iL (aZ d c) (yR d is ws rs (c+1) x.2 fun as ws'=>k (.ptr (aZ d c) [] 0 :: as) (.r (aZ d c) (some (aL kk x.1 ow tags (.var t))) :: ws'))
 | .into j p :: rs,c,x,k=>bif Nat.beq c 0 && p.isEmpty && rs.isEmpty then match is[j]? with
   | some i=>match i.wb with
    | some (r,q,_,ht)=>match ws.find? (fun w=>w.loc.beq (.r r)) with
     | some (.r _ (some R))=>bif az qz ht then .fail else k [.xY r q (gJ R.w+gJ R.h) (show Int from x.1).toNat] []
     | _=>.fail
    | none=>.fail
   | none=>.fail
  else .fail
def Xj:List AV→xP
 | [a]=>.one a
 | l=>.Lc l
def Xn (n:Nat) (E:Entry) (dst:Option Nat) (Mq:List AV) (k:List Wr→Prog α):Prog α:=
 jS E.ps Mq fun c is=>bif FO (is.flatMap cK.touched) && ED is && xN is E.ps is then
  .opt _ (E.F n c) fun out=>Jt E.ps is (Cont.snd (gZ E.rs) (jL E.ps) out) fun ws=>
   match dst with
   | some d=>yR d is ws E.rs 0 (Cont.fst (gZ E.rs) (jL E.ps) out) fun as ws'=>k (is.flatMap cK.ws++ws++ws'++[.s d (Xj as)])
   | none=>k (is.flatMap cK.ws++ws)
 else .fail
def uA (f d:Nat):List (Nat×Option Nat×Entry)→Option Entry
 | []=>none
 | (g,none,E) :: l=>bif Nat.beq f g then some E else uA f d l
 | (g,some e,E) :: l=>bif Nat.beq f g && Nat.beq d e then some E else uA f d l
def VZ (mx:Bool):IntKind→Int→List AV→(Int→Prog α)→Prog α
 | _,x,[],k=>k x
 | ik,x, .val (.int jk) y _ :: l,k=>bif Ad ik jk then VZ mx ik (if mx then (if y>x then y else x) else (if y<x then y else x)) l k else .fail
 | _,_,_,_=>.fail
def Xp (T:iV) (d:Nat) (src dst:TypeId) (a:AV) (k:List Wr→Prog α):Prog α:=match T.ty src,T.ty dst with
 | some _,some (.int ik)=>match a with
  | .val (.int _) n _=>k [.s d (v1 (.int ik) (ik.wrap n))]
  | _=>.fail
 | some .str,some .str=>match a with
  | .val .str s _=>k [.s d (v1 .str s)]
  | _=>.fail
 | some (.sl _ (.int .u8)),some .str=>match a with
  | .iP=>k [.s d (v1 .str [])]
  | a=>uX a fun kk x _=>match kk,x with
   | .sl _ (.int .u8),xs=>k [.s d (v1 .str xs)]
   | _,_=>.fail
 | some .str,some (.sl e (.int .u8))=>match a with
  | .val .str s _=>iL (aZ d 0) (k [.r (aZ d 0) (some (aL (.sl e (.int .u8)) s [e] [] .anon)), .s d (.one (.ref (aZ d 0) 0))])
  | _=>.fail
 | _,_=>.fail
def U2:List AV→(List (TypeId×Dat×List Tag)→Prog α)→Prog α
 | [],k=>k []
 | a :: l,k=>addrOf a
   (fun R r p d=>bif Nat.beq (eT R p) SENT then .fail else U2 l fun cs=>k ((eT R p,d,(r,gJ R.w) :: R.tags) :: cs))
   (fun bt d tags=>U2 l fun cs=>k ((bt,d,tags) :: cs))
def S9 (k0:K) (a:AV) (lo hi:Option Int) (k:AV→Prog α):Prog α:=match a with
 | .val .str s _=>bif !k0.beq .str then .fail else
  let n:=(show List Int from s).length
  match lo,hi with
  | none,none=>k (.val .str s [])
  | some l,none=>.vB (0≤l∧l≤(n:Int)) inferInstance (k (.val .str ((show List Int from s).drop l.toNat) []))
  | none,some h=>.vB (0≤h∧h≤(n:Int)) inferInstance (k (.val .str ((show List Int from s).take h.toNat) []))
  | some l,some h=>.vB (0≤l∧l≤h∧h≤(n:Int)) inferInstance (k (.val .str (((show List Int from s).take h.toNat).drop l.toNat) []))
 | a=>uX a fun kk x tags=>match kk,x with
  | .sl e kk,xs=>bif !k0.beq (.sl e kk) then .fail else
   let xs:=(show List (El kk) from xs)
   match lo,hi with
   | none,none=>k (.val (.sl e kk) xs tags)
   | some l,none=>.vB (0≤l∧l≤(xs.length:Int)) inferInstance (k (.val (.sl e kk) (xs.drop l.toNat) tags))
   | none,some h=>.vB (0≤h∧h≤(xs.length:Int)) inferInstance (k (.val (.sl e kk) (xs.take h.toNat) tags))
   | some l,some h=>.vB (0≤l∧l≤h∧h≤(xs.length:Int)) inferInstance (k (.val (.sl e kk) ((xs.take h.toNat).drop l.toNat) tags))
  | _,_=>.fail
def Ij (x:Option Operand) (k:Option Int→Prog α):Prog α:=match x with
 | none=>k none
 | some y=>dN y fun a=>asInt a fun _ i=>k (some i)
def isZero:Option Operand→Bool
 | some (.const (.int _ 0))=>true
 | _=>false
def TM (hi:Hint) (n:Nat) (dst:Option Nat) (c:Call) (k:List Wr→Prog α):Prog α:=match c.callee with
 | .value f=>dN f fun
  | .fn f caps=>jR c.args.toList fun l=>match uA f (dst.getD 0) hi.calls with
   | some E=>bif Nat.beq E.f f then Xn n E dst (l++caps.map fun (t,dd,tags)=>.jg t dd.1 dd.2 tags) k else .fail
   | none=>.fail
  | _=>.fail
 | _=>.fail
def vW (d:Nat):List (Nat×List TypeId)→List TypeId
 | []=>[]
 | (e,l) :: m=>bif Nat.beq d e then l else vW d m
def Uh (hi:Hint) (d:Nat) (k:K):List TypeId:=match vW d hi.less with
 | []=>k.tys
 | l=>bF k.tys l
def Dw {A:Type}:Nat→List A→List (Nat×A)
 | _,[]=>[]
 | i,a :: l=>(i,a) :: Dw (i+1) l
def YB:K→List (Nat×AV)→Nat→Prog α→Prog α
 | .pair kk r,(n,a) :: l,i,p=>bif Nat.beq n i then xK kk a fun tk=>bif tk.k.beq kk then YB r l (i+1) p else .fail else .fail
 | .unit,[],_,p=>p
 | _,_,_,_=>.fail
def K9 (T:iV) (o:Oper) (d:Nat) (k:List Wr→Prog α):Prog α:=match o.op with
 | .slice t x lo hi mx=>match T.ty t with
  | some kk=>dN x fun a=>Ij lo fun lo=>Ij hi fun hi=>Ij mx fun mx=>Uq kk a lo hi mx fun u=>k [.s d (.one u)]
  | none=>.fail
 | .call c=>match c.callee with
  | .builtin .len=>jR c.args.toList fun
   | [.part _ _ lo hi _]=>match (c.argTypes[0]?).bind T.ty with
    | some (.sl _ _)=>k [.s d (.one (.val (.int .i64) ((hi - lo:Nat):Int) []))]
    | _=>.fail
   | _=>.fail
  | .builtin .append=>jR c.args.toList fun
   | [a,b]=>match (c.argTypes[0]?).bind T.ty,(c.argTypes[1]?).bind T.ty with
    | some (.sl e0 k0),some (.sl _ _)=>RS (.sl e0 k0) d a b k
    | _,_=>.fail
   | _=>.fail
  | .builtin .copy=>jR c.args.toList fun
   | [a,b]=>match (c.argTypes[0]?).bind T.ty,(c.argTypes[1]?).bind T.ty with
    | some (.sl e0 k0),some (.sl _ _)=>Xq (.sl e0 k0) d a b k
    | _,_=>.fail
   | _=>.fail
  | _=>.fail
 | .build t ps=>match T.ty t with
  | some (.st c)=>Cw ps.toList fun l=>YB c l 0 (k [.s d (.lit t c (l.map (·.2)))])
  | _=>.fail
 | _=>.fail
def adG (T:iV) (s:Nat) (k:List Wr→Prog α):Prog α:=.slot s fun
 | .lit t c l=>bif (match T.ty t with | some kk=>kk.beq (.st c) | none=>false) then CR (Dw 0 l) ⟨.st c,(K.st c).zero,[],[],[],false,[]⟩ fun b=>
   bif !E9 b.ws b.all then .fail else iL (aZ s 1) (k (b.ws++[.r (aZ s 1) (some (aL b.k b.x (bF b.k.tys b.bad) b.tags .anon b.keep)), .s s (.one (.ref (aZ s 1) 0))]))
  else .fail
 | _=>.fail
def Bq:List Stp→List Stp→Bool
 | [.fO i],[.fO j]=>!Nat.beq i j
 | _,_=>false
def freshen (r:Nat) (p:List Stp) (v v':Nat):AV→AV
 | .sV q p' n=>bif Nat.beq r q && Nat.beq n v && Bq p p' then .sV q p' v' else .sV q p' n
 | a=>a
def Sj (r:Nat) (p:List Stp) (v:Nat):List Wr→AV→AV
 | [.r _ (some R)]=>freshen r p v R.wR
 | _=>fun a=>a
def Ta (s s2:Nat) (k:List Wr→Prog α):Prog α:=.slot s fun
 | .one (.sV r p v)=>xK .unit (.sV r p v) fun tk=>bif Nat.beq s s2 || tk.ws.isEmpty then .fail else iL (aZ s 1) (.slot s2 fun
  | .lit t c l=>k (tk.ws++[.r (aZ s 1) (some (aL tk.k tk.x tk.own tk.gN .anon tk.keep)), .s s (.one (.ref (aZ s 1) 0)), .s s2 (.lit t c (l.map (Sj r p v tk.ws)))])
  | _=>.fail)
 | _=>.fail
def shares (r:Nat) (l:List AV):Bool:=l.any fun
 | .sV q _ _=>Nat.beq r q
 | _=>false
def splits (s2:Nat):List (Nat×Operand)→Prog (List Wr)
 | []=>.ret []
 | (_, .tmp s) :: l=>.slot s fun
  | .one (.sV r _ _)=>.slot s2 fun
   | .lit _ _ m=>bif shares r m then aaM (Ta s s2 .ret) (splits s2 l) else splits s2 l
   | _=>.fail
  | _=>splits s2 l
 | _ :: l=>splits s2 l
def BP:List (Nat×Operand)→(Nat→Prog α)→Prog α
 | [],_=>.fail
 | (_, .tmp s) :: l,k=>.slot s fun
  | .lit _ _ _=>k s
  | _=>BP l k
 | _ :: l,k=>BP l k
def acN (T:iV) (d:Nat) (t:TypeId) (ps:Array (Nat×Operand)):Prog (List Wr):=match T.ty t with
 | some (.st c)=>Cw ps.toList fun l=>CR l ⟨.st c,(K.st c).zero,[],[],[],false,[]⟩ fun b=>bif !E9 b.ws b.all then .fail else bif b.k.tys.all fun t=>az t b.bad then
   .ret (b.ws++[.s d (.one (.val b.k b.x b.tags))])
  else iL (aZ d 0) (.ret (b.ws++[.r (aZ d 0) (some (aL b.k b.x (bF b.k.tys b.bad) b.tags .anon b.keep)), .s d (.one (.ref (aZ d 0) 0))]))
 | _=>.fail
def Ng (T:iV) (d:Nat) (t:TypeId) (ps:Array (Nat×Operand)):Prog (List Wr):=
 BP ps.toList fun s=>aaM (splits s ps.toList) (aaM (adG T s .ret) (acN T d t ps))
def OO (T:iV) (o:Oper) (d:Nat) (k:List Wr→Prog α):Prog α:=match o.op with
 | .build t ps=>(Ng T d t ps).bind k
 | .call c=>match c.callee with
  | .builtin .append=>jR c.args.toList fun
   | [a,b]=>match c.argTypes[0]?,(c.argTypes[1]?).bind T.ty with
    | some t,some (.sl _ _)=>acL T d t a b k
    | _,_=>.fail
   | _=>.fail
  | _=>.fail
 | .load t x=>dN x fun a=>Eu T true t a fun u=>match T.ty t with
  | some kk=>xK kk u fun tk=>iL (aZ d 0) (k (tk.ws++[Wr.r (aZ d 0) (some (aL tk.k tk.x tk.own tk.gN .anon tk.keep)),Wr.s d (.one (.ref (aZ d 0) 0))]))
  | none=>.fail
 | _=>.fail
def Tf (T:iV) (t:TypeId) (a v:AV) (k:List Wr→Prog α):Prog α:=match v with
 | .xY r p n m=>match T.ty t with
  | some k0=>FU k0 a r p n m k
  | none=>.fail
 | .app r p n q=>match T.ty t with
  | some k0=>FP k0 a r p n q k
  | none=>.fail
 | v=>Te T t a v k
def abR (T:iV) (hi:Hint) (n:Nat) (o:Oper) (k:List Wr→Prog α):Prog α:=match o.op with
 | .store t x v=>dN x fun a=>dN v fun v=>Tf T t a v k
 | .call c=>match c.callee with
  | .builtin .clear=>jR c.args.toList fun
   | [a]=>match (c.argTypes[0]?).bind T.ty with
    | some (.sl e0 k0)=>RQ (.sl e0 k0) a k
    | _=>.fail
   | _=>.fail
  | _=>TM hi n none c k
 | _=>.fail
def abQ (T:iV) (hi:Hint) (n:Nat) (o:Oper) (d:Nat) (k:List Wr→Prog α):Prog α:=
 let put (a:AV):Prog α:=k [.s d (.one a)]
 match o.op with
 | .move x=>uS x fun a=>k [.s d a]
 | .assign x=>uS x fun
  | .one .iP=>match T.ty o.type with
   | some (.sl e kk)=>.root (aZ d 0) fun
    | none=>k [.r (aZ d 0) (some (aL (.sl e kk) [] (e :: Uh hi d kk) [] .anon)), .s d (.one (.ref (aZ d 0) 0))]
    | some _=>k [.s d (.one .iP)]
   | _=>.fail
  | a=>k [.s d a]
 | .pick c a b=>dN c fun c=>asBool c fun c=>uS a fun a=>uS b fun b=>.br c (k [.s d a]) (k [.s d b])
 | .alloc t=>match T.ty t with
  | some kk=>iL (aZ d 0) (k [.r (aZ d 0) (some (aL kk kk.zero kk.tys [] (.var t))), .s d (.one (.ptr (aZ d 0) [] 0))])
  | none=>.fail
 | .box t x=>match T.ty t with
  | some kk=>dN x fun a=>ZZ a kk (fun r g=>put (.JK r g kk [])) <| xK kk a fun tk=>bif tk.k.beq kk && !az t tk.bad then
    iL (aZ d 0) (k (tk.ws++[.r (aZ d 0) (some (aL tk.k tk.x tk.own tk.gN (.var t) tk.keep)), .s d (.one (.ptr (aZ d 0) [] 0))]))
   else .fail
  | none=>.fail
 | .load t x=>dN x fun a=>Eu T (az d hi.ajZ) t a put
 | .nilCheck x=>dN x fun
  | .ptr r p h=>put (.ptr r p h)
  | .jg bt kk y tags=>put (.jg bt kk y tags)
  | _=>.fail
 | .binOp op t x y _=>RB T t op x y fun v=>k [.s d v]
 | .unOp op _ x=>dN x fun a=>unP op a fun v=>k [.s d v]
 | .convert s t x=>dN x fun a=>Xp T d s t a k
 | .field t x f=>match T.ty t with
  | some kk=>dN x fun a=>JZ kk a f put
  | none=>.fail
 | .fieldAddr t x f=>match T.ty t with
  | some kk=>dN x fun a=>vV kk a f put
  | none=>.fail
 | .indexAddr t x i=>match T.ty t with
  | some kk=>dN x fun a=>dN i fun i=>asInt i fun _ i=>vY kk a i put
  | none=>.fail
 | .index t x i=>dN x fun a=>dN i fun i=>asInt i fun _ i=>match T.ty t,a with
  | some .str, .val .str s _=>.vB (aK i (show List Int from s).length) inferInstance (put (.val (.int .u8) ((show List Int from s).getD i.toNat 0) []))
  | _,_=>.fail
 | .extract x i=>uS x fun
  | .Lc l=>match l[i]? with
   | some a=>put a
   | none=>.fail
  | _=>.fail
 | .build t ps=>match T.ty t with
  | some (.st c)=>Cw ps.toList fun l=>CR l ⟨.st c,(K.st c).zero,[],[],[],false,[]⟩ fun b=>bif !E9 b.ws b.all then .fail else bif b.k.tys.all fun t=>az t b.bad then
    k (b.ws++[.s d (.one (.val b.k b.x b.tags))])
   else iL (aZ d 0) (k (b.ws++[.r (aZ d 0) (some (aL b.k b.x (bF b.k.tys b.bad) b.tags .anon b.keep)), .s d (.one (.ref (aZ d 0) 0))]))
  | _=>.fail
 | .buildSlice t len ps=>match T.ty t with
  | some (.sl e kk)=>Cw ps.toList fun l=>JS kk l ⟨[],[],[],[],false,[]⟩ fun b=>bif !(E9 b.ws b.all && Nat.ble (len * kk.size) 16777216) then .fail else bif Nat.beq (gJ b.xs) len && !az e b.bad then
    iL (aZ d 0) (k (b.ws++[.r (aZ d 0) (some (aL (.sl e kk) b.xs (e :: bF (Uh hi d kk) b.bad) b.tags .anon b.keep)), .s d (.one (.ref (aZ d 0) 0))]))
   else bif Nat.beq (gJ b.xs) 0 then
    iL (aZ d 0) (k [.r (aZ d 0) (some (aL (.sl e kk) (List.replicate len kk.zero) (e :: kk.tys) [] .anon)), .s d (.one (.ref (aZ d 0) 0))])
   else .fail
  | _=>.fail
 | .makeSlice t x y=>match T.ty t with
  | some (.sl e kk)=>dN x fun a=>dN y fun b=>asInt a fun ik i=>asInt b fun jk j=>bif Ad ik .i64 && Ad jk .i64 then
    .vB (i=j∧0≤i∧i * T.bytes e≤140737488355328) inferInstance (iL (aZ d 0)
     (k [.r (aZ d 0) (some (aL (.sl e kk) (List.replicate i.toNat kk.zero) (e :: kk.tys) [] .anon)), .s d (.one (.ref (aZ d 0) 0))]))
   else .fail
  | _=>.fail
 | .makeFunc (.func f) first caps=>bif first.isEmpty then jR caps.toList fun l=>U2 l fun cs=>put (.fn f cs) else .fail
 | .slice t x lo hi mx=>match T.ty t with
  | some kk=>bif isZero lo && isZero hi && isZero mx then match kk with
    | .sl _ _=>dN x fun
     | .iP=>put .iP
     | a=>uX a fun k' _ _=>bif k'.beq kk then put .iP else .fail
    | _=>.fail
   else match mx with
    | none=>dN x fun a=>Ij lo fun lo=>Ij hi fun hi=>S9 kk a lo hi put
    | some _=>.fail
  | none=>.fail
 | .call c=>match c.callee with
  | .builtin .len=>jR c.args.toList fun
   | [.iP]=>match (c.argTypes[0]?).bind T.ty with
    | some (.sl _ _)=>put (.val (.int .i64) 0 [])
    | _=>.fail
   | [.val .str s _]=>match (c.argTypes[0]?).bind T.ty with
    | some .str=>put (.val (.int .i64) ((show List Int from s).length:Int) [])
    | _=>.fail
   | [a]=>match (c.argTypes[0]?).bind T.ty with
    | some (.sl _ _)=>uX a fun kk x _=>match kk,x with
     | .sl _ kk,xs=>put (.val (.int .i64) ((show List (El kk) from xs).length:Int) [])
     | _,_=>.fail
    | _=>.fail
   | _=>.fail
  | .builtin .append=>jR c.args.toList fun
   | [a,b]=>match c.argTypes[0]?,(c.argTypes[1]?).bind T.ty with
    | some t,some (.sl _ _)=>BM T d t a b k
    | some t,some .str=>BM T d t a b k
    | _,_=>.fail
   | _=>.fail
  | .builtin .min=>jR c.args.toList fun
   | .val (.int ik) x _ :: l=>VZ false ik x l fun z=>put (.val (.int ik) z [])
   | _=>.fail
  | .builtin .max=>jR c.args.toList fun
   | .val (.int ik) x _ :: l=>VZ true ik x l fun z=>put (.val (.int ik) z [])
   | _=>.fail
  | .value _=>TM hi n (some d) c k
  | _=>.fail
 | _=>.fail
def Ho (T:iV) (hi:Hint) (n:Nat) (o:Oper) (k:List Wr→Prog α):Prog α:=match o.dst with
 | some d=>bif Nat.blt d hi.nt then (bif az d hi.parts then K9 T o d k else bif az d hi.apps then OO T o d k else abQ T hi n o d k) else .fail
 | none=>abR T hi n o k
end
variable {R:Type}
def refine (σ:St) (s:Nat) (b:Bool) (T:List Tag):St:={ σ with slots:=upd σ.slots s (.one (.val .bool b T)) }
def guardOf (ops:Array Oper) (o:Oper):Option (Option Nat×Bool):=match o.guard with
 | none=>none
 | some (g,want)=>some ((ops[g]?).bind (·.dst),want)
def guarded (σ:St) (ops:Array Oper) (o:Oper) (go:List Loc→St→Option R) (skip:List Loc→St→Option R):Option R:=match guardOf ops o with
 | none=>go [] σ
 | some (some s,want)=>match σ.slots s with
  | .one (.val .bool b T)=>if b=true then (bif want then go [.s s] (refine σ s true T) else skip [.s s] (refine σ s true T))
    else (bif want then skip [.s s] (refine σ s false T) else go [.s s] (refine σ s false T))
  | .Lc []=>skip [.s s] σ
  | _=>none
 | some (none,_)=>none
def JP (hi:Hint) (o:Oper):Bool:=match o.dst with
 | some d=>Nat.blt d hi.nt
 | none=>true
def Hg (o:Oper):List Wr:=match o.dst with
 | some d=>[.s d (.Lc [])]
 | none=>[]
def Eg (T:iV) (hi:Hint) (n:Nat) (ops:Array Oper):List Oper→St→(St→Option R)→Option R
 | [],σ,K=>K σ
 | o :: l,σ,K=>guarded σ ops o
   (fun _ σ=>(Ho T hi n o .ret).run σ fun ws=>Eg T hi n ops l (aB ws σ) K)
   (fun _ σ=>bif JP hi o then Eg T hi n ops l (aB (Hg o) σ) K else none)
structure Eff where
 i:Nat
 rd:List Loc
 wr:List Loc
def VX (x:Loc):List Loc→Bool
 | []=>false
 | y :: l=>bif x.beq y then true else VX x l
def NK (a b:List Loc):Bool:=a.all fun x=>!VX x b
def binders (ops:Array Oper) (i:Nat):List Nat:=((((ops[i]?).getD default).after.toList.filter (Region.binds .any)).map (·.on))
def leads (ops:Array Oper):Nat→Nat→Nat→Bool
 | 0,_,_=>false
 | f+1,j,i=>az j (binders ops i) || (binders ops i).any fun b=>Nat.blt j b && leads ops f j b
def GL (ops:Array Oper) (e:Eff) (l:List Eff):Bool:=
 (binders ops e.i).all (fun b=>Nat.blt b e.i) && l.all fun b=>az b.i (binders ops e.i) || ((NK b.wr (e.rd++e.wr) && NK b.rd e.wr) || leads ops 6 b.i e.i)
def JW (T:iV) (hi:Hint) (n:Nat) (ops:Array Oper):List Oper→Nat→List Eff→St→(St→Option R)→Option R
 | [],_,_,σ,K=>K σ
 | o :: l,i,es,σ,K=>guarded σ ops o
   (fun g σ=>(Ho T hi n o .ret).IA σ g fun ws rd=>
    bif GL ops ⟨i,rd,ws.map Wr.loc⟩ es then JW T hi n ops l (i+1) (⟨i,rd,ws.map Wr.loc⟩ :: es) (aB ws σ) K else none)
   (fun g σ=>bif JP hi o && GL ops ⟨i,g,(Hg o).map Wr.loc⟩ es then JW T hi n ops l (i+1) (⟨i,g,(Hg o).map Wr.loc⟩ :: es) (aB (Hg o) σ) K else none)
inductive OT where
 | undef
 | val (k:K) (ids:List Nat)
 | iP
 | ref (r:Nat)
 | ptr (r:Nat) (p:List (Option Nat))
 | jg (bt:TypeId) (k:K) (ids:List Nat)
 | su
 | fn (f:Nat) (caps:List (TypeId×K×List Nat))
def RH:List (TypeId×K×List Nat)→List K
 | []=>[]
 | c :: l=>c.2.1 :: RH l
def OT.ks:OT→List K
 | .val k _ | .jg _ k _=>[k]
 | .ptr _ p=>(dF.into 0 p).kin
 | .fn _ caps=>RH caps
 | _=>[]
structure Pg where
 k:K
 own:List TypeId
 ids:List Nat
 kind:GH
 fixed:Bool
 keep:Bool
 log:Option (K×List TypeId×List TypeId)
def bq (σ:St) (tys:List TypeId):List Tag→Bool
 | []=>true
 | (r,n) :: l=>(bif fJ r then true else match σ.roots r with
  | some R=>!R.aX && clean R.w n tys
  | none=>false) && bq σ tys l
def oL (rs:List Nat):List Tag→List Nat
 | []=>[]
 | (r,_) :: l=>bif (fJ r || az r rs) && !az r (oL rs l) then r :: oL rs l else oL rs l
def shP:List Stp→List (Option Nat)
 | []=>[]
 | .fO n :: p=>some n :: shP p
 | .idx _ :: p=>none :: shP p
def K7 (rs:List Nat):List (TypeId×Dat×List Tag)→List (TypeId×K×List Nat)
 | []=>[]
 | (t,d,tags) :: l=>(t,d.1,oL rs tags) :: K7 rs l
def XB (rs ex:List Nat):List Nat:=ex.filter fun i=>fJ i || az i rs
def shA (rs ex:List Nat):AV→OT
 | .undef=>.undef
 | .val k _ tags=>.val k (oL rs tags++XB rs ex)
 | .iP=>.iP
 | .ref r _=>.ref r
 | .sV _ _ _=>.undef
 | .ptr r p _=>.ptr r (shP p)
 | .jg bt k _ tags=>.jg bt k (oL rs tags)
 | .su=>.su
 | .JK _ _ _ _=>.undef
 | .Av _=>.undef
 | .part _ _ _ _ _=>.undef
 | .xY _ _ _ _=>.undef
 | .app _ _ _ _=>.undef
 | .fn f caps=>.fn f (K7 rs caps)
def MC (t:TypeId) (ids:List Nat):Bool:=!Nat.beq t SENT || ids.all fJ
def zA (σ:St) (rs:List Nat):(cs:List (TypeId×K×List Nat))→List (TypeId×Dat×List Tag)→Option (Cont (RH cs))
 | [],[]=>some ()
 | (t,k,ids) :: cs,(t',d,tags) :: l=>bif Nat.beq t t' && bq σ (t :: k.tys) tags && mQ (oL rs tags) ids && MC t ids then
   match bP d.1 k d.2,zA σ rs cs l with
   | some x,some c=>some (x,c)
   | _,_=>none
  else none
 | _,_=>none
def U8 (σ:St) (rs:List Nat):(sh:OT)→AV→Option (Cont sh.ks)
 | .undef,_=>some ()
 | .val k ids, .val k' x tags=>bif bq σ k.tys tags && mQ (oL rs tags) ids then
   match bP k' k x with
   | some y=>some (y,())
   | none=>none
  else none
 | .iP, .iP=>some ()
 | .ref r, .ref r' g=>bif Nat.beq r r' && az r rs && (match σ.roots r with | some R=>Nat.beq R.g g | none=>false) then some () else none
 | .ptr r p, .ptr r' q h=>bif Nat.beq r r' && az r rs && (match σ.roots r with | some R=>clean R.h h (dY q R.k) | none=>false) then idxOf p q else none
 | .jg bt k ids, .jg bt' k' x tags=>bif Nat.beq bt bt' && bq σ (bt :: k.tys) tags && mQ (oL rs tags) ids && MC bt ids then
   match bP k' k x with
   | some y=>some (y,())
   | none=>none
  else none
 | .su, .su=>some ()
 | .fn f cs, .fn f' caps=>bif Nat.beq f f' then zA σ rs cs caps else none
 | _,_=>none
def KF:(cs:List (TypeId×K×List Nat))→Cont (RH cs)→List (TypeId×Dat×List Tag)
 | [],_=>[]
 | (t,k,ids) :: cs,c=>(t,⟨k,c.1⟩,ids.map fun r=>(r,0)) :: KF cs c.2
def mkA:(sh:OT)→Cont sh.ks→AV
 | .undef,_=>.undef
 | .val k ids,c=>.val k c.1 (ids.map fun r=>(r,0))
 | .iP,_=>.iP
 | .ref r,_=>.ref r 0
 | .ptr r p,c=>.ptr r (pathOf p c) 0
 | .jg bt k ids,c=>.jg bt k c.1 (ids.map fun r=>(r,0))
 | .su,_=>.su
 | .fn f cs,c=>.fn f (KF cs c)
def shS (wd:List (Nat×List Nat)) (rs:List Nat) (σ:St):List Nat→List (Nat×OT)
 | []=>[]
 | s :: l=>(match σ.slots s with
  | .one a=>(s,shA rs (vW (2 * s) wd) a)
  | _=>(s, .undef)) :: shS wd rs σ l
def VM:List (Nat×OT)→List K
 | []=>[]
 | (_,sh) :: l=>sh.ks++VM l
def je (r:Nat):List (Nat×K×List TypeId×List TypeId)→Option (K×List TypeId×List TypeId)
 | []=>none
 | (q,l) :: ls=>bif Nat.beq r q then some l else je r ls
def shR (wd:List (Nat×List Nat)) (jf:List (Nat×K×List TypeId×List TypeId)) (rs:List Nat) (σ:St):List Nat→Option (List (Nat×Pg))
 | []=>some []
 | r :: l=>match σ.roots r,shR wd jf rs σ l with
  | some R,some q=>some ((r,⟨R.k,R.own,oL rs R.tags++(XB rs (vW (2 * r+1) wd)).filter (fun q=>!Nat.beq q r),R.kind,R.fixed,R.keep,je r jf⟩) :: q)
  | _,_=>none
def Zv:List (Nat×Pg)→List K
 | []=>[]
 | (_,sh) :: l=>sh.k :: Zv l
def ctS (σ:St) (rs:List Nat):(l:List (Nat×OT))→Option (Cont (VM l))
 | []=>some ()
 | (s,sh) :: l=>match σ.slots s with
  | .one a=>match U8 σ rs sh a,ctS σ rs l with
   | some c,some d=>some (Cont.app sh.ks (VM l) c d)
   | _,_=>none
  | _=>match sh with
   | .undef=>match ctS σ rs l with
    | some d=>some d
    | none=>none
   | _=>none
def Y1:GH→GH→Bool
 | .anon, .anon | .par, .par | .dead, .dead=>true
 | .var a, .var b=>Nat.beq a b
 | _,_=>false
def CE (R:Root):Option (List TypeId×List TypeId)→Bool
 | some (wt,ht)=>mQ R.w wt && mQ R.ew wt && mQ R.h ht && mQ R.eh ht && Nat.beq R.g 0
 | none=>true
def adD (R:Root):Option (K×List TypeId×List TypeId)→Bool
 | some (k,l)=>R.k.beq k && CE R (some l)
 | none=>true
def wB (R:Root) (l:List TypeId):Root:={ R with own:=bF R.own l,w:=l++R.w }
def YE (l:List TypeId) (r:Nat) (σ:St):St:=match l with
 | []=>σ
 | l=>match σ.roots r with
  | some R=>bif R.aX || !bq σ R.Co R.tags || !R.own.any (fun t=>az t l) then σ else { σ with roots:=upd σ.roots r (some (wB R l)) }
  | none=>σ
def Db (hi:Hint):List Nat→St→St
 | [],σ=>σ
 | r :: rs,σ=>Db hi rs (YE (vW (1000000+r) hi.less) r σ)
def ctR (σ:St) (rs:List Nat):(l:List (Nat×Pg))→Option (Cont (Zv l))
 | []=>some ()
 | (r,sh) :: l=>match σ.roots r with
  | some R=>bif bq σ R.Co R.tags && mQ (oL rs R.tags) sh.ids && oO sh.k R.own sh.own && Y1 R.kind sh.kind && (R.fixed == sh.fixed) && (R.keep == sh.keep) && !R.aX && adD R sh.log then
    match bP R.k sh.k R.x,ctR σ rs l with
    | some x,some d=>some (x,d)
    | _,_=>none
   else none
  | none=>none
def mkS:(l:List (Nat×OT))→Cont (VM l)→Nat→xP
 | [],_,_=>.one .undef
 | (s,sh) :: l,c,n=>bif Nat.beq n s then .one (mkA sh (Cont.fst sh.ks (VM l) c)) else mkS l (Cont.snd sh.ks (VM l) c) n
def ag0:Option (K×List TypeId×List TypeId)→List TypeId
 | some (_,l,_)=>l
 | none=>[]
def agZ:Option (K×List TypeId×List TypeId)→List TypeId
 | some (_,_,l)=>l
 | none=>[]
def mkR:(l:List (Nat×Pg))→Cont (Zv l)→Nat→Option Root
 | [],_,_=>none
 | (r,sh) :: l,c,n=>bif Nat.beq n r then some { k:=sh.k,x:=c.1,own:=sh.own,tags:=sh.ids.map fun r=>(r,0),w:=[],h:=[],g:=0,kind:=sh.kind,fixed:=sh.fixed,keep:=sh.keep,ew:=ag0 sh.log,eh:=agZ sh.log } else mkR l c.2 n
structure PSt where
 ss:List (Nat×OT)
 rs:List (Nat×Pg)
abbrev PSt.V (s:PSt):Type:=Cont (VM s.ss++Zv s.rs)
def adQ (wd:List (Nat×List Nat)) (jf:List (Nat×K×List TypeId×List TypeId)) (ss rs:List Nat) (σ:St):Option PSt:=match shR wd jf rs σ rs with
 | some q=>bif jf.all (fun p=>az p.1 rs) then some ⟨shS wd rs σ ss,q⟩ else none
 | none=>none
def U9 (rs:List Nat) (s:PSt) (σ:St):Option s.V:=match ctS σ rs s.ss,ctR σ rs s.rs with
 | some a,some b=>some (Cont.app (VM s.ss) (Zv s.rs) a b)
 | _,_=>none
def Ot (s:PSt) (c:s.V):St:=⟨mkS s.ss (Cont.fst _ _ c),mkR s.rs (Cont.snd _ _ c)⟩
inductive Ex where
 | normal
 | exit (id:Nat)
 | ret
def rounds {V:Type} (B:(V→Option R)→V→Option R):Nat→V→Option R
 | 0=>fun _=>none
 | n+1=>B (rounds B n)
def P5 (b:Nat):List (Nat×List Nat×List Nat)→Option (List Nat×List Nat)
 | []=>none
 | (c,h) :: l=>bif Nat.beq b c then some h else P5 b l
def G5 {A:Type} (f:A→A→Bool):List A→List A→Bool
 | [],[]=>true
 | a :: l,b :: m=>f a b && G5 f l m
 | _,_=>false
def Ee:(k:K)→El k→El k→Bool
 | .int _,x,y=>decide ((show Int from x)=y)
 | .bool,x,y=>(show Bool from x) == y
 | .str,x,y=>decide ((show List Int from x)=y)
 | .sl _ k,xs,ys=>G5 (Ee k) xs ys
 | .unit,_,_=>true
 | .pair a b,x,y=>Ee a x.1 y.1 && Ee b x.2 y.2
 | .st f,x,y=>Ee f x y
 | .gap _,_,_=>true
 | .id _,x,y=>Nat.beq x y
def zy:(ks:List K)→Cont ks→Cont ks→Bool
 | [],_,_=>true
 | k :: ks,c,d=>Ee k c.1 d.1 && zy ks c.2 d.2
def agC (ks:List K):Option (Cont ks)→Option (Cont ks)→Option (Cont ks)
 | some a,some b=>bif zy ks a b then some a else none
 | _,_=>none
theorem Qr {A:Type} {f:A→A→Bool} (hf:∀x y,f x y=true→x=y):∀{l m:List A},G5 f l m=true→l=m
 | [],[],_=>rfl
 | a :: l,b :: m,h=>by
  simp only [G5,an3] at h
  rw [hf a b h.1,Qr hf h.2]
 | [],_ :: _,h=>by simp [G5] at h
 | _ :: _,[],h=>by simp [G5] at h
theorem KC {A:Type} {f:A→A→Bool} (hf:∀x,f x x=true):∀{l:List A},G5 f l l=true
 | []=>rfl
 | a :: l=>by simp [G5,hf a,KC hf]
theorem Xz:∀{k:K} {x y:El k},Ee k x y=true→x=y:=by
 intro k
 induction k with
 | int ik=>intro x y h; exact of_decide_eq_true h
 | bool=>intro x y h; exact eq_of_beq h
 | str=>intro x y h; exact of_decide_eq_true h
 | sl e k ih=>intro x y h; exact Qr (fun x y h=>ih h) h
 | unit=>intro x y _; rfl
 | pair a b iha ihb=>
  intro x y h
  simp only [Ee,an3] at h
  exact Prod.ext (iha h.1) (ihb h.2)
 | st f ih=>intro x y h; exact ih (x:=x) (y:=y) h
 | gap n=>intro x y _; rfl
 | id e=>intro x y h; exact an1 h
theorem R6:∀{k:K} {x:El k},Ee k x x=true:=by
 intro k
 induction k with
 | int ik=>intro x; exact decide_eq_true rfl
 | bool=>intro x; exact beq_self_eq_true (α:=Bool) x
 | str=>intro x; exact decide_eq_true rfl
 | sl e k ih=>intro x; exact KC fun x=>ih
 | unit=>intro x; rfl
 | pair a b iha ihb=>intro x; simp [Ee,iha,ihb]
 | st f ih=>intro x; exact ih (x:=x)
 | gap n=>intro x; rfl
 | id e=>intro x; exact Nat.beq_refl x
theorem JJ:∀{ks:List K} {c d:Cont ks},zy ks c d=true→c=d
 | [],_,_,_=>rfl
 | k :: ks,c,d,h=>by
  simp only [zy,an3] at h
  exact Prod.ext (Xz h.1) (JJ h.2)
theorem Ed:∀{ks:List K} {c:Cont ks},zy ks c c=true
 | [],_=>rfl
 | k :: ks,c=>by simp [zy,R6,Ed]
theorem Xf {ks:List K} (a:Option (Cont ks)):agC ks a a=a:=by
 cases a with
 | none=>rfl
 | some a=>simp [agC,Ed]
theorem Xg {ks:List K} {a b:Option (Cont ks)} {z:Cont ks} (h:agC ks a b=some z):a=some z∧b=some z:=by
 cases a with
 | none=>simp [agC] at h
 | some a=>
  cases b with
  | none=>simp [agC] at h
  | some b=>
   simp only [agC] at h
   cases hb:zy ks a b with
   | false=>rw [hb] at h; simp at h
   | true=>
    rw [hb] at h
    simp only [cond_true,anX] at h
    have:=JJ hb
    subst h
    exact ⟨rfl,by rw [this]⟩
def den (T:iV) (hi:Hint) (n:Nat) (ag:Option R→Option R→Option R):Nat→Code→St→(Ex→St→Option R)→Option R
 | _, .skip,σ,K=>K .normal σ
 | _, .region _ ops draw,σ,K=>bif draw then JW T hi n ops ops.toList 0 [] σ (K .normal) else Eg T hi n ops ops.toList σ (K .normal)
 | b, .seq x y,σ,K=>den T hi n ag b x σ fun
  | .normal,σ'=>den T hi n ag b y σ' K
  | e,σ'=>K e σ'
 | b, .cond c x y,σ,K=>(dN c fun a=>.ret a).run σ fun
  | .Av e=>if e=true then ag (den T hi n ag b x σ K) (den T hi n ag b y σ K) else den T hi n ag b y σ K
  | a=>(asBool a .ret).run σ fun t=>if t=true then den T hi n ag b x σ K else den T hi n ag b y σ K
 | _, .block id x,σ,K=>den T hi n ag id x σ fun
  | .exit i,σ'=>bif Nat.beq i id then K .normal σ' else K (.exit i) σ'
  | e,σ'=>K e σ'
 | b, .loop x,σ,K=>match P5 b hi.loops with
  | some (ss,rs)=>match adQ hi.wide hi.jf ss rs (Db hi rs σ) with
   | some s=>match U9 rs s (Db hi rs σ) with
    | some c=>rounds (fun L v=>den T hi n ag b x (Ot s v) fun
     | .normal,σ'=>match U9 rs s (Db hi rs σ') with
      | some v'=>L v'
      | none=>none
     | e,σ'=>K e σ') n c
    | none=>none
   | none=>none
  | none=>none
 | _, .exit id,σ,K=>K (.exit id) σ
 | _, .ret,σ,K=>K .ret σ
 | _,_,_,_=>none
def eP:(ps:List dF)→(i:Nat)→Cont (kin ps)→List (Nat×AV)
 | [],_,_=>[]
 | .val k iA :: ps,i,c=>(i, .val k c.1 (bif k.flat then [] else (pV i,0) :: iA.map fun j=>(ay j,0))) :: eP ps (i+1) c.2
 | .ro k :: ps,i,c=>(i, .jg SENT k c.1 [(pV i,0)]) :: eP ps (i+1) c.2
 | .rw _ _ _ _ :: ps,i,c=>(i, .ptr (ay i) [] 0) :: eP ps (i+1) c.2
 | .jC _ _ _ :: ps,i,c=>(i, .ref (ay i) 0) :: eP ps (i+1) c.2
 | .own _ _ :: ps,i,c=>(i, .ref (ay i) 0) :: eP ps (i+1) c.2
 | .fn f ks :: ps,i,c=>(i, .fn f (zn i ks (Cont.fst ks (kin ps) c))) :: eP ps (i+1) (Cont.snd ks (kin ps) c)
 | .into _ p :: ps,i,c=>(i, .iP) :: eP ps (i+1) (Cont.snd (dF.into 0 p).kin (kin ps) c)
where zn (i:Nat):(ks:List K)→Cont ks→List (TypeId×Dat×List Tag)
 | [],_=>[]
 | k :: ks,c=>(SENT,⟨k,c.1⟩,[(pV i,0)]) :: zn i ks c.2
def gI:(ps:List dF)→(i:Nat)→Cont (kin ps)→List (Nat×Root)
 | [],_,_=>[]
 | .val _ _ :: ps,i,c=>gI ps (i+1) c.2
 | .ro _ :: ps,i,c=>gI ps (i+1) c.2
 | .rw k ow _ _ :: ps,i,c=>(ay i,aL k c.1 ow (bif k.tys.all (fun t=>az t ow) then [] else [(pV i,0)]) .par true) :: gI ps (i+1) c.2
 | .jC k ow _ :: ps,i,c=>(ay i,{ aL k c.1 ow (bif k.tys.all (fun t=>az t ow) then [] else [(pV i,0)]) .anon true with fixed:=true }) :: gI ps (i+1) c.2
 | .own k ow :: ps,i,c=>(ay i,aL k c.1 ow (bif k.tys.all (fun t=>az t ow) then [] else [(pV i,0)]) .anon) :: gI ps (i+1) c.2
 | .fn _ ks :: ps,i,c=>gI ps (i+1) (Cont.snd ks (kin ps) c)
 | .into _ p :: ps,i,c=>gI ps (i+1) (Cont.snd (dF.into 0 p).kin (kin ps) c)
def iF:List (Nat×AV)→Nat→xP
 | [],_=>.one .undef
 | (s,a) :: l,n=>bif Nat.beq n s then .one a else iF l n
def gK:List (Nat×Root)→Nat→Option Root
 | [],_=>none
 | (s,a) :: l,n=>bif Nat.beq n s then some a else gK l n
def bV (ps:List dF) (c:Cont (kin ps)):St:=⟨iF (eP ps 0 c),gK (gI ps 0 c)⟩
def qD (exts iA:List Nat) (tags:List Tag):Bool:=tags.all fun t=>
 bif fJ t.1 then az (t.1 / 4) exts else bif Nat.beq (t.1 % 4) 0 then az (t.1 / 4) iA else true
def SQ {α:Type} (T:iV) (own:Bool) (rv:ResultVar) (k:AV→Prog α):Prog α:=match rv with
 | .tmp t=>dN (.tmp t) k
 | .cell t ty=>dN (.tmp t) fun a=>Eu T own ty a k
def PY {α:Type} (T:iV):(rs:List kJ)→List ResultVar→(Cont (gZ rs)→List iD→List (List Tag)→Prog α)→Prog α
 | [],[],k=>k () [] []
 | .val kk exts iA :: rs,v :: vs,k=>
  let go (x:El kk) (tags:List Tag):Prog α:=bif kk.flat || qD exts iA tags then PY T rs vs fun c ts tg=>k (x,c) ts (tags :: tg) else .fail
  SQ T false v fun a=>match a with
  | .iP=>match kk,go with
   | .sl _ _,go=>go [] []
   | _,_=>.fail
  | a=>uX a fun k' x tags=>match bP k' kk x with
   | some y=>go y (bif kk.flat then [] else tags)
   | none=>.fail
 | .own kk ow exts iA :: rs,v :: vs,k=>SQ T true v fun a=>xK kk a fun tk=>match bP tk.k kk tk.x with
  | some y=>bif mQ (kk.tys.filter fun t=>az t ow) tk.own && (kk.tys.all (fun t=>az t ow) || qD exts iA tk.tags) then PY T rs vs fun c ts tg=>k (y,c) (tk :: ts) tg else .fail
  | none=>.fail
 | _,_,_=>.fail
def IL (σ:St) (i:Nat):Option Root:=match σ.roots (ay i) with
 | some R=>bif R.aX || !bq σ R.Co R.tags then none else some R
 | none=>none
def lT (σ:St):(ps:List dF)→Nat→Option (Cont (jL ps))
 | [],_=>some ()
 | .rw k ow wt ht :: ps,i=>match IL σ i,lT σ ps (i+1) with
  | some R,some d=>bif oO k R.own ow && CE R (some (wt,ht)) && (k.tys.all (fun t=>az t ow) || qD [i] [] R.tags) then
    match bP R.k k R.x with
    | some x=>some (x,d)
    | none=>none
   else none
  | _,_=>none
 | .jC k ow wt :: ps,i=>match IL σ i,lT σ ps (i+1) with
  | some R,some d=>bif oO k R.own ow && CE R (some (wt,k.tys)) && (k.tys.all (fun t=>az t ow) || qD [i] [] R.tags) then
    match bP R.k k R.x with
    | some x=>some (x,d)
    | none=>none
   else none
  | _,_=>none
 | .val _ _ :: ps,i=>lT σ ps (i+1)
 | .ro _ :: ps,i=>lT σ ps (i+1)
 | .own _ _ :: ps,i=>lT σ ps (i+1)
 | .fn _ _ :: ps,i=>lT σ ps (i+1)
 | .into _ _ :: ps,i=>lT σ ps (i+1)
def fin (T:iV) (ps:List dF) (rs:List kJ) (rv:List ResultVar) (σ:St):Option (Cont (gZ rs++jL ps)):=
 (PY T rs rv fun c ts tg=>bif E9 (ts.flatMap (·.ws)) (ts.flatMap (·.tags)++tg.flatten) then .ret (c,ts.flatMap (·.ws)) else .fail:Prog (Cont (gZ rs)×List Wr)).run σ fun q=>
  match lT (aB q.2 σ) ps 0 with
  | some d=>some (Cont.app (gZ rs) (jL ps) q.1 d)
  | none=>none
def Root.Yn (R:Root) (t:TypeId):Bool:=match R.kind with
 | .var u=>Nat.beq t u
 | _=>false
def aaI {α:Type} (t:TypeId) (kk:K) (ow:List TypeId) (exts:List Nat) (a:AV) (k:El kk→Nat→Prog α):Prog α:=match a with
 | .ptr r [] _=>sD r fun R=>bif R.Yn t && mQ (kk.tys.filter fun t=>az t ow) R.own && (kk.tys.all (fun t=>az t ow) || qD exts [] R.tags) then
   match bP R.k kk R.x with
   | some y=>k y r
   | none=>.fail
  else .fail
 | _=>.fail
def cutV {α:Type} (j:Nat) (a:AV) (k:Int→Prog α):Prog α:=match a with
 | .ref r g=>bif Nat.beq r (ay j) && Nat.beq g 0 then sD r fun R=>bif Nat.beq R.g 0 then match R.k,R.x with
   | .sl _ kk,xs=>k ((show List (El kk) from xs).length:Int)
   | _,_=>.fail
  else .fail
  else .fail
 | .part r g lo hi _=>bif Nat.beq r (ay j) && Nat.beq g 0 && Nat.beq lo 0 then k (hi:Int) else .fail
 | _=>.fail
def aab (T:iV) (ps:List dF):(rs:List kJ)→List ResultVar→St→Option (Cont (gZ rs++jL ps))
 | [.ptr t kk ow exts],[rv],σ=>(SQ T false rv fun a=>aaI t kk ow exts a fun y r=>.ret (y,r):Prog (El kk×Nat)).run σ fun q=>
   match lT (aB [.r q.2 none] σ) ps 0 with
   | some d=>some (q.1,d)
   | none=>none
 | [.into j []],[rv],σ=>(SQ T false rv fun a=>cutV j a fun m=>.ret m:Prog Int).run σ fun m=>
   match lT σ ps 0 with
   | some d=>some (m,d)
   | none=>none
 | rs,xJ,σ=>fin T ps rs xJ σ
def wG:List dF→Nat→List (Nat×K×List TypeId×List TypeId)
 | [],_=>[]
 | .rw k _ wt ht :: ps,i=>(ay i,k,wt,ht) :: wG ps (i+1)
 | .jC k _ wt :: ps,i=>(ay i,k,wt,k.tys) :: wG ps (i+1)
 | _ :: ps,i=>wG ps (i+1)
def Z5 (T:iV) (hi:Hint) (fn:Func) (ps:List dF) (rs:List kJ) (n:Nat) (c:Cont (kin ps)):Option (Cont (gZ rs++jL ps)):=
 match fn.body with
 | some code=>den T { hi with nt:=fn.ntmps,jf:=wG ps 0 } n (agC (gZ rs++jL ps)) 0 code (bV ps c) fun
  | .ret,σ=>aab T ps rs fn.results.toList σ
  | .normal,σ=>aab T ps rs fn.results.toList σ
  | _,_=>none
 | none=>none
end
section
open Go
class Fr where
 free:Nat→Prop
 obj:Nat→Option Obj
 iM:Nat→Value
 adx:iM 0=.slice none 0 0
 agV:∀i,∃a n c,iM i=.slice a n c
abbrev alm:Fr:=⟨fun _=>False,fun _=>none,fun _=>.slice none 0 0,rfl,fun _=>⟨none,0,0,rfl⟩⟩
variable [Fr]
abbrev Heap:=Nat→Option Obj
def hp (w:World):Heap:=fun b=>w.heap[b]?
def cellAt (h:Heap) (b o:Nat):Option Value:=match h b with
 | some (.cells c _ _)=>c[o]?
 | _=>none
def qQ (h:Heap) (b:Nat):Option TypeId:=match h b with
 | some (.cells _ e _)=>some e
 | _=>none
def Cells (h:Heap) (b o:Nat) (cs:List Value):Prop:=∀i,i<cs.length→cellAt h b (o+i)=cs[i]?
theorem zq (w:World) (b o:Nat):w.cell? ⟨b,o,none⟩=cellAt (hp w) b o:=by
 unfold World.cell? cellAt hp
 cases w.heap[b]? with
 | none=>rfl
 | some x=>cases x <;> rfl
theorem vv {h h':Heap} {b:Nat} (e:h' b=h b) (o:Nat):cellAt h' b o=cellAt h b o:=by unfold cellAt; rw [e]
def vU (h:Heap) (b:Nat) (e:TypeId):Prop:=qQ h b=some e∨Fr.free b
theorem JR {h h':Heap} {b:Nat} (e:h' b=h b):qQ h' b=qQ h b:=by unfold qQ; rw [e]
theorem JQ {h h':Heap} {b:Nat} {t:TypeId} (e:h' b=h b) (H:vU h b t):vU h' b t:=H.imp (fun H=>(JR e).trans H) id
theorem Cells.congr {h h':Heap} {b o:Nat} {cs:List Value} (e:h' b=h b) (H:Cells h b o cs):Cells h' b o cs:=fun i hi=>(vv e _).trans (H i hi)
def G9:IntKind→Int→Prop
 | .u8,n=>0≤n∧n<256
 | _,_=>True
def Vw (h:Heap) (ok:Nat→Prop):(k:K)→El k→List Value→Prop
 | .int ik,n,cs=>cs=[.int ik n]∧G9 ik n
 | .bool,b,cs=>cs=[.bool b]
 | .str,s,cs=>∃B:ByteArray,cs=[.string B]∧(show List Int from s)=bytesOf B
 | .sl e k,xs,cs=>∃a n c,cs=[.slice a n c]∧n=(show List (El k) from xs).length∧n≤c∧
   (0<n→∃b o,a=some ⟨b,o,none⟩∧ok b∧vU h b e∧
    ∀(i:Nat) (hi:i<(show List (El k) from xs).length),∃ds,Cells h b (o+i * k.size) ds∧Vw h ok k ((show List (El k) from xs)[i]) ds)
 | .unit,_,cs=>cs=[]
 | .pair a b,x,cs=>∃c1 c2,cs=c1++c2∧Vw h ok a x.1 c1∧Vw h ok b x.2 c2
 | .st f,x,cs=>Vw h ok f x cs
 | .gap n,_,cs=>cs.length=n
 | .id _,i,cs=>cs=[Fr.iM (show Nat from i)]
def Ow (h:Heap) (own:List TypeId) (ok:Nat→Prop):(k:K)→El k→List Value→List Nat→Prop
 | .sl e k,xs,cs,fo=>if az e own=true then
   ∃a n c,cs=[.slice a n c]∧n=(show List (El k) from xs).length∧n≤c∧
    ((c=0∧fo=[])∨∃b o arr lo hi,a=some ⟨b,o,none⟩∧h b=some (.cells arr e (lo,hi))∧(∀i,i<arr.size→¬(lo≤i∧i<hi))∧o+c * k.size≤arr.size∧
     ∃bD:List (List Nat),bD.length=(show List (El k) from xs).length∧fo.Perm (b :: bD.flatten)∧
      ∀(i:Nat) (hi:i<(show List (El k) from xs).length),∃ds,Cells h b (o+i * k.size) ds∧Ow h own ok k ((show List (El k) from xs)[i]) ds (bD.getD i []))
  else fo=[]∧Vw h ok (.sl e k) xs cs
 | .pair a b,x,cs,fo=>∃c1 c2 f1 f2,cs=c1++c2∧fo.Perm (f1++f2)∧Ow h own ok a x.1 c1 f1∧Ow h own ok b x.2 c2 f2
 | .st f,x,cs,fo=>Ow h own ok f x cs fo
 | .int ik,n,cs,fo=>fo=[]∧Vw h ok (.int ik) n cs
 | .bool,n,cs,fo=>fo=[]∧Vw h ok .bool n cs
 | .str,n,cs,fo=>fo=[]∧Vw h ok .str n cs
 | .unit,_,cs,fo=>fo=[]∧cs=[]
 | .gap n,_,cs,fo=>fo=[]∧cs.length=n
 | .id e,i,cs,fo=>fo=[]∧Vw h ok (.id e) i cs
theorem lN {h:Heap} {ok:Nat→Prop}:∀{k:K} {x:El k} {cs:List Value},Vw h ok k x cs→cs.length=k.size:=by
 intro k
 induction k with
 | int ik=>intro x cs H; rw [H.1]; rfl
 | bool=>intro x cs H; rw [show cs=_ from H]; rfl
 | id e=>intro x cs H; rw [show cs=_ from H]; rfl
 | str=>intro x cs H; obtain ⟨B,rfl,_⟩:=H; rfl
 | sl e k ih=>intro x cs H; obtain ⟨a,n,c,rfl,_⟩:=H; rfl
 | unit=>intro x cs H; rw [show cs=_ from H]; rfl
 | pair a b iha ihb=>intro x cs H; obtain ⟨c1,c2,rfl,h1,h2⟩:=H; simp [K.size,iha h1,ihb h2]
 | st f ih=>intro x cs H; exact ih (x:=x) H
 | gap n=>intro x cs H; exact H
theorem gy {h h':Heap} {ok ok':Nat→Prop} (hh:∀b,ok b→h' b=h b) (hk:∀b,ok b→ok' b):∀{k:K} {x:El k} {cs:List Value},Vw h ok k x cs→Vw h' ok' k x cs:=by
 intro k
 induction k with
 | int ik=>intro x cs H; exact H
 | bool=>intro x cs H; exact H
 | id e=>intro x cs H; exact H
 | str=>intro x cs H; exact H
 | sl e k ih=>
  intro x cs H
  obtain ⟨a,n,c,e1,e2,e3,H⟩:=H
  refine ⟨a,n,c,e1,e2,e3,fun hn=>?_⟩
  obtain ⟨b,o,ea,hb,ht,H⟩:=H hn
  refine ⟨b,o,ea,hk b hb,JQ (hh b hb) ht,fun i hi=>?_⟩
  obtain ⟨ds,h1,h2⟩:=H i hi
  exact ⟨ds,h1.congr (hh b hb),ih h2⟩
 | unit=>intro x cs H; exact H
 | pair a b iha ihb=>intro x cs H; obtain ⟨c1,c2,e,h1,h2⟩:=H; exact ⟨c1,c2,e,iha h1,ihb h2⟩
 | st f ih=>intro x cs H; exact ih (x:=x) H
 | gap n=>intro x cs H; exact H
theorem iy {h h':Heap} {ok ok':Nat→Prop}:∀{k:K} {x:El k} {cs:List Value},k.flat=true→Vw h ok k x cs→Vw h' ok' k x cs:=by
 intro k
 induction k with
 | sl e k ih=>intro x cs h; simp [K.flat] at h
 | gap n=>intro x cs h; simp [K.flat] at h
 | pair a b iha ihb=>
  intro x cs h H
  simp only [K.flat,an3] at h
  obtain ⟨c1,c2,e,h1,h2⟩:=H
  exact ⟨c1,c2,e,iha h.1 h1,ihb h.2 h2⟩
 | st f ih=>intro x cs h H; exact ih (x:=x) h H
 | _=>intro x cs _ H; exact H
theorem Jj {h:Heap} {ok:Nat→Prop}:∀{k:K} {x:El k} {cs:List Value} (ts:List TypeId),(∀t∈k.tys,t∈ts)→Vw h ok k x cs→Vw h (fun b=>ok b∧∃t∈ts,vU h b t) k x cs:=by
 intro k
 induction k with
 | int ik=>intro x cs ts _ H; exact H
 | bool=>intro x cs ts _ H; exact H
 | id e=>intro x cs ts _ H; exact H
 | str=>intro x cs ts _ H; exact H
 | sl e k ih=>
  intro x cs ts hts H
  obtain ⟨a,n,c,e1,e2,e3,H⟩:=H
  refine ⟨a,n,c,e1,e2,e3,fun hn=>?_⟩
  obtain ⟨b,o,ea,hb,ht,H⟩:=H hn
  refine ⟨b,o,ea,⟨hb,e,hts e (by simp [K.tys]),ht⟩,ht,fun i hi=>?_⟩
  obtain ⟨ds,h1,h2⟩:=H i hi
  exact ⟨ds,h1,ih ts (fun t h=>hts t (by simp [K.tys,h])) h2⟩
 | unit=>intro x cs ts _ H; exact H
 | pair a b iha ihb=>
  intro x cs ts hts H
  obtain ⟨c1,c2,e,h1,h2⟩:=H
  exact ⟨c1,c2,e,iha ts (fun t h=>hts t (by simp [K.tys,h])) h1,ihb ts (fun t h=>hts t (by simp [K.tys,h])) h2⟩
 | st f ih=>intro x cs ts hts H; exact ih (x:=x) ts hts H
 | gap n=>intro x cs ts _ H; exact H
theorem dh {h:Heap} {own:List TypeId} {ok:Nat→Prop}:∀{k:K} {x:El k} {cs:List Value} {fo:List Nat},Ow h own ok k x cs fo→cs.length=k.size:=by
 intro k
 induction k with
 | int ik=>intro x cs fo H; exact lN H.2
 | bool=>intro x cs fo H; exact lN H.2
 | id e=>intro x cs fo H; exact lN H.2
 | str=>intro x cs fo H; exact lN H.2
 | sl e k ih=>
  intro x cs fo H
  unfold Ow at H
  split at H
  ·obtain ⟨a,n,c,rfl,_⟩:=H; rfl
  ·exact lN H.2
 | unit=>intro x cs fo H; rw [H.2]; rfl
 | pair a b iha ihb=>intro x cs fo H; obtain ⟨c1,c2,f1,f2,rfl,_,h1,h2⟩:=H; simp [K.size,iha h1,ihb h2]
 | st f ih=>intro x cs fo H; exact ih (x:=x) H
 | gap n=>intro x cs fo H; exact H.2
theorem sj {bD:List (List Nat)} {i:Nat} {b:Nat} (h:b∈bD.getD i []):b∈bD.flatten:=by
 rw [aoa] at h
 cases hi:bD[i]? with
 | none=>rw [hi] at h; simp at h
 | some l=>rw [hi] at h; exact List.mem_flatten.2 ⟨l,List.mem_of_getElem? hi,by simpa using h⟩
theorem bz {h h':Heap} {own:List TypeId} {ok ok':Nat→Prop} (hh:∀b,ok b→h' b=h b) (hk:∀b,ok b→ok' b) :
  ∀{k:K} {x:El k} {cs:List Value} {fo:List Nat},(∀b∈fo,h' b=h b)→Ow h own ok k x cs fo→Ow h' own ok' k x cs fo:=by
 intro k
 induction k with
 | int ik=>intro x cs fo _ H; exact ⟨H.1,gy hh hk H.2⟩
 | bool=>intro x cs fo _ H; exact ⟨H.1,gy hh hk H.2⟩
 | id e=>intro x cs fo _ H; exact ⟨H.1,gy hh hk H.2⟩
 | str=>intro x cs fo _ H; exact ⟨H.1,gy hh hk H.2⟩
 | sl e k ih=>
  intro x cs fo hfo H
  unfold Ow at H ⊢
  split
  ·rename_i hm
   rw [if_pos hm] at H
   obtain ⟨a,n,c,e1,e2,e3,H⟩:=H
   refine ⟨a,n,c,e1,e2,e3, ?_⟩
   rcases H with H | ⟨b,o,arr,lo,hi,ea,hb,hf,hs,bD,hl,hp,H⟩
   ·exact .inl H
   ·have hbb:h' b=h b:=hfo b (hp.mem_iff.2 (by simp))
    refine .inr ⟨b,o,arr,lo,hi,ea,hbb.trans hb,hf,hs,bD,hl,hp,fun i hi=>?_⟩
    obtain ⟨ds,h1,h2⟩:=H i hi
    exact ⟨ds,h1.congr hbb,ih (fun b' hb'=>hfo b' (hp.mem_iff.2 (by simp [sj hb']))) h2⟩
  ·rename_i hm
   rw [if_neg hm] at H
   exact ⟨H.1,gy hh hk H.2⟩
 | unit=>intro x cs fo _ H; exact H
 | pair a b iha ihb=>
  intro x cs fo hfo H
  obtain ⟨c1,c2,f1,f2,e,hp,h1,h2⟩:=H
  exact ⟨c1,c2,f1,f2,e,hp,iha (fun b hb=>hfo b (hp.mem_iff.2 (by simp [hb]))) h1,ihb (fun b hb=>hfo b (hp.mem_iff.2 (by simp [hb]))) h2⟩
 | st f ih=>intro x cs fo hfo H; exact ih (x:=x) hfo H
 | gap n=>intro x cs fo _ H; exact H
theorem sS {h:Heap} {own:List TypeId} {ok:Nat→Prop}:∀{k:K} {x:El k} {cs:List Value} {fo:List Nat} (ts:List TypeId),(∀t∈aU own k,t∈ts)→Ow h own ok k x cs fo→Ow h own (fun b=>ok b∧∃t∈ts,vU h b t) k x cs fo:=by
 intro k
 induction k with
 | int ik=>intro x cs fo ts _ H; exact H
 | bool=>intro x cs fo ts _ H; exact H
 | id e=>intro x cs fo ts _ H; exact H
 | str=>intro x cs fo ts _ H; exact H
 | sl e k ih=>
  intro x cs fo ts hts H
  unfold Ow at H ⊢
  split
  ·rename_i hm
   rw [if_pos hm] at H
   obtain ⟨a,n,c,e1,e2,e3,H⟩:=H
   refine ⟨a,n,c,e1,e2,e3, ?_⟩
   rcases H with H | ⟨b,o,arr,lo,hi,ea,hb,hf,hs,bD,hl,hp,H⟩
   ·exact .inl H
   ·refine .inr ⟨b,o,arr,lo,hi,ea,hb,hf,hs,bD,hl,hp,fun i hi=>?_⟩
    obtain ⟨ds,h1,h2⟩:=H i hi
    exact ⟨ds,h1,ih ts (fun t ht=>hts t (by simp [aU,hm,ht])) h2⟩
  ·rename_i hm
   rw [if_neg hm] at H
   exact ⟨H.1,Jj ts (fun t ht=>hts t (by simpa [aU,hm,K.tys] using ht)) H.2⟩
 | unit=>intro x cs fo ts _ H; exact H
 | pair a b iha ihb=>
  intro x cs fo ts hts H
  obtain ⟨c1,c2,f1,f2,e,hp,h1,h2⟩:=H
  exact ⟨c1,c2,f1,f2,e,hp,iha ts (fun t h=>hts t (by simp [aU,h])) h1,ihb ts (fun t h=>hts t (by simp [aU,h])) h2⟩
 | st f ih=>intro x cs fo ts hts H; exact ih (x:=x) ts hts H
 | gap n=>intro x cs fo ts _ H; exact H
theorem kW {h:Heap} {own:List TypeId} {ok:Nat→Prop} (ok':Nat→Prop) (hk:∀b,ok b→ok' b) :
  ∀{k:K} {x:El k} {cs:List Value} {fo:List Nat},(∀b∈fo,ok' b)→Ow h own ok k x cs fo→Vw h ok' k x cs:=by
 intro k
 induction k with
 | int ik=>intro x cs fo _ H; exact gy (fun _ _=>rfl) hk H.2
 | bool=>intro x cs fo _ H; exact gy (fun _ _=>rfl) hk H.2
 | id e=>intro x cs fo _ H; exact gy (fun _ _=>rfl) hk H.2
 | str=>intro x cs fo _ H; exact gy (fun _ _=>rfl) hk H.2
 | sl e k ih=>
  intro x cs fo hfo H
  unfold Ow at H
  split at H
  ·obtain ⟨a,n,c,e1,e2,e3,H⟩:=H
   refine ⟨a,n,c,e1,e2,e3,fun hn=>?_⟩
   rcases H with H | ⟨b,o,arr,lo,hi,ea,hb,hf,hs,bD,hl,hp,H⟩
   ·omega
   ·refine ⟨b,o,ea,hfo b (hp.mem_iff.2 (by simp)),by refine .inl ?_; unfold qQ; rw [hb],fun i hi=>?_⟩
    obtain ⟨ds,h1,h2⟩:=H i hi
    exact ⟨ds,h1,ih (fun b' hb'=>hfo b' (hp.mem_iff.2 (by simp [sj hb']))) h2⟩
  ·exact gy (fun _ _=>rfl) hk H.2
 | unit=>intro x cs fo _ H; exact H.2
 | pair a b iha ihb=>
  intro x cs fo hfo H
  obtain ⟨c1,c2,f1,f2,e,hp,h1,h2⟩:=H
  exact ⟨c1,c2,e,iha (fun b hb=>hfo b (hp.mem_iff.2 (by simp [hb]))) h1,ihb (fun b hb=>hfo b (hp.mem_iff.2 (by simp [hb]))) h2⟩
 | st f ih=>intro x cs fo hfo H; exact ih (x:=x) hfo H
 | gap n=>intro x cs fo _ H; exact H.2
theorem vk {h:Heap} {own own':List TypeId} {ok:Nat→Prop} :
  ∀{k:K} {x:El k} {cs:List Value} {fo:List Nat},(∀t∈k.tys,az t own'=true→az t own=true)→Ow h own ok k x cs fo→
   ∃dH fd,fo.Perm (dH++fd)∧Ow h own' (fun b=>ok b∨b∈fd) k x cs dH:=by
 intro k
 induction k with
 | int ik=>intro x cs fo _ H; exact ⟨[],[],by rw [H.1]; exact .refl _,rfl,gy (fun _ _=>rfl) (fun _ h=>.inl h) H.2⟩
 | bool=>intro x cs fo _ H; exact ⟨[],[],by rw [H.1]; exact .refl _,rfl,gy (fun _ _=>rfl) (fun _ h=>.inl h) H.2⟩
 | id e=>intro x cs fo _ H; exact ⟨[],[],by rw [H.1]; exact .refl _,rfl,gy (fun _ _=>rfl) (fun _ h=>.inl h) H.2⟩
 | str=>intro x cs fo _ H; exact ⟨[],[],by rw [H.1]; exact .refl _,rfl,gy (fun _ _=>rfl) (fun _ h=>.inl h) H.2⟩
 | sl e k ih=>
  intro x cs fo ht H
  by_cases hm':az e own'=true
  ·have hm:=ht e (by simp [K.tys]) hm'
   unfold Ow at H
   rw [if_pos hm] at H
   obtain ⟨a,n,c,e1,e2,e3,H⟩:=H
   rcases H with ⟨h0,h1⟩ | ⟨b,o,arr,lo,hi,ea,hb,hf,hs,bD,hl,hp,H⟩
   ·refine ⟨[],[],by rw [h1]; exact .refl _, ?_⟩
    unfold Ow
    rw [if_pos hm']
    exact ⟨a,n,c,e1,e2,e3, .inl ⟨h0,rfl⟩⟩
   ·
    have step:∀i:Nat,∃p:List Nat×List Nat,(hi:i<(show List (El k) from x).length)→((bD.getD i []).Perm (p.1++p.2)∧∃ds,Cells h b (o+i * k.size) ds∧Ow h own' (fun b=>ok b∨b∈p.2) k ((show List (El k) from x)[i]) ds p.1):=by
     intro i
     by_cases hi:i<(show List (El k) from x).length
     ·obtain ⟨ds,h1,h2⟩:=H i hi
      obtain ⟨dH,fd,hp',h3⟩:=ih (fun t ht'=>ht t (by simp [K.tys,ht'])) h2
      exact ⟨(dH,fd),fun _=>⟨hp',ds,h1,h3⟩⟩
     ·exact ⟨([],[]),fun h=>absurd h hi⟩
    have ⟨q,hq⟩:∃q:Nat→List Nat×List Nat,∀i,(hi:i<(show List (El k) from x).length)→((bD.getD i []).Perm ((q i).1++(q i).2)∧∃ds,Cells h b (o+i * k.size) ds∧Ow h own' (fun b=>ok b∨b∈(q i).2) k ((show List (El k) from x)[i]) ds (q i).1):=
     ⟨fun i=>Classical.choose (step i),fun i=>Classical.choose_spec (step i)⟩
    let N:=(show List (El k) from x).length
    refine ⟨b :: (List.range N).flatMap (fun i=>(q i).1),(List.range N).flatMap (fun i=>(q i).2), ?_, ?_⟩
    ·refine hp.trans ?_
     rw [List.cons_append]
     refine .cons b ?_
     have agl:bD.flatten=(List.range N).flatMap (fun i=>bD.getD i []):=by
      rw [List.flatMap_def]
      congr 1
      apply List.ext_getElem
      ·simp [N,hl]
      ·intro i h1 h2
       simp [aoa,aob h1]
     rw [agl]
     have gen:∀l:List Nat,(∀i∈l,i<N)→(l.flatMap (fun i=>bD.getD i [])).Perm (l.flatMap (fun i=>(q i).1)++l.flatMap (fun i=>(q i).2)):=by
      intro l
      induction l with
      | nil=>intro _; exact .refl _
      | cons i l ihl=>
       intro hl'
       simp only [List.flatMap_cons]
       have h1:=(hq i (hl' i (by simp))).1
       have h2:=ihl (fun j hj=>hl' j (by simp [hj]))
       refine (h1.append h2).trans ?_
       simp only [aoi]
       refine List.Perm.append_left _ ?_
       rw [←aoi, ←aoi]
       exact List.Perm.append_right _ List.perm_append_comm
     exact gen _ (fun i hi=>List.mem_range.1 hi)
    ·unfold Ow
     rw [if_pos hm']
     refine ⟨a,n,c,e1,e2,e3, .inr ⟨b,o,arr,lo,hi,ea,hb,hf,hs,(List.range N).map (fun i=>(q i).1),by simp [N],by rw [List.flatMap_def],fun i hi=>?_⟩⟩
     obtain ⟨ds,h1,h2⟩:=(hq i hi).2
     refine ⟨ds,h1, ?_⟩
     have:(List.map (fun i=>(q i).1) (List.range N)).getD i []=(q i).1:=by
      rw [aoa,List.getElem?_map,List.getElem?_range hi]; rfl
     rw [this]
     exact bz (fun _ _=>rfl) (fun b' hb'=>hb'.imp id (fun h=>aoy.2 ⟨i,List.mem_range.2 hi,h⟩)) (fun _ _=>rfl) h2
  ·refine ⟨[],fo,by simp, ?_⟩
   unfold Ow
   rw [if_neg hm']
   exact ⟨rfl,kW _ (fun _ h=>.inl h) (fun _ h=>.inr h) H⟩
 | unit=>intro x cs fo _ H; exact ⟨[],[],by rw [H.1]; exact .refl _,rfl,H.2⟩
 | pair a b iha ihb=>
  intro x cs fo ht H
  obtain ⟨c1,c2,f1,f2,e,hp,h1,h2⟩:=H
  obtain ⟨g1,d1,p1,r1⟩:=iha (fun t h=>ht t (by simp [K.tys,h])) h1
  obtain ⟨g2,d2,p2,r2⟩:=ihb (fun t h=>ht t (by simp [K.tys,h])) h2
  refine ⟨g1++g2,d1++d2,(hp.trans (p1.append p2)).trans ?_,c1,c2,g1,g2,e, .refl _, ?_, ?_⟩
  ·simp only [aoi]
   refine List.Perm.append_left _ ?_
   rw [←aoi, ←aoi]
   exact List.Perm.append_right _ List.perm_append_comm
  ·exact bz (fun _ _=>rfl) (fun b' hb'=>hb'.imp id (fun h=>by simp [h])) (fun _ _=>rfl) r1
  ·exact bz (fun _ _=>rfl) (fun b' hb'=>hb'.imp id (fun h=>by simp [h])) (fun _ _=>rfl) r2
 | st f ih=>intro x cs fo ht H; exact ih (x:=x) ht H
 | gap n=>intro x cs fo _ H; exact ⟨[],[],by rw [H.1]; exact .refl _,rfl,H.2⟩
theorem rQ {h:Heap} {own own':List TypeId} {ok:Nat→Prop} :
  ∀{k:K} {x:El k} {cs:List Value} {fo:List Nat},(∀t∈k.tys,az t own'=az t own)→Ow h own ok k x cs fo→Ow h own' ok k x cs fo:=by
 intro k
 induction k with
 | int ik=>intro x cs fo _ H; exact H
 | bool=>intro x cs fo _ H; exact H
 | id e=>intro x cs fo _ H; exact H
 | str=>intro x cs fo _ H; exact H
 | sl e k ih=>
  intro x cs fo ht H
  unfold Ow at H ⊢
  rw [ht e (by simp [K.tys])]
  split
  ·rename_i hm
   rw [if_pos hm] at H
   obtain ⟨a,n,c,e1,e2,e3,H⟩:=H
   refine ⟨a,n,c,e1,e2,e3, ?_⟩
   rcases H with H | ⟨b,o,arr,lo,hi,ea,hb,hf,hs,bD,hl,hp,H⟩
   ·exact .inl H
   ·refine .inr ⟨b,o,arr,lo,hi,ea,hb,hf,hs,bD,hl,hp,fun i hi=>?_⟩
    obtain ⟨ds,h1,h2⟩:=H i hi
    exact ⟨ds,h1,ih (fun t ht'=>ht t (by simp [K.tys,ht'])) h2⟩
  ·rename_i hm
   rw [if_neg hm] at H
   exact H
 | unit=>intro x cs fo _ H; exact H
 | pair a b iha ihb=>
  intro x cs fo ht H
  obtain ⟨c1,c2,f1,f2,e,hp,h1,h2⟩:=H
  exact ⟨c1,c2,f1,f2,e,hp,iha (fun t h=>ht t (by simp [K.tys,h])) h1,ihb (fun t h=>ht t (by simp [K.tys,h])) h2⟩
 | st f ih=>intro x cs fo ht H; exact ih (x:=x) ht H
 | gap n=>intro x cs fo _ H; exact H
theorem oG {h:Heap} {own:List TypeId} {ok:Nat→Prop}:∀{k:K} {x:El k} {cs:List Value},(∀t∈k.tys,az t own=false)→Vw h ok k x cs→Ow h own ok k x cs []:=by
 intro k
 induction k with
 | int ik=>intro x cs _ H; exact ⟨rfl,H⟩
 | bool=>intro x cs _ H; exact ⟨rfl,H⟩
 | id e=>intro x cs _ H; exact ⟨rfl,H⟩
 | str=>intro x cs _ H; exact ⟨rfl,H⟩
 | sl e k ih=>
  intro x cs ht H
  unfold Ow
  rw [if_neg (by rw [ht e (by simp [K.tys])]; simp)]
  exact ⟨rfl,H⟩
 | unit=>intro x cs _ H; exact ⟨rfl,H⟩
 | pair a b iha ihb=>
  intro x cs ht H
  obtain ⟨c1,c2,e,h1,h2⟩:=H
  exact ⟨c1,c2,[],[],e, .refl _,iha (fun t h=>ht t (by simp [K.tys,h])) h1,ihb (fun t h=>ht t (by simp [K.tys,h])) h2⟩
 | st f ih=>intro x cs ht H; exact ih (x:=x) ht H
 | gap n=>intro x cs _ H; exact ⟨rfl,H⟩
end
section
open Go
variable [Fr]
def bB:Nat→K→Option (Nat×K)
 | 0, .pair a _=>some (0,a)
 | n+1, .pair a b=>match bB n b with
  | some (o,k)=>some (a.size+o,k)
  | none=>none
 | _,_=>none
def qg (h:Heap) (b o n:Nat):List Value:=(List.range n).map fun j=>(cellAt h b (o+j)).getD undef
theorem iB {h:Heap} {b o:Nat} {cs:List Value} (H:Cells h b o cs):qg h b o cs.length=cs:=by
 unfold qg
 apply List.ext_getElem
 ·simp
 ·intro i h1 h2
  simp [H i h2,aob h2]
def bG (h:Heap):List Stp→(k:K)→List Value→Option (Nat×Nat)→Option (List Value×Option (Nat×Nat))
 | [],_,cs,wh=>some (cs,wh)
 | .fO n :: p, .st c,cs,wh=>match bB n c with
  | some (off,k')=>bG h p k' ((cs.drop off).take k'.size) (wh.map fun q=>(q.1,q.2+off))
  | none=>none
 | .idx i :: p, .sl _ k,cs,_=>match cs with
  | [.slice (some a) _ _]=>bG h p k (qg h a.block (a.off+i.toNat * k.size) k.size) (some (a.block,a.off+i.toNat * k.size))
  | _=>none
 | _,_,_,_=>none
def nk:List Stp→(k:K)→El k→Prop
 | [],_,_=>True
 | .fO n :: p, .st c,x=>match aO n c x with
  | some d=>nk p d.1 d.2
  | none=>False
 | .idx i :: p, .sl _ k,xs=>0≤i∧i<((show List (El k) from xs).length:Int)∧nk p k ((show List (El k) from xs).getD i.toNat k.zero)
 | _,_,_=>False
def gQ (h h':Heap) (b o n:Nat):Prop:=
 ∃arr kL e fr,h b=some (.cells arr e fr)∧h' b=some (.cells kL e fr)∧kL.size=arr.size∧∀i,¬(o≤i∧i<o+n)→kL[i]?=arr[i]?
theorem gQ.of_same {h h':Heap} {b:Nat} (o n:Nat) {arr:Array Value} {e:TypeId} {fr:Nat×Nat} (e1:h b=some (.cells arr e fr)) (e2:h' b=h b):gQ h h' b o n:=
 ⟨arr,arr,e,fr,e1,e2.trans e1,rfl,fun _ _=>rfl⟩
theorem gQ.cells {h h':Heap} {b o n o':Nat} {cs:List Value} (H:gQ h h' b o n) (hc:Cells h b o' cs) (hd:o'+cs.length≤o∨o+n≤o'):Cells h' b o' cs:=by
 obtain ⟨arr,kL,e,fr,h1,h2,_,h3⟩:=H
 intro i hi
 have:=hc i hi
 unfold cellAt at this ⊢
 rw [h1] at this
 rw [h2]
 simp only at this ⊢
 rw [h3 _ (by omega)]
 exact this
theorem gQ.cellAt {h h':Heap} {b o n:Nat} (H:gQ h h' b o n) {i:Nat} (hi:¬(o≤i∧i<o+n)):cellAt h' b i=cellAt h b i:=by
 obtain ⟨arr,kL,e,fr,h1,h2,_,h3⟩:=H
 unfold Ow.cellAt
 rw [h1,h2]
 exact h3 i hi
theorem Cells.append {h:Heap} {b o:Nat} {c1 c2:List Value}:Cells h b o (c1++c2)↔Cells h b o c1∧Cells h b (o+c1.length) c2:=by
 constructor
 ·intro H
  refine ⟨fun i hi=>?_,fun i hi=>?_⟩
  ·rw [H i (by simp; omega),List.getElem?_append_left hi]
  ·have:=H (c1.length+i) (by simp; omega)
   rw [List.getElem?_append_right (by omega)] at this
   rw [Nat.add_assoc,this]
   congr 1
   omega
 ·rintro ⟨H1,H2⟩ i hi
  by_cases h1:i<c1.length
  ·rw [H1 i h1,List.getElem?_append_left h1]
  ·have:=H2 (i - c1.length) (by simp at hi; omega)
   rw [List.getElem?_append_right (by omega), ←this]
   congr 1
   omega
theorem yJ {a b c:List Nat}:(a++(b++c)).Perm (b++(a++c)):=by
 rw [←aoi, ←aoi]
 exact List.Perm.append_right _ List.perm_append_comm
theorem yz:∀(n:Nat) {c:K} {x:El c} {t z:Dat},cz n c x t=some z→aO n z.1 z.2=some t:=by
 intro n
 induction n with
 | zero=>
  intro c x t z h
  cases c with
  | pair a b=>simp only [cz,anX] at h; subst h; rfl
  | _=>simp [cz] at h
 | succ n ih=>
  intro c x t z h
  cases c with
  | pair a b=>
   simp only [cz] at h
   cases h2:cz n b x.2 t with
   | none=>rw [h2] at h; simp at h
   | some y=>rw [h2] at h; simp only [anX] at h; subst h; exact ih h2
  | _=>simp [cz] at h
theorem JH:∀(n:Nat) {c:K} {x:El c} {s t z:Dat},aO n c x=some s→cz n c x t=some z→t.1=s.1→z.1=c:=by
 intro n
 induction n with
 | zero=>
  intro c x s t z hg h e
  cases c with
  | pair a b=>
   simp only [aO,anX] at hg
   simp only [cz,anX] at h
   subst hg; subst h
   simp only at e
   simp [e]
  | _=>simp [cz] at h
 | succ n ih=>
  intro c x s t z hg h e
  cases c with
  | pair a b=>
   simp only [aO] at hg
   simp only [cz] at h
   cases h2:cz n b x.2 t with
   | none=>rw [h2] at h; simp at h
   | some y=>rw [h2] at h; simp only [anX] at h; subst h; simp [ih hg h2 e]
  | _=>simp [cz] at h
theorem zw:∀(n:Nat) {c:K} {x:El c} {t z:Dat} {off:Nat} {k':K},bB n c=some (off,k')→cz n c x t=some z→bB n z.1=some (off,t.1):=by
 intro n
 induction n with
 | zero=>
  intro c x t z off k' ho h
  cases c with
  | pair a b=>
   simp only [cz,anX] at h
   subst h
   simp only [bB,anX,an8] at ho ⊢
   exact ⟨ho.1,trivial⟩
  | _=>simp [cz] at h
 | succ n ih=>
  intro c x t z off k' ho h
  cases c with
  | pair a b=>
   simp only [cz] at h
   cases h2:cz n b x.2 t with
   | none=>rw [h2] at h; simp at h
   | some y=>
    rw [h2] at h
    simp only [anX] at h
    subst h
    simp only [bB] at ho ⊢
    cases h3:bB n b with
    | none=>rw [h3] at ho; simp at ho
    | some q=>
     rw [h3] at ho
     simp only [Option.map_some,anX,an8] at ho
     rw [ih (k':=q.2) (off:=q.1) (by rw [h3]) h2]
     simp [←ho.1]
  | _=>simp [cz] at h
theorem IJ {h:Heap} {own:List TypeId} {ok:Nat→Prop}:∀(n:Nat) {c:K} {x:El c} {cs:List Value} {fo:List Nat} {d:Dat},
  Ow h own ok c x cs fo→aO n c x=some d→
   ∃off pre cs1 post fP fr,bB n c=some (off,d.1)∧cs=pre++(cs1++post)∧pre.length=off∧fo.Perm (fP++fr)∧Ow h own ok d.1 d.2 cs1 fP∧
    (∀(h':Heap) (ok':Nat→Prop) (t:Dat) (pU:List Value) (vC:List Nat) (z:Dat),cz n c x t=some z→Ow h' own ok' t.1 t.2 pU vC→
     (∀b,ok b→ok' b∧h' b=h b)→(∀b∈fr,h' b=h b)→Ow h' own ok' z.1 z.2 (pre++(pU++post)) (vC++fr))∧
    ∀m s2,m≠n→aO m c x=some s2→∃off2 cs2 fo2,bB m c=some (off2,s2.1)∧(cs.drop off2).take s2.1.size=cs2∧Ow h own ok s2.1 s2.2 cs2 fo2∧(∀b∈fo2,b∈fr)∧
     (∀pU:List Value,pU.length=d.1.size→((pre++(pU++post)).drop off2).take s2.1.size=cs2)∧∀t z,cz n c x t=some z→aO m z.1 z.2=some s2:=by
 intro n
 induction n with
 | zero=>
  intro c x cs fo d H hg
  cases c with
  | pair a b=>
   simp only [aO,anX] at hg
   subst hg
   obtain ⟨c1,c2,f1,f2,e,hp,h1,h2⟩:=H
   refine ⟨0,[],c1,c2,f1,f2,rfl,by simpa using e,rfl,hp,h1, ?_, ?_⟩
   ·intro h' ok' t pU vC z hz ht hok hfr
    simp only [cz,anX] at hz
    subst hz
    exact ⟨pU,c2,vC,f2,by simp, .refl _,ht,bz (fun b hb=>(hok b hb).2) (fun b hb=>(hok b hb).1) hfr h2⟩
   ·intro m s2 hm hg2
    cases m with
    | zero=>exact absurd rfl hm
    | succ m=>
     simp only [aO] at hg2
     have key:∀(m:Nat) {c:K} {x:El c} {cs:List Value} {fo:List Nat} {d:Dat},Ow h own ok c x cs fo→aO m c x=some d→
       ∃off cs1 fP,bB m c=some (off,d.1)∧(cs.drop off).take d.1.size=cs1∧(∀b∈fP,b∈fo)∧Ow h own ok d.1 d.2 cs1 fP:=by
      intro m
      induction m with
      | zero=>
       intro c x cs fo d H hg
       cases c with
       | pair a b=>
        simp only [aO,anX] at hg
        subst hg
        obtain ⟨c1,c2,f1,f2,rfl,hp,h1,h2⟩:=H
        exact ⟨0,c1,f1,rfl,by simp [←dh h1],fun b hb=>hp.mem_iff.2 (by simp [hb]),h1⟩
       | _=>simp [aO] at hg
      | succ m ih=>
       intro c x cs fo d H hg
       cases c with
       | pair a b=>
        simp only [aO] at hg
        obtain ⟨c1,c2,f1,f2,rfl,hp,h1,h2⟩:=H
        obtain ⟨off,cs1,fP,g1,g2,g3,g4⟩:=ih h2 hg
        refine ⟨a.size+off,cs1,fP,by simp [bB,g1], ?_,fun b hb=>hp.mem_iff.2 (by simp [g3 b hb]),g4⟩
        rw [←g2, ←dh h1, ←List.drop_drop]
        simp
       | _=>simp [aO] at hg
     obtain ⟨off2,cs2,fo2,g1,g2,g3,g4⟩:=key m h2 hg2
     refine ⟨a.size+off2,cs2,fo2,by simp [bB,g1], ?_,g4,g3, ?_, ?_⟩
     ·rw [e, ←g2, ←dh h1, ←List.drop_drop]; simp
     ·intro pU hl
      simp only at hl
      rw [←g2, ←hl, ←List.drop_drop]; simp
     ·intro t z hz
      simp only [cz,anX] at hz
      subst hz
      exact hg2
  | _=>simp [aO] at hg
 | succ n ih=>
  intro c x cs fo d H hg
  cases c with
  | pair a b=>
   simp only [aO] at hg
   obtain ⟨c1,c2,f1,f2,e,hp,h1,h2⟩:=H
   obtain ⟨off,pre,cs1,post,fP,fr,ho,ec,hl,hp',hd,hu,hoth⟩:=ih h2 hg
   refine ⟨a.size+off,c1++pre,cs1,post,fP,f1++fr, ?_,by rw [e,ec]; simp,by simp [dh h1,hl], ?_,hd, ?_, ?_⟩
   ·simp [bB,ho]
   ·exact (hp.trans (List.Perm.append_left _ hp')).trans yJ
   ·intro h' ok' t pU vC z hz ht hok hfr
    simp only [cz] at hz
    cases hz2:cz n b x.2 t with
    | none=>rw [hz2] at hz; simp at hz
    | some z2=>
     rw [hz2] at hz
     simp only [anX] at hz
     subst hz
     have r2:=hu h' ok' t pU vC z2 hz2 ht hok (fun b hb=>hfr b (by simp [hb]))
     exact ⟨c1,pre++(pU++post),f1,vC++fr,by simp,yJ,bz (fun b hb=>(hok b hb).2) (fun b hb=>(hok b hb).1) (fun b hb=>hfr b (by simp [hb])) h1,r2⟩
   ·intro m s2 hm hg2
    cases m with
    | zero=>
     simp only [aO,anX] at hg2
     subst hg2
     refine ⟨0,c1,f1,rfl,by rw [e, ←dh h1]; simp,h1,fun b hb=>by simp [hb],fun pU _=>by rw [←dh h1]; simp, ?_⟩
     intro t z hz
     simp only [cz] at hz
     cases hz2:cz n b x.2 t with
     | none=>rw [hz2] at hz; simp at hz
     | some z2=>rw [hz2] at hz; simp only [anX] at hz; subst hz; rfl
    | succ m=>
     simp only [aO] at hg2
     obtain ⟨off2,cs2,fo2,g1,g2,g3,g4,g5,g6⟩:=hoth m s2 (by omega) hg2
     refine ⟨a.size+off2,cs2,fo2,by simp [bB,g1], ?_,g3,fun b hb=>by simp [g4 b hb], ?_, ?_⟩
     ·rw [e, ←g2, ←dh h1, ←List.drop_drop]; simp
     ·intro pU hl'
      rw [←g5 pU hl', ←dh h1, ←List.drop_drop]; simp
     ·intro t z hz
      simp only [cz] at hz
      cases hz2:cz n b x.2 t with
      | none=>rw [hz2] at hz; simp at hz
      | some z2=>rw [hz2] at hz; simp only [anX] at hz; subst hz; exact g6 t z2 hz2
  | _=>simp [aO] at hg
theorem RL:∀(n:Nat) {c:K} {x:El c} {s u y:Dat},aO n c x=some s→cz n c x u=some y→u.1.size=s.1.size→y.1.size=c.size:=by
 intro n
 induction n with
 | zero=>
  intro c x s u y h1 h2 e
  cases c with
  | pair a b=>simp only [aO,cz,anX] at h1 h2; subst h1; subst h2; simp only at e; simp [K.size,e]
  | _=>simp [aO] at h1
 | succ n ih=>
  intro c x s u y h1 h2 e
  cases c with
  | pair a b=>
   simp only [aO,cz] at h1 h2
   cases h3:cz n b x.2 u with
   | none=>rw [h3] at h2; simp at h2
   | some y2=>rw [h3] at h2; simp only [anX] at h2; subst h2; simp [K.size,ih h1 h3 e]
  | _=>simp [aO] at h1
theorem Ec:∀(n m:Nat) {c:K} {x:El c} {s u y:Dat} {off2:Nat} {k2:K},m≠n→aO n c x=some s→cz n c x u=some y→u.1.size=s.1.size→bB m c=some (off2,k2)→bB m y.1=some (off2,k2):=by
 intro n
 induction n with
 | zero=>
  intro m c x s u y off2 k2 hm h1 h2 e h3
  cases c with
  | pair a b=>
   simp only [aO,cz,anX] at h1 h2
   subst h1; subst h2
   cases m with
   | zero=>exact absurd rfl hm
   | succ m=>simp only [bB] at h3 ⊢; simp only at e; rw [e]; exact h3
  | _=>simp [aO] at h1
 | succ n ih=>
  intro m c x s u y off2 k2 hm h1 h2 e h3
  cases c with
  | pair a b=>
   simp only [aO,cz] at h1 h2
   cases h4:cz n b x.2 u with
   | none=>rw [h4] at h2; simp at h2
   | some y2=>
    rw [h4] at h2
    simp only [anX] at h2
    subst h2
    cases m with
    | zero=>simp only [bB] at h3 ⊢; exact h3
    | succ m=>
     simp only [bB] at h3 ⊢
     cases h5:bB m b with
     | none=>rw [h5] at h3; simp at h3
     | some q=>
      rw [h5] at h3
      rw [ih m (off2:=q.1) (k2:=q.2) (by omega) h1 h4 e (by rw [h5])]
      exact h3
  | _=>simp [aO] at h1
theorem qi {pre cs1 post:List Value} {off n:Nat} (h1:pre.length=off) (h2:cs1.length=n):((pre++(cs1++post)).drop off).take n=cs1:=by
 subst h1; subst h2; simp
theorem bZ {A:Type} {l:List A} {d:A} {i:Nat} (h:i<l.length):l.getD i d=l[i]:=by
 rw [aoa,aob h]; rfl
theorem M3 {bD:List (List Nat)} {i:Nat} (h:i<bD.length):bD.flatten.Perm (bD.getD i []++((bD.take i).flatten++(bD.drop (i+1)).flatten)):=by
 have e:bD=bD.take i++(bD.getD i [] :: bD.drop (i+1)):=by
  rw [bZ h, ←List.drop_eq_getElem_cons h,List.take_append_drop]
 have:bD.flatten=(bD.take i).flatten++(bD.getD i []++(bD.drop (i+1)).flatten):=by
  rw [congrArg List.flatten e]; simp
 rw [this]
 exact yJ
theorem YT {bD:List (List Nat)} {i:Nat} (h:i<bD.length) (q:List Nat):(bD.set i q).flatten.Perm (q++((bD.take i).flatten++(bD.drop (i+1)).flatten)):=by
 have h':i<(bD.set i q).length:=by simpa using h
 have:=M3 h'
 rw [bZ h',List.getElem_set_self] at this
 simpa [List.take_set_of_le,List.drop_set_of_lt] using this
theorem bX:∀(n:Nat) {c:K} {x:El c} {s:Dat},aO n c x=some s→ah.Ia n c=some s.1:=by
 intro n
 induction n with
 | zero=>
  intro c x s e
  cases c with
  | pair a b=>simp only [aO,anX] at e; subst e; rfl
  | _=>simp [aO] at e
 | succ n ih=>
  intro c x s e
  cases c with
  | pair a b=>simp only [aO] at e; exact ih e
  | _=>simp [aO] at e
theorem KG {h h':Heap} {own:List TypeId} {ok:Nat→Prop}:∀(p:List Stp) {k:K} {x:El k} {cs:List Value} {fo:List Nat} {wh:Option (Nat×Nat)},
  Ow h own ok k x cs fo→nk p k x→(∀t∈ah p k,az t own=true)→(∀b∈fo,h' b=h b)→bG h' p k cs wh=bG h p k cs wh:=by
 intro p
 induction p with
 | nil=>intro k x cs fo wh _ _ _ _; rfl
 | cons s p ih=>
  intro k x cs fo wh H hin Oe hfo
  cases s with
  | fO n=>
   cases k with
   | st c=>
    simp only [nk] at hin
    cases hcg:aO n c x with
    | none=>rw [hcg] at hin; exact hin.elim
    | some s=>
     rw [hcg] at hin
     obtain ⟨off,pre,cs0,post,xV,fr,ho,ec,hl,hp,hd,_⟩:=IJ n (show Ow h own ok c x cs fo from H) hcg
     have hpt:ah (.fO n :: p) (.st c)=ah p s.1:=by simp [ah,bX n hcg]
     rw [hpt] at Oe
     simp only [bG]
     rw [ho]
     simp only
     rw [ec,qi hl (dh hd)]
     exact ih hd hin Oe (fun b hb=>hfo b (hp.mem_iff.2 (an2 _ hb)))
   | _=>simp [nk] at hin
  | idx i=>
   cases k with
   | sl e k=>
    simp only [nk] at hin
    obtain ⟨hi0,hi1,hin⟩:=hin
    have akO:i<((@List.length (El k) x:Nat):Int):=hi1
    have hlt:i.toNat < @List.length (El k) x:=by omega
    have eg:(show List (El k) from x).getD i.toNat k.zero=(show List (El k) from x)[i.toNat]'hlt:=bZ hlt
    rw [eg] at hin
    unfold Ow at H
    rw [if_pos (Oe e (by simp [ah]))] at H
    obtain ⟨a,n,c,e1,e2,e3,H⟩:=H
    have e2':n=@List.length (El k) x:=e2
    rcases H with ⟨h0,_⟩ | ⟨b,o,arr,lo,hi,ea,hb,hf,hs,bD,hfl,hp,H⟩
    ·omega
    ·obtain ⟨ds,hcd,hod⟩:=H i.toNat hlt
     have hbb:h' b=h b:=hfo b (hp.mem_iff.2 (by simp))
     have r1:=iB hcd
     have r2:=iB (hcd.congr hbb)
     rw [dh hod] at r1 r2
     subst e1
     subst ea
     simp only [bG]
     rw [r1,r2]
     exact ih hod hin (fun t ht=>Oe t (by simp [ah,ht])) (fun b' hb'=>hfo b' (hp.mem_iff.2 (by simp [sj hb'])))
   | _=>simp [nk] at hin
def IG (h h':Heap) (own:List TypeId) (k:K) (x:El k) (cs:List Value) (wh:Option (Nat×Nat)) (z:Dat) (cs':List Value) (bad:List TypeId):Prop:=
 ∀q c0 w0,nk q k x→(∀t∈ah q k,az t own=true∧t∉bad)→bG h q k cs wh=some (c0,w0)→(aS q z.1 z.2).isSome=true→nk q z.1 z.2∧∃c1,bG h' q z.1 cs' wh=some (c1,w0)
structure Upd (h:Heap) (own:List TypeId) (ok:Nat→Prop) (p:List Stp) (k:K) (x:El k) (cs:List Value) (wh:Option (Nat×Nat)) (d:Dat) (rest:List Nat) (cs1:List Value) (nG:Option (Nat×Nat)):Prop where
 go:∀(h':Heap) (ok':Nat→Prop) (t:Dat) (pU:List Value) (vC:List Nat) (z:Dat),dX p k x t=some z→pU.length=d.1.size→Ow h' own ok' t.1 t.2 pU vC→
  (∀b,ok b→ok' b∧h' b=h b)→(∀b∈rest,nG.map (·.1)≠some b→h' b=h b)→
  (∀b o,nG=some (b,o)→Cells h' b o pU∧gQ h h' b o d.1.size)→
  (nG=none→pU=cs1)→(∀b o,wh=some (b,o)→nG.map (·.1)≠some b→h' b=h b)→
  ∃cs',cs'.length=cs.length∧Ow h' own ok' z.1 z.2 cs' (vC++rest)∧(∀b o,wh=some (b,o)→Cells h' b o cs')∧(wh=none→cs'=cs)∧
   ∀bad,t.1.size=d.1.size→IG h h' own d.1 d.2 cs1 nG t pU bad→(t.1=d.1→z.1=k)∧z.1.size=k.size∧IG h h' own k x cs wh z cs' bad∧bG h' p z.1 cs' wh=some (pU,nG)
def Foc (h:Heap) (own:List TypeId) (ok:Nat→Prop) (p:List Stp) (k:K) (x:El k) (cs:List Value) (fo:List Nat) (wh:Option (Nat×Nat)) (d:Dat):Prop:=
 ∃cs1 fP rest nG,bG h p k cs wh=some (cs1,nG)∧fo.Perm (fP++rest)∧Ow h own ok d.1 d.2 cs1 fP∧(∀b o,nG=some (b,o)→Cells h b o cs1)∧
  (∀b o,nG=some (b,o)→(ah p k=[]∧∃o0,wh=some (b,o0)∧o0≤o∧o+d.1.size≤o0+k.size)∨
   (b∈rest∧∃arr e lo hi,h b=some (.cells arr e (lo,hi))∧(∀i,i<arr.size→¬(lo≤i∧i<hi))∧(ah p k).getLast?=some e∧o+d.1.size≤arr.size))∧
  (nG=none→wh=none)∧Upd h own ok p k x cs wh d rest cs1 nG
theorem rZ {wh:Option (Nat×Nat)} {off b o:Nat} (e:wh.map (fun q=>(q.1,q.2+off))=some (b,o)):∃o0,wh=some (b,o0)∧o=o0+off:=by
 cases wh with
 | none=>simp at e
 | some q=>
  simp only [Option.map_some,anX,an8] at e
  exact ⟨q.2,by rw [←e.1],e.2.symm⟩
theorem aae {h:Heap} {own:List TypeId} {ok:Nat→Prop} {p:List Stp} {n:Nat} {c:K} {x:El c} {cs:List Value} {fo:List Nat} {wh:Option (Nat×Nat)} {s d:Dat}
  (H:Ow h own ok c x cs fo) (hc:∀b o,wh=some (b,o)→Cells h b o cs) (hcg:aO n c x=some s) (hnd:fo.Nodup) (hbase:∀b o,wh=some (b,o)→b∉fo)
  (ih:∀{cs0:List Value} {xV:List Nat} {Zw:Option (Nat×Nat)},Ow h own ok s.1 s.2 cs0 xV→(∀b o,Zw=some (b,o)→Cells h b o cs0)→xV.Nodup→(∀b o,Zw=some (b,o)→b∉xV)→Foc h own ok p s.1 s.2 cs0 xV Zw d) :
  Foc h own ok (.fO n :: p) (.st c) x cs fo wh d:=by
 obtain ⟨off,pre,cs0,post,xV,fr,ho,ec,hl,hp,hd,hu,hoth⟩:=IJ n H hcg
 have hsz:=dh hd
 have hpt:ah (.fO n :: p) (.st c)=ah p s.1:=by simp [ah,bX n hcg]
 have hnd':(xV++fr).Nodup:=hp.nodup hnd
 have hsub:(cs.drop off).take s.1.size=cs0:=by rw [ec]; exact qi hl hsz
 have hlen:cs.length=c.size:=dh H
 have alX:off+s.1.size+post.length=c.size:=by rw [←hlen,ec]; simp [hl,hsz]; omega
 obtain ⟨cs1,fP,rest,nG,hn,hp1,hd1,hc1,hin1,hnone,hup⟩:=ih (Zw:=wh.map fun q=>(q.1,q.2+off)) hd
  (fun b o e=>by
   obtain ⟨o0,e1,rfl⟩:=rZ e
   have:=hc b o0 e1
   rw [ec,Cells.append,Cells.append] at this
   rw [←hl]
   exact this.2.1) (an4.1 hnd').1
  (fun b o e hb=>by
   obtain ⟨o0,e1,rfl⟩:=rZ e
   exact hbase b o0 e1 (hp.mem_iff.2 (an2 _ hb)))
 have akI:∀b o,nG=some (b,o)→b∉fr:=by
  intro b o e hb
  rcases hin1 b o e with ⟨_,o0,ew,_⟩ | ⟨h1,_⟩
  ·obtain ⟨o1,e1,_⟩:=rZ ew
   exact hbase b o1 e1 (hp.mem_iff.2 (anZ _ hb))
  ·exact (an4.1 hnd').2.2 b (hp1.mem_iff.2 (anZ _ h1)) b hb rfl
 refine ⟨cs1,fP,rest++fr,nG, ?_, ?_,hd1,hc1, ?_, ?_,⟨?_⟩⟩
 ·simp only [bG]
  rw [ho]
  simp only
  rw [hsub]
  exact hn
 ·rw [←aoi]
  exact hp.trans (List.Perm.append_right _ hp1)
 ·intro b o e
  rw [hpt]
  rcases hin1 b o e with ⟨h0,o0,ew,h1,h2⟩ | ⟨h1,h2⟩
  ·obtain ⟨o1,e1,rfl⟩:=rZ ew
   refine .inl ⟨h0,o1,e1,by omega, ?_⟩
   show o+d.1.size≤o1+c.size
   omega
  ·exact .inr ⟨an2 _ h1,h2⟩
 ·intro e
  have:=hnone e
  cases wh with
  | none=>rfl
  | some q=>simp at this
 ·intro h' ok' t pU vC z hz hl' ht hok hrest hw hcs hb0
  simp only [dX,hcg] at hz
  cases hs:dX p s.1 s.2 t with
  | none=>rw [hs] at hz; simp at hz
  | some u=>
   rw [hs] at hz
   simp only at hz
   cases hcp:cz n c x u with
   | none=>rw [hcp] at hz; simp at hz
   | some y=>
    rw [hcp] at hz
    simp only [anX] at hz
    subst hz
    obtain ⟨Z0,hl0,ho0,hc0,hn0,hnk⟩:=hup.go h' ok' t pU vC u hs hl' ht hok (fun b hb=>hrest b (an2 _ hb)) hw hcs
     (fun b o e=>by
      obtain ⟨o0,e1,_⟩:=rZ e
      exact hb0 b o0 e1)
    have hfr:∀b∈fr,h' b=h b:=by
     intro b hb
     refine hrest b (anZ _ hb) ?_
     intro e
     cases zJ:nG with
     | none=>rw [zJ] at e; simp at e
     | some q=>
      rw [zJ] at e
      simp only [Option.map_some,anX] at e
      exact akI q.1 q.2 zJ (e▸hb)
    have r:=hu h' ok' u Z0 (vC++rest) y hcp ho0 hok hfr
    refine ⟨pre++(Z0++post),by rw [ec]; simp [hl0], ?_, ?_, ?_, ?_⟩
    ·have r':Ow h' own ok' y.1 y.2 (pre++(Z0++post)) (vC++(rest++fr)):=by
      rw [show vC++(rest++fr)=vC++rest++fr from (aoi ..).symm]; exact r
     exact r'
    ·intro b o e
     have hwc:=hc b o e
     rw [ec,Cells.append,Cells.append] at hwc
     have hc0':=hc0 b (o+off) (by rw [e]; rfl)
     rw [Cells.append,Cells.append,hl0,hsz,hl]
     have ads:=hwc.2.2
     rw [hsz,hl] at ads
     by_cases hbw:nG.map (·.1)=some b
     ·cases zJ:nG with
      | none=>rw [zJ] at hbw; simp at hbw
      | some q=>
       rw [zJ] at hbw
       simp only [Option.map_some,anX] at hbw
       subst hbw
       have hsb:=(hw q.1 q.2 zJ).2
       rcases hin1 q.1 q.2 zJ with ⟨_,o0,ew,g1,g2⟩ | ⟨h1,_⟩
       ·rw [e] at ew
        simp only [Option.map_some,anX,an8,true_and] at ew
        exact ⟨hsb.cells hwc.1 (.inl (by omega)),hc0',hsb.cells ads (.inr (by omega))⟩
       ·exact absurd (hp.mem_iff.2 (an2 _ (hp1.mem_iff.2 (anZ _ h1)))) (hbase q.1 o e)
     ·have hbb:=hb0 b o e hbw
      exact ⟨hwc.1.congr hbb,hc0',ads.congr hbb⟩
    ·intro e
     have:=hn0 (by rw [e]; rfl)
     rw [this,ec]
    ·intro bad hkind Cm
     obtain ⟨n1,n3,n2,n4⟩:=hnk bad hkind Cm
     refine ⟨fun e=>congrArg K.st (JH n hcg hcp (n1 e)),(show y.1.size=c.size from RL n hcg hcp n3), ?_,by
      show bG h' (.fO n :: p) (.st y.1) _ _=_
      simp only [bG]
      rw [zw n ho hcp]
      simp only
      rw [qi hl (dh ho0)]
      exact n4⟩
     intro q c0 w0 hq hqt Od hqs
     cases q with
     | nil=>
      simp only [bG,anX,an8] at Od ⊢
      exact ⟨trivial,_,rfl,Od.2⟩
     | cons sq q=>
      cases sq with
      | idx i=>simp [nk] at hq
      | fO m=>
       simp only [nk] at hq
       cases hg2:aO m c x with
       | none=>rw [hg2] at hq; exact hq.elim
       | some s2=>
        rw [hg2] at hq
        have ak6:ah (.fO m :: q) (.st c)=ah q s2.1:=by simp [ah,bX m hg2]
        rw [ak6] at hqt
        by_cases hmn:m=n
        ·subst hmn
         rw [hcg] at hg2
         simp only [anX] at hg2
         subst hg2
         simp only [bG] at Od
         rw [ho] at Od
         simp only at Od
         rw [hsub] at Od
         obtain ⟨r1,c1,r2⟩:=n2 q c0 w0 hq hqt Od (by
          have:(aS (.fO m :: q) (.st y.1) y.2).isSome=true:=hqs
          simpa only [aS,yz m hcp] using this)
         refine ⟨?_,c1, ?_⟩
         ·show nk (.fO m :: q) (.st y.1) y.2
          simp only [nk,yz m hcp]
          exact r1
         ·show bG h' (.fO m :: q) (.st y.1) _ _=_
          simp only [bG]
          rw [zw m ho hcp]
          simp only
          rw [qi hl (dh ho0)]
          exact r2
        ·obtain ⟨off2,cs2,fo2,g1,g2,g3,g4,g5,g6⟩:=hoth m s2 hmn hg2
         simp only [bG] at Od
         rw [g1] at Od
         simp only at Od
         rw [g2] at Od
         have g7:=g6 u y hcp
         refine ⟨?_,c0, ?_⟩
         ·show nk (.fO m :: q) (.st y.1) y.2
          simp only [nk,g7]
          exact hq
         ·show bG h' (.fO m :: q) (.st y.1) _ _=_
          simp only [bG]
          rw [Ec n m hmn hcg hcp n3 g1]
          simp only
          rw [g5 Z0 (by rw [hl0,hsz]), ←Od]
          exact KG q g3 hq (fun t ht=>(hqt t ht).1) (fun b hb=>hfr b (g4 b hb))
theorem aaf {h:Heap} {own:List TypeId} {ok:Nat→Prop} {p:List Stp} {i:Int} {e:TypeId} {k:K} {xs:List (El k)} {cs:List Value} {fo:List Nat} {wh:Option (Nat×Nat)} {d:Dat}
  (H:Ow h own ok (.sl e k) xs cs fo) (hc:∀b o,wh=some (b,o)→Cells h b o cs) (hnd:fo.Nodup) (hbase:∀b o,wh=some (b,o)→b∉fo) (hmem:az e own=true) (hlt:i.toNat<xs.length)
  (ih:∀{cs0:List Value} {xV:List Nat} {Zw:Option (Nat×Nat)},Ow h own ok k xs[i.toNat] cs0 xV→(∀b o,Zw=some (b,o)→Cells h b o cs0)→xV.Nodup→(∀b o,Zw=some (b,o)→b∉xV)→Foc h own ok p k xs[i.toNat] cs0 xV Zw d) :
  Foc h own ok (.idx i :: p) (.sl e k) xs cs fo wh d:=by
 unfold Ow at H
 rw [if_pos hmem] at H
 obtain ⟨a,n,c,e1,e2,e3,H⟩:=H
 have e2':n=xs.length:=e2
 rcases H with ⟨h0,_⟩ | ⟨b,o,arr,lo,hi,ea,hb,hf,aky,bD,hfl,hp,H⟩
 ·omega
 have akz:bD.length=xs.length:=hfl
 obtain ⟨ds,hcd,hod⟩:=H i.toNat hlt
 have hnd':(b :: bD.flatten).Nodup:=hp.nodup hnd
 have hnb:b∉bD.flatten:=(aou.1 hnd').1
 have hpk:=M3 (bD:=bD) (i:=i.toNat) (by omega)
 have qR:=hpk.nodup (aou.1 hnd').2
 obtain ⟨cs1,fP,rest,nG,hn,hp1,hd1,hc1,hin1,hnone,hup⟩:=ih (Zw:=some (b,o+i.toNat * k.size)) hod
  (fun b' o' e'=>by
   simp only [anX,an8] at e'
   obtain ⟨rfl,rfl⟩:=e'
   exact hcd) (an4.1 qR).1
  (fun b' o' e' hb'=>by
   simp only [anX,an8] at e'
   obtain ⟨rfl,rfl⟩:=e'
   exact hnb (sj hb'))
 have hdl:ds.length=k.size:=dh hod
 have hwn:nG≠none:=fun e'=>by have:=hnone e'; simp at this
 generalize hR:(bD.take i.toNat).flatten++(bD.drop (i.toNat+1)).flatten=R at *
 have hcap:i.toNat * k.size+k.size≤c * k.size:=by
  have:(i.toNat+1) * k.size≤c * k.size:=aos _ (by omega)
  rw [Nat.add_mul,Nat.one_mul] at this
  exact this
 refine ⟨cs1,fP,b :: (rest++R),nG, ?_, ?_,hd1,hc1, ?_,fun e'=>absurd e' hwn,⟨?_⟩⟩
 ·subst e1
  subst ea
  simp only [bG]
  have:qg h b (o+i.toNat * k.size) k.size=ds:=by
   have:=iB hcd
   rwa [hdl] at this
  rw [this]
  exact hn
 ·refine (hp.trans (.cons b (hpk.trans (List.Perm.append_right _ hp1)))).trans ?_
  rw [aoi]
  exact List.perm_middle.symm
 ·intro b' o' e'
  rcases hin1 b' o' e' with ⟨hz,o0,ew,h1,h2⟩ | ⟨h1,kL,e'',lo',hi',g1,g2,g3,g4⟩
  ·simp only [anX,an8] at ew
   obtain ⟨rfl,rfl⟩:=ew
   exact .inr ⟨aot,arr,e,lo,hi,hb,hf,by simp [ah,hz],by omega⟩
  ·refine .inr ⟨by simp [h1],kL,e'',lo',hi',g1,g2, ?_,g4⟩
   simp only [ah,List.getLast?_cons,g3,Option.getD_some]
 ·intro h' ok' t pU vC z hz hl' ht hok hrest hw hcs hb0
  simp only [dX] at hz
  rw [bZ hlt] at hz
  cases hs:dX p k xs[i.toNat] t with
  | none=>rw [hs] at hz; simp at hz
  | some u=>
   rw [hs] at hz
   simp only at hz
   cases hck:bP u.1 k u.2 with
   | none=>rw [hck] at hz; simp at hz
   | some y=>
    rw [hck] at hz
    simp only [anX] at hz
    subst hz
    obtain ⟨uk,ux⟩:=u
    unfold bP at hck
    split at hck
    case isFalse=>simp at hck
    rename_i hbq
    have hk:=K.eq_of_beq hbq
    simp only at hk
    subst hk
    simp only [anX] at hck
    subst hck
    have hwb:∀q,nG=some q→q.1∉R:=by
     intro q hq hqR
     rcases hin1 q.1 q.2 hq with ⟨_,o0,ew,_⟩ | ⟨h1,_⟩
     ·simp only [anX,an8] at ew
      exact hnb (hpk.mem_iff.2 (anZ _ (ew.1▸hqR)))
     ·exact (an4.1 qR).2.2 q.1 (hp1.mem_iff.2 (anZ _ h1)) q.1 hqR rfl
    obtain ⟨ds',hl0,ho0,hc0,_,hnk⟩:=hup.go h' ok' t pU vC ⟨uk,ux⟩ hs hl' ht hok (fun b' hb'=>hrest b' (by simp [hb'])) hw hcs
     (fun b' o' e' hne=>by
      simp only [anX,an8] at e'
      obtain ⟨rfl,rfl⟩:=e'
      exact hrest b aot hne)
    have acZ:∀b'∈R,h' b'=h b':=by
     intro b' hb'
     refine hrest b' (by simp [hb']) ?_
     intro e'
     cases zJ:nG with
     | none=>exact absurd zJ hwn
     | some q=>
      rw [zJ] at e'
      simp only [Option.map_some,anX] at e'
      exact hwb q zJ (e'▸hb')
    have hblk:∃kL,h' b=some (.cells kL e (lo,hi))∧kL.size=arr.size∧∀j,¬(o+i.toNat * uk.size≤j∧j<o+i.toNat * uk.size+uk.size)→kL[j]?=arr[j]?:=by
     by_cases hbw:nG.map (·.1)=some b
     ·cases zJ:nG with
      | none=>exact absurd zJ hwn
      | some q=>
       rw [zJ] at hbw
       simp only [Option.map_some,anX] at hbw
       obtain ⟨a1,a2,te,fr,g1,g2,g3,g4⟩:=(hw q.1 q.2 zJ).2
       rw [hbw] at g1 g2
       rw [hb] at g1
       simp only [anX,Obj.cells.injEq] at g1
       obtain ⟨rfl,rfl,rfl⟩:=g1
       rcases hin1 q.1 q.2 zJ with ⟨_,o0,ew,h1,h2⟩ | ⟨h1,_⟩
       ·simp only [anX,an8] at ew
        refine ⟨a2,g2,g3,fun j hj=>g4 j ?_⟩
        intro hj2
        exact hj (by omega)
       ·exact absurd (hpk.mem_iff.2 (an2 _ (hp1.mem_iff.2 (anZ _ (hbw▸h1))))) hnb
     ·have:=hrest b aot hbw
      exact ⟨arr,this.trans hb,rfl,fun _ _=>rfl⟩
    obtain ⟨kL,hb',hsz',hsame⟩:=hblk
    have hmul:∀a b:Nat,a<b→a * uk.size+uk.size≤b * uk.size:=by
     intro a b hab
     have:(a+1) * uk.size≤b * uk.size:=aos _ (by omega)
     rwa [Nat.add_mul,Nat.one_mul] at this
    have TY:∀(j:Nat) (dj:List Value),j≠i.toNat→dj.length=uk.size→Cells h b (o+j * uk.size) dj→Cells h' b (o+j * uk.size) dj:=by
     intro j dj hji hjl h1 q hq
     have:=h1 q hq
     unfold cellAt at this ⊢
     rw [hb] at this
     rw [hb']
     simp only at this ⊢
     rw [hsame _ (by
      rcases Nat.lt_or_gt_of_ne hji with hlt' | agr
      ·have:=hmul j i.toNat hlt'; omega
      ·have:=hmul i.toNat j agr; omega)]
     exact this
    have TZ:∀j,j≠i.toNat→∀q∈bD.getD j [],h' q=h q:=by
     intro j hji q hq
     refine acZ q ?_
     rw [←hR]
     by_cases hjf:j<bD.length
     ·rw [aoa,aob hjf] at hq
      simp only [Option.getD_some] at hq
      rcases Nat.lt_or_gt_of_ne hji with hlt' | agr
      ·exact an2 _ (List.mem_flatten.2 ⟨bD[j],List.mem_take_iff_getElem.2 ⟨j,by omega,rfl⟩,hq⟩)
      ·refine anZ _ (List.mem_flatten.2 ⟨bD[j],List.mem_drop_iff_getElem.2 ⟨j - (i.toNat+1),by omega, ?_⟩,hq⟩)
       congr 1
       omega
     ·rw [aoa,List.getElem?_eq_none (by omega)] at hq
      simp at hq
    refine ⟨cs,rfl, ?_, ?_,fun _=>rfl, ?_⟩
    ·unfold Ow
     rw [if_pos hmem]
     refine ⟨a,n,c,e1,by rw [e2']; simp,e3, .inr ⟨b,o,kL,lo,hi,ea,hb',by rw [hsz']; exact hf,by rw [hsz']; exact aky,bD.set i.toNat (vC++rest),by simp [akz], ?_, ?_⟩⟩
     ·have:=YT (bD:=bD) (i:=i.toNat) (by omega) (vC++rest)
      rw [hR,aoi] at this
      exact (List.perm_middle.trans (.cons b this.symm))
     ·intro j hj
      have hj':j<xs.length:=by simpa using hj
      by_cases hji:j=i.toNat
      ·subst hji
       refine ⟨ds',hc0 b _ rfl, ?_⟩
       have e1:(xs.set i.toNat ux)[i.toNat]'(by simpa using hj')=ux:=by simp
       have e2:(bD.set i.toNat (vC++rest)).getD i.toNat []=vC++rest:=by
        rw [bZ (by simp; omega)]; simp
       rw [e2]
       show Ow h' own ok' uk ((xs.set i.toNat ux)[i.toNat]'(by simpa using hj')) ds' _
       rw [e1]
       exact ho0
      ·obtain ⟨dj,h1,h2⟩:=H j hj'
       have hjl:dj.length=uk.size:=dh h2
       refine ⟨dj,TY j dj hji hjl h1, ?_⟩
       have e1:(xs.set i.toNat ux)[j]'(by simpa using hj')=xs[j]:=by
        rw [List.getElem_set_ne (by omega)]
       have e2:(bD.set i.toNat (vC++rest)).getD j []=bD.getD j []:=by
        rw [aoa,aoa,List.getElem?_set_ne (by omega)]
       rw [e2]
       show Ow h' own ok' uk ((xs.set i.toNat ux)[j]'(by simpa using hj')) dj _
       rw [e1]
       exact bz (fun b hb=>(hok b hb).2) (fun b hb=>(hok b hb).1) (TZ j hji) h2
    ·intro b' o' e'
     have hcb:=hc b' o' e'
     by_cases hbw:nG.map (·.1)=some b'
     ·cases zJ:nG with
      | none=>exact absurd zJ hwn
      | some q=>
       rw [zJ] at hbw
       simp only [Option.map_some,anX] at hbw
       have hbf:=hbase b' o' e'
       rcases hin1 q.1 q.2 zJ with ⟨_,o0,ew,_⟩ | ⟨h1,_⟩
       ·simp only [anX,an8] at ew
        exact absurd (hp.mem_iff.2 (by rw [←hbw, ←ew.1]; exact aot)) hbf
       ·exact absurd (hp.mem_iff.2 (aol _ (hpk.mem_iff.2 (an2 _ (hp1.mem_iff.2 (anZ _ (hbw▸h1))))))) hbf
     ·exact hcb.congr (hb0 b' o' e' hbw)
    ·intro bad hkind Cm
     obtain ⟨_,_,n2,n4⟩:=hnk bad hkind Cm
     refine ⟨fun _=>rfl,rfl, ?_,by
      subst e1
      subst ea
      simp only [bG]
      have hr':qg h' b (o+i.toNat * uk.size) uk.size=ds':=by
       have:=iB (hc0 b _ rfl)
       rwa [hl0,hdl] at this
      rw [hr']
      exact n4⟩
     intro q c0 w0 hq hqt Od hqs
     cases q with
     | nil=>exact ⟨trivial,_,by rw [←(show (cs,wh)=(c0,w0) from by simpa [bG] using Od)]; rfl⟩
     | cons sq q=>
      cases sq with
      | fO m=>simp [nk] at hq
      | idx j=>
       simp only [nk] at hq
       obtain ⟨hj0,hj1,hq⟩:=hq
       have akR:j<(xs.length:Int):=hj1
       have hjl:j.toNat<xs.length:=by omega
       have ejx:(show List (El uk) from xs).getD j.toNat uk.zero=xs[j.toNat]:=bZ hjl
       rw [ejx] at hq
       subst e1
       subst ea
       simp only [bG] at Od
       have agG:∀t∈ah q uk,az t own=true∧t∉bad:=fun t ht=>hqt t (by simp [ah,ht])
       have hln:j<((xs.set i.toNat ux).length:Int):=by simpa using akR
       by_cases hji:j.toNat=i.toNat
       ·have hr:qg h b (o+j.toNat * uk.size) uk.size=ds:=by
         rw [hji]
         have:=iB hcd
         rwa [hdl] at this
        rw [hr,hji] at Od
        have hq':nk q uk xs[i.toNat]:=by
         have:xs[j.toNat]=xs[i.toNat]:=by congr 1
         rw [←this]; exact hq
        obtain ⟨r1,c1,r2⟩:=n2 q c0 w0 hq' agG Od (by
         have:(aS (.idx j :: q) (.sl e uk) (xs.set i.toNat ux)).isSome=true:=hqs
         simp only [aS] at this
         have e3:(show List (El uk) from xs.set i.toNat ux).getD j.toNat uk.zero=ux:=by
          rw [hji,bZ (by simpa using hlt)]; simp
         rw [e3] at this
         exact this)
        refine ⟨⟨hj0,hln, ?_⟩,c1, ?_⟩
        ·have:(show List (El uk) from xs.set i.toNat ux).getD j.toNat uk.zero=ux:=by
          rw [hji,bZ (by simpa using hlt)]; simp
         rw [this]
         exact r1
        ·simp only [bG]
         have hr':qg h' b (o+j.toNat * uk.size) uk.size=ds':=by
          rw [hji]
          have:=iB (hc0 b _ rfl)
          rwa [hl0,hdl] at this
         rw [hr',hji]
         exact r2
       ·obtain ⟨dj,h1,h2⟩:=H j.toNat hjl
        have ada:dj.length=uk.size:=dh h2
        have hr:qg h b (o+j.toNat * uk.size) uk.size=dj:=by
         have:=iB h1
         rwa [ada] at this
        have hr':qg h' b (o+j.toNat * uk.size) uk.size=dj:=by
         have:=iB (TY j.toNat dj hji ada h1)
         rwa [ada] at this
        rw [hr] at Od
        refine ⟨⟨hj0,hln, ?_⟩,c0, ?_⟩
        ·have:(show List (El uk) from xs.set i.toNat ux).getD j.toNat uk.zero=xs[j.toNat]:=by
          rw [bZ (by simpa using hjl),List.getElem_set_ne (by omega)]
         rw [this]
         exact hq
        ·simp only [bG]
         rw [hr', ←Od]
         exact KG q h2 hq (fun t ht=>(agG t ht).1) (TZ j.toNat hji)
theorem focus {h:Heap} {own:List TypeId} {ok:Nat→Prop}:∀(p:List Stp) {k:K} {x:El k} {cs:List Value} {fo:List Nat} {wh:Option (Nat×Nat)} {d:Dat},
  Ow h own ok k x cs fo→(∀b o,wh=some (b,o)→Cells h b o cs)→aS p k x=some d→nk p k x→(∀t∈ah p k,az t own=true)→fo.Nodup→(∀b o,wh=some (b,o)→b∉fo)→
   Foc h own ok p k x cs fo wh d:=by
 intro p
 induction p with
 | nil=>
  intro k x cs fo wh d H hc hg _ _ _ _
  simp only [aS,anX] at hg
  subst hg
  refine ⟨cs,fo,[],wh,rfl,by simp,H,hc,fun b o e=>.inl ⟨rfl,o,e,aod _,aod _⟩,id,⟨?_⟩⟩
  intro h' ok' t pU vC z hz hl ht _ _ hw hn _
  simp only [dX,anX] at hz
  subst hz
  exact ⟨pU,by rw [hl,dh H],by simpa using ht,fun b o e=>(hw b o e).1,hn,fun bad hk Cm=>⟨id,hk,Cm,rfl⟩⟩
 | cons s p ih=>
  intro k x cs fo wh d H hc hg hin Oe hnd hbase
  cases s with
  | fO n=>
   cases k with
   | st c=>
    simp only [aS] at hg
    cases hcg:aO n c x with
    | none=>rw [hcg] at hg; simp at hg
    | some s=>
     rw [hcg] at hg
     simp only at hg
     simp only [nk,hcg] at hin
     have hpt:ah (.fO n :: p) (.st c)=ah p s.1:=by simp [ah,bX n hcg]
     rw [hpt] at Oe
     exact aae (show Ow h own ok c x cs fo from H) hc hcg hnd hbase (fun H0 hc0 sI hb0=>ih H0 hc0 hg hin Oe sI hb0)
   | _=>simp [aS] at hg
  | idx i=>
   cases k with
   | sl e k=>
    simp only [aS] at hg
    simp only [nk] at hin
    obtain ⟨hi0,hi1,hin⟩:=hin
    have akO:i<((@List.length (El k) x:Nat):Int):=hi1
    have hlt:i.toNat < @List.length (El k) x:=by omega
    have eg:(show List (El k) from x).getD i.toNat k.zero=(show List (El k) from x)[i.toNat]'hlt:=bZ hlt
    rw [eg] at hin hg
    exact aaf (xs:=x) H hc hnd hbase (Oe e (by simp [ah])) hlt (fun H0 hc0 sI hb0=>ih H0 hc0 hg hin (fun t ht=>Oe t (by simp [ah,ht])) sI hb0)
   | _=>simp [aS] at hg
end
section
open Go
variable [Fr]
def Prog.ends {α:Type}:Prog α→St→α→Prop
 | .ret a,_,x=>x=a
 | .fail,_,_=>False
 | .slot n k,σ,x=>(k (σ.slots n)).ends σ x
 | .root r k,σ,x=>(k (σ.roots r)).ends σ x
 | .vB c _ k,σ,x=>c∧k.ends σ x
 | .br c t e,σ,x=>(c=true∧t.ends σ x)∨(c=false∧e.ends σ x)
 | .opt _ o k,σ,x=>∃b,o=some b∧(k b).ends σ x
theorem wN {α R:Type} (p:Prog α) {σ:St} {K:α→Option R} {r:R} (h:p.run σ K=some r):∃x,p.ends σ x∧K x=some r:=by
 induction p with
 | ret a=>exact ⟨a,rfl,h⟩
 | fail=>simp [Prog.run] at h
 | slot n k ih=>exact ih _ h
 | root n k ih=>exact ih _ h
 | vB c d k ih=>
  simp only [Prog.run] at h
  split at h
  ·rename_i hc
   obtain ⟨x,h1,h2⟩:=ih h
   exact ⟨x,⟨hc,h1⟩,h2⟩
  ·simp at h
 | br c t e Sy Sw=>
  simp only [Prog.run] at h
  split at h
  ·rename_i hc
   obtain ⟨x,h1,h2⟩:=Sy h
   exact ⟨x, .inl ⟨hc,h1⟩,h2⟩
  ·rename_i hc
   obtain ⟨x,h1,h2⟩:=Sw h
   exact ⟨x, .inr ⟨by simpa using hc,h1⟩,h2⟩
 | opt β o k ih=>
  simp only [Prog.run] at h
  cases ho:o with
  | none=>rw [ho] at h; simp at h
  | some b=>
   rw [ho] at h
   obtain ⟨x,h1,h2⟩:=ih b h
   exact ⟨x,⟨b,rfl,h1⟩,h2⟩
def bK:K→List Value
 | .int ik=>[.int ik 0]
 | .bool=>[.bool false]
 | .str=>[.string ByteArray.empty]
 | .sl _ _=>[.slice none 0 0]
 | .id _=>[.slice none 0 0]
 | .unit=>[]
 | .pair a b=>bK a++bK b
 | .st f=>bK f
 | .gap _=>[]
def sJ:K→Value
 | .st f=>.agg (bK f).toArray
 | .int ik=>.int ik 0
 | .bool=>.bool false
 | .str=>.string ByteArray.empty
 | .sl _ _=>.slice none 0 0
 | .id _=>.slice none 0 0
 | _=>undef
def sP (P:Program) (t:TypeId) (k:K):Prop:=∃i,P.info? t=some i∧i.size=k.size∧i.zero=some (sJ k)
def jT (P:Program) (T:iV):K→(TypeId→Prop)×(List Field→Nat→Prop)
 | .int ik=>(fun t=>P.underlying t=some (.int ik)∧sP P t (.int ik),fun _ _=>False)
 | .bool=>(fun t=>P.underlying t=some .bool∧sP P t .bool,fun _ _=>False)
 | .str=>(fun t=>P.underlying t=some .string∧sP P t .str,fun _ _=>False)
 | .sl e k=>(fun t=>P.underlying t=some (.slice e)∧sP P t (.sl e k)∧(jT P T k).1 e∧0<k.size∧∃i,P.info? e=some i∧i.bytes=T.bytes e∧0<i.bytes,fun _ _=>False)
 | .unit=>(fun _=>False,fun fs _=>fs=[])
 | .pair a b=>(fun _=>False,fun fs off=>match fs with
  | []=>False
  | f :: fs=>f.offset=off∧(jT P T a).1 f.type∧0<a.size∧(jT P T b).2 fs (off+a.size))
 | .st c=>(fun t=>(∃fs,P.underlying t=some (.struct fs)∧(jT P T c).2 fs.toList 0)∧sP P t (.st c),fun _ _=>False)
 | .gap _=>(fun _=>False,fun _ _=>False)
 | .id e=>(fun t=>P.underlying t=some (.slice e)∧sP P t (.id e)∧T.ids=true,fun _ _=>False)
def fK (P:Program) (T:iV) (t:TypeId) (k:K):Prop:=(jT P T k).1 t
structure eF (P:Program) (T:iV):Prop where
 ty:∀t k,T.ty t=some k→fK P T t k
 ptr:∀t,T.ptr t=true→∃e,P.underlying t=some (.pointer e)
theorem fK.info {P:Program} {T:iV} {t:TypeId} {k:K} (h:fK P T t k):sP P t k:=by
 unfold fK jT at h
 cases k with
 | int ik=>exact h.2
 | bool=>exact h.2
 | id e=>exact h.2.1
 | str=>exact h.2
 | sl e k=>exact h.2.1
 | unit=>exact h.elim
 | pair a b=>exact h.elim
 | st c=>exact h.2
 | gap n=>exact h.elim
def VC (k:K) (v:Value) (cs:List Value):Prop:=match k with
 | .st _=>v=.agg cs.toArray
 | _=>cs=[v]∧∀x,v≠.agg x
theorem VC.cells {k:K} {v:Value} {cs:List Value} (h:VC k v cs):v.cells.toList=cs:=by
 unfold VC at h
 split at h
 ·subst h; simp [Value.cells]
 ·obtain ⟨rfl,hn⟩:=h
  cases v <;> first | rfl | (exact absurd rfl (hn _))
def uD:K→Bool
 | .st _=>true
 | _=>false
theorem fK.isAgg {P:Program} {T:iV} {t:TypeId} {k:K} (h:fK P T t k) (w:World):(Go.isAgg t).run P w=.ok (uD k) w:=by
 unfold fK jT at h
 cases k with
 | int ik=>simp [Go.isAgg,run_underlying h.1,uD]
 | bool=>simp [Go.isAgg,run_underlying h.1,uD]
 | id e=>simp [Go.isAgg,run_underlying h.1,uD]
 | str=>simp [Go.isAgg,run_underlying h.1,uD]
 | sl e k=>simp [Go.isAgg,run_underlying h.1,uD]
 | unit=>exact h.elim
 | pair a b=>exact h.elim
 | st c=>obtain ⟨⟨fs,h1,_⟩,_⟩:=h; simp [Go.isAgg,run_underlying h1,uD]
 | gap n=>exact h.elim
theorem sP.sizeOf {P:Program} {t:TypeId} {k:K} (h:sP P t k) (w:World):(Go.sizeOf t).run P w=.ok k.size w:=by
 obtain ⟨i,h1,h2,_⟩:=h
 simp [Go.sizeOf,run_typeInfo w h1,h2]
theorem sP.zero {P:Program} {t:TypeId} {k:K} (h:sP P t k) (w:World):(Go.zeroValue t).run P w=.ok (sJ k) w:=by
 obtain ⟨i,h1,_,h3⟩:=h
 simp [Go.zeroValue,run_typeInfo w h1,h3]
theorem addr_add (b o n:Nat):(⟨b,o,none⟩:Addr).add n=⟨b,o+n,none⟩:=by unfold Addr.add; split <;> simp_all
theorem tJ {P:Program} {T:iV} {t:TypeId} {k:K} {w:World} {b o:Nat} {cs:List Value} {v:Value} (h:fK P T t k) (hc:Cells (hp w) b o cs) (hl:cs.length=k.size) (hv:VC k v cs) :
  (Instr.loadAt t (.pointer (some ⟨b,o,none⟩))).run P w=.ok v w:=by
 have hcell:∀j u,cs[j]?=some u→w.cell? ((⟨b,o,none⟩:Addr).add j)=some u:=by
  intro j u hj
  rw [addr_add,zq,hc j (List.getElem?_eq_some_iff.1 hj).1]
  exact hj
 unfold Instr.loadAt Instr.sureAddr loadVar
 simp only [aom,aor,Result.andThen,h.isAgg w]
 cases k with
 | st c=>
  have e:v=.agg cs.toArray:=hv
  have h2:=run_loadCells_list (P:=P) w ⟨b,o,none⟩ cs hcell
  rw [hl] at h2
  simp [uD,h.info.sizeOf w,h2,Result.andThen,e]
 | unit=>exact (show False from h).elim
 | pair a b=>exact (show False from h).elim
 | gap n=>exact (show False from h).elim
 | int ik=>
  obtain ⟨e,_⟩:cs=[v]∧_:=hv
  have:=hcell 0 v (by rw [e]; rfl)
  rw [addr_add,Nat.add_zero] at this
  simp [uD,this]
 | bool=>
  obtain ⟨e,_⟩:cs=[v]∧_:=hv
  have:=hcell 0 v (by rw [e]; rfl)
  rw [addr_add,Nat.add_zero] at this
  simp [uD,this]
 | id e=>
  obtain ⟨e,_⟩:cs=[v]∧_:=hv
  have:=hcell 0 v (by rw [e]; rfl)
  rw [addr_add,Nat.add_zero] at this
  simp [uD,this]
 | str=>
  obtain ⟨e,_⟩:cs=[v]∧_:=hv
  have:=hcell 0 v (by rw [e]; rfl)
  rw [addr_add,Nat.add_zero] at this
  simp [uD,this]
 | sl e k=>
  obtain ⟨e,_⟩:cs=[v]∧_:=hv
  have:=hcell 0 v (by rw [e]; rfl)
  rw [addr_add,Nat.add_zero] at this
  simp [uD,this]
def eX:K→Bool
 | .gap _=>false
 | .pair a b=>eX a && eX b
 | .st f=>eX f
 | _=>true
theorem jT.eX {P:Program} {T:iV}:∀{k:K},(∀t,(jT P T k).1 t→Ow.eX k=true)∧(∀fs off,(jT P T k).2 fs off→Ow.eX k=true):=by
 intro k
 induction k with
 | int ik=>exact ⟨fun _ _=>rfl,fun _ _ h=>h.elim⟩
 | bool=>exact ⟨fun _ _=>rfl,fun _ _ h=>h.elim⟩
 | id e=>exact ⟨fun _ _=>rfl,fun _ _ h=>h.elim⟩
 | str=>exact ⟨fun _ _=>rfl,fun _ _ h=>h.elim⟩
 | sl e k ih=>exact ⟨fun _ _=>rfl,fun _ _ h=>h.elim⟩
 | unit=>exact ⟨fun _ h=>h.elim,fun _ _ _=>rfl⟩
 | pair a b iha ihb=>
  refine ⟨fun _ h=>h.elim,fun fs off h=>?_⟩
  cases fs with
  | nil=>exact h.elim
  | cons f fs=>simp [Ow.eX,iha.1 _ h.2.1,ihb.2 _ _ h.2.2.2]
 | st f ih=>exact ⟨fun t h=>by obtain ⟨⟨fs,_,h⟩,_⟩:=h; exact ih.2 _ _ h,fun _ _ h=>h.elim⟩
 | gap n=>exact ⟨fun _ h=>h.elim,fun _ _ h=>h.elim⟩
theorem fK.eX {P:Program} {T:iV} {t:TypeId} {k:K} (h:fK P T t k):Ow.eX k=true:=jT.eX.1 t h
theorem NG {h:Heap} {ok:Nat→Prop}:∀{k:K} {x:El k} {cs:List Value},eX k=true→Vw h ok k x cs→∀v∈cs,v.oneCell'=true:=by
 intro k
 induction k with
 | int ik=>intro x cs _ H v hv; rw [H.1] at hv; simp at hv; subst hv; rfl
 | bool=>intro x cs _ H v hv; rw [show cs=_ from H] at hv; simp at hv; subst hv; rfl
 | id e=>intro x cs _ H v hv; rw [show cs=_ from H] at hv; simp only [aog] at hv; subst hv; obtain ⟨a,n,c,h⟩:=Fr.agV x; rw [h]; rfl
 | str=>intro x cs _ H v hv; obtain ⟨B,rfl,_⟩:=H; simp at hv; subst hv; rfl
 | sl e k ih=>intro x cs _ H v hv; obtain ⟨a,n,c,rfl,_⟩:=H; simp at hv; subst hv; rfl
 | unit=>intro x cs _ H v hv; rw [show cs=_ from H] at hv; simp at hv
 | pair a b iha ihb=>
  intro x cs hg H v hv
  simp [eX] at hg
  obtain ⟨c1,c2,rfl,h1,h2⟩:=H
  rcases an6.1 hv with h | h
  ·exact iha hg.1 h1 v h
  ·exact ihb hg.2 h2 v h
 | st f ih=>intro x cs hg H; exact ih (x:=x) hg H
 | gap n=>intro x cs hg; simp [eX] at hg
theorem Rm {h:Heap} {own:List TypeId} {ok:Nat→Prop} {k:K} {x:El k} {cs:List Value} {fo:List Nat} (hg:eX k=true) (H:Ow h own ok k x cs fo):∀v∈cs,v.oneCell'=true:=
 NG hg (kW (fun _=>True) (fun _ _=>trivial) (fun _ _=>trivial) H)
theorem VC.mk {h:Heap} {ok:Nat→Prop} {k:K} {x:El k} {cs:List Value} (hk:∀a b,k≠.pair a b) (hu:k≠.unit) (hg:∀n,k≠.gap n) (H:Vw h ok k x cs):∃v,VC k v cs:=by
 cases k with
 | int ik=>exact ⟨.int ik x,H.1,by simp⟩
 | bool=>exact ⟨.bool x,H,by simp⟩
 | id e=>obtain ⟨a,n,c,h⟩:=Fr.agV x; exact ⟨Fr.iM x,H,by rw [h]; simp⟩
 | str=>obtain ⟨B,e,_⟩:=H; exact ⟨.string B,e,by simp⟩
 | sl e k=>obtain ⟨a,n,c,e,_⟩:=H; exact ⟨.slice a n c,e,by simp⟩
 | unit=>exact absurd rfl hu
 | pair a b=>exact absurd rfl (hk a b)
 | st c=>exact ⟨.agg cs.toArray,rfl⟩
 | gap n=>exact absurd rfl (hg n)
theorem Qf (w:World) (o:Obj) (b:Nat):hp (w.alloc o) b=if b=w.heap.size then some o else hp w b:=by
 show (w.heap.push o)[b]?=_
 rw [Array.getElem?_push]
 rfl
theorem pI (w:World) (o:Obj) {b:Nat} (h:b<w.heap.size):hp (w.alloc o) b=hp w b:=by
 rw [Qf,if_neg (by omega)]
theorem rV (w:World) (o:Obj):hp (w.alloc o) w.heap.size=some o:=by
 rw [Qf,if_pos rfl]
theorem agB {w:World} {b:Nat} {o:Obj} (h:hp w b=some o):b<w.heap.size:=(Array.getElem?_eq_some_iff.1 h).1
theorem Gn (w:World) (b o:Nat) (v:Value) {b':Nat} (h:b'≠b):hp (w.setCell ⟨b,o,none⟩ v) b'=hp w b':=by
 simp only [hp,World.setCell,Array.getElem?_modify]
 rw [if_neg (by omega)]
theorem IB (w:World) (b o:Nat) (v:Value) {arr:Array Value} {e:TypeId} {fr:Nat×Nat} (h:hp w b=some (.cells arr e fr)) :
  hp (w.setCell ⟨b,o,none⟩ v) b=some (.cells (arr.setIfInBounds o v) e fr):=by
 have h':w.heap[b]?=some (.cells arr e fr):=h
 simp [hp,World.setCell,Array.getElem?_modify,h']
theorem uI (b:Nat):∀(vs:List Value) (w:World) (arr:Array Value) (e:TypeId) (fr:Nat×Nat) (o:Nat),hp w b=some (.cells arr e fr)→o+vs.length≤arr.size→
  (∀b',b'≠b→hp (w.setCells b o vs) b'=hp w b')∧(w.setCells b o vs).heap.size=w.heap.size∧
  ∃kL,hp (w.setCells b o vs) b=some (.cells kL e fr)∧kL.size=arr.size∧(∀i,i<vs.length→kL[o+i]?=vs[i]?)∧∀i,¬(o≤i∧i<o+vs.length)→kL[i]?=arr[i]?:=by
 intro vs
 induction vs with
 | nil=>intro w arr e fr o hb _; exact ⟨fun _ _=>rfl,rfl,arr,hb,rfl,fun i hi=>by simp at hi,fun _ _=>rfl⟩
 | cons v vs ih=>
  intro w arr e fr o hb hl
  simp only [aok] at hl
  have h1:=IB w b o v hb
  obtain ⟨g1,g2,kL,g3,g4,g5,g6⟩:=ih (w.setCell ⟨b,o,none⟩ v) _ e fr (o+1) h1 (by simp; omega)
  refine ⟨fun b' hb'=>(g1 b' hb').trans (Gn w b o v hb'),by rw [World.setCells,g2]; simp [World.setCell],kL,g3,by rw [g4]; simp, ?_, ?_⟩
  ·intro i hi
   simp only [aok] at hi
   cases i with
   | zero=>
    rw [g6 _ (by omega)]
    simp only [Nat.add_zero,List.getElem?_cons_zero]
    rw [Array.getElem?_setIfInBounds_self_of_lt (by omega)]
   | succ i=>
    rw [show o+(i+1)=o+1+i from by omega,g5 i (by omega)]
    simp
  ·intro i hi
   simp only [aok] at hi
   rw [g6 i (by omega),Array.getElem?_setIfInBounds_ne (by omega)]
theorem qh (b:Nat):∀(vs:List Value) (w:World) (o:Nat),(w.setCells b o vs).os=w.os∧(w.setCells b o vs).tape=w.tape∧(w.setCells b o vs).output=w.output:=by
 intro vs
 induction vs with
 | nil=>intro w o; exact ⟨rfl,rfl,rfl⟩
 | cons v vs ih=>intro w o; exact ih (w.setCell ⟨b,o,none⟩ v) (o+1)
theorem mP {P:Program} {w:World} {b o:Nat} {arr:Array Value} {e:TypeId} {lo hi:Nat} (vs:List Value) (hb:hp w b=some (.cells arr e (lo,hi))) (hf:∀i,i<arr.size→¬(lo≤i∧i<hi))
  (hl:o+vs.length≤arr.size) (h1:∀v∈vs,v.oneCell'=true):(storeCells ⟨b,o,none⟩ vs).run P w=.ok () (w.setCells b o vs):=by
 have:=run_storeCells_cells (P:=P) b o vs 0 w (fun j hj=>by
   rw [zq]
   unfold cellAt
   rw [hb]
   simp only [Nat.add_zero]
   rw [Array.getElem?_eq_getElem (by omega)]
   rfl) (fun j hj=>by
   unfold World.frozen?
   have hb':w.heap[b]?=some (.cells arr e (lo,hi)):=hb
   simp only [hb',Nat.add_zero]
   have:=hf (o+j) (by omega)
   simp
   omega) h1
 simpa using this
theorem He {P:Program} {T:iV} {t:TypeId} {k:K} {w:World} {b o:Nat} {cs:List Value} {v:Value} {arr:Array Value} {e:TypeId} {lo hi:Nat} (h:fK P T t k) (hb:hp w b=some (.cells arr e (lo,hi)))
  (hf:∀i,i<arr.size→¬(lo≤i∧i<hi)) (hl:cs.length=k.size) (hs:o+k.size≤arr.size) (hv:VC k v cs) (h1:∀v∈cs,v.oneCell'=true) :
  (Instr.storeAt t (.pointer (some ⟨b,o,none⟩)) v).run P w=.ok () (w.setCells b o cs):=by
 have hc:=hv.cells
 have hsz:v.cells.size=k.size:=by rw [←hl, ←hc]; simp
 unfold Instr.storeAt Instr.sureAddr storeVar
 simp only [aom,aor,Result.andThen,h.info.sizeOf w,Sem.run_ite]
 rw [if_neg (by rw [hsz]; simp)]
 rw [hc]
 exact mP cs hb hf (by omega) h1
theorem K4 {P:Program} (t:TypeId) (v:Value) (w:World):(newVar t v).run P w=.ok ⟨w.heap.size,0,none⟩ (w.alloc (.cells v.cells t)):=by
 simp [newVar,newRow]
theorem Na {P:Program} (t:TypeId) (v:Value) (w:World):(Instr.box t v).run P w=.ok (.pointer (some ⟨w.heap.size,0,none⟩)) (w.alloc (.cells v.cells t)):=by
 simp [Instr.box,K4,Result.andThen]
theorem QM {P:Program} {T:iV} {t:TypeId} {k:K} (h:fK P T t k) (w:World):(Instr.alloc t true (.tuple #[])).run P w=.ok (.pointer (some ⟨w.heap.size,0,none⟩)) (w.alloc (.cells (sJ k).cells t)):=by
 simp [Instr.alloc,h.info.zero w,K4,Result.andThen]
theorem UB:∀{k:K},(∀a b,k≠.pair a b)→k≠.unit→(∀n,k≠.gap n)→VC k (sJ k) (bK k):=by
 intro k h1 h2 h3
 cases k with
 | int ik=>exact ⟨rfl,by simp [sJ]⟩
 | bool=>exact ⟨rfl,by simp [sJ]⟩
 | id e=>exact ⟨rfl,by simp [sJ]⟩
 | str=>exact ⟨rfl,by simp [sJ]⟩
 | sl e k=>exact ⟨rfl,by simp [sJ]⟩
 | unit=>exact absurd rfl h2
 | pair a b=>exact absurd rfl (h1 a b)
 | st c=>rfl
 | gap n=>exact absurd rfl (h3 n)
theorem Fa {h:Heap} {own:List TypeId} {ok:Nat→Prop}:∀{k:K},eX k=true→(∀t∈k.tys,az t own=true)→Ow h own ok k k.zero (bK k) []:=by
 intro k
 induction k with
 | int ik=>intro _ _; exact ⟨rfl,rfl,by cases ik <;> simp [G9,K.zero]⟩
 | bool=>intro _ _; exact ⟨rfl,rfl⟩
 | id e=>intro _ _; exact ⟨rfl,by show _=[Fr.iM 0]; rw [Fr.adx]; rfl⟩
 | str=>intro _ _; exact ⟨rfl,ByteArray.empty,rfl,rfl⟩
 | sl e k ih=>
  intro _ ht
  unfold Ow
  rw [if_pos (ht e (by simp [K.tys]))]
  exact ⟨none,0,0,rfl,rfl,aod _, .inl ⟨rfl,rfl⟩⟩
 | unit=>intro _ _; exact ⟨rfl,rfl⟩
 | pair a b iha ihb=>
  intro hg ht
  simp [eX] at hg
  exact ⟨bK a,bK b,[],[],rfl, .refl _,iha hg.1 (fun t h=>ht t (by simp [K.tys,h])),ihb hg.2 (fun t h=>ht t (by simp [K.tys,h]))⟩
 | st f ih=>intro hg ht; exact ih hg ht
 | gap n=>intro hg; simp [eX] at hg
end
section
open Go
variable [Fr]
structure UN where
 base:Option (Nat×Nat×Nat)
 bl:List Nat
 kp:Bool
structure Cx where
 nt:Nat
 w0:World
 ext:Nat→Nat→Prop
 par:Nat→Option UN
 ptrs:Nat→List Stp→List TypeId→Value→Prop
 refs:Nat→Value→Prop
structure dL where
 loc:Nat→Nat×Nat
 hdr:Nat→List Value
 fo:Nat→List Nat
def dU (α:dL) (R:Root) (r:Nat):Option (Nat×Nat):=match R.kind with
 | .var _=>some (α.loc r)
 | .par=>some (α.loc r)
 | _=>none
def blk (α:dL) (R:Root) (r:Nat):List Nat:=(match dU α R r with
 | some q=>[q.1]
 | none=>[])++α.fo r
def aP (σ:St) (r:Nat) (R:Root):Prop:=σ.roots r=some R∧R.aX=false
def lU (cx:Cx) (b:Nat):Prop:=∃j pi o n,cx.par j=some pi∧pi.base=some (b,o,n)
def iQ (cx:Cx) (σ:St) (α:dL) (F:List Nat) (w:World) (T:List Tag) (b:Nat):Prop:=
 b<w.heap.size∧b∉F∧¬lU cx b∧(∀r R,aP σ r R→b∈blk α R r→∃n,(r,n)∈T)∧
 (b<cx.w0.heap.size→(∃j n,(pV j,n)∈T∧cx.ext j b)∨∃j pi,cx.par j=some pi∧b∈pi.bl)
def bu (σ:St) (R:Root):Prop:=R.aX=false∧bq σ R.Co R.tags=true
def KL (σ:St) (α:dL) (F:List Nat) (w:World) (T:List Tag) (b:Nat):Prop:=
 b<w.heap.size∧b∉F∧∀r R,aP σ r R→b∈blk α R r→∃n,(r,n)∈T
def KU (cx:Cx) (σ:St) (α:dL) (F:List Nat) (w:World) (bt:TypeId) (k:K) (x:El k) (T:List Tag) (v:Value):Prop:=
 (∃b o,v=.pointer (some ⟨b,o,none⟩))∧(bq σ (bt :: k.tys) T=true→∃b o cs,v=.pointer (some ⟨b,o,none⟩)∧Cells (hp w) b o cs∧Vw (hp w) (iQ cx σ α F w T) k x cs∧KL σ α F w T b∧
  ((bt=SENT∧∀t∈T,fJ t.1=true)∨(vU (hp w) b bt∧¬lU cx b)))
def kG (cx:Cx) (σ:St) (α:dL) (F:List Nat) (w:World):List (TypeId×Dat×List Tag)→List Value→Prop
 | [],[]=>True
 | c :: cs,v :: vs=>KU cx σ α F w c.1 c.2.1.1 c.2.1.2 c.2.2 v∧kG cx σ α F w cs vs
 | _,_=>False
def kH:List Stp→K→Option (Nat×K)
 | [],k=>some (0,k)
 | .fO n :: p, .st c=>match bB n c with
  | some q=>match kH p q.2 with
   | some r=>some (q.1+r.1,r.2)
   | none=>none
  | none=>none
 | _,_=>none
def aeb (α:dL) (h:Heap) (r:Nat) (R:Root) (p:List Stp) (q:Nat) (Q:Root) (v:Value):Prop:=
 ∃(e:TypeId) (kk:K) (xs:List (El kk)) (wh:Option (Nat×Nat)) (b:Option Addr) (n c:Nat) (ce:List Value) (hq:Value) (b1 o1 c1:Nat) (arr:Array Value) (lo hi:Nat),
  aS p R.k R.x=some ⟨.sl e kk,xs⟩∧nk p R.k R.x∧(∀t∈ah p R.k,az t R.own=true)∧bG h p R.k (α.hdr r) (dU α R r)=some ([.slice b n c],wh)∧
  (Q.k=Pp e kk∧Q.kind=.anon)∧α.hdr q=ce++[hq]∧ce.length=kk.size∧v=.slice (some ⟨b1,o1,none⟩) (n+1) c1∧n+1≤c1∧
  h b1=some (.cells arr e (lo,hi))∧(∀i,i<arr.size→¬(lo≤i∧i<hi))∧o1+c1 * kk.size≤arr.size∧Cells h b1 (o1+n * kk.size) ce∧
  ((b=some ⟨b1,o1,none⟩∧b1∈α.fo r∧hq=.slice none 0 0∧c=c1)∨(hq=.slice (some ⟨b1,o1,none⟩) 0 c1∧b1∈α.fo q∧(0<n→∃b0 o0,b=some ⟨b0,o0,none⟩∧b0∈α.fo r∧∀i,i<n * kk.size→cellAt h b1 (o1+i)=cellAt h b0 (o0+i))))
def bI (cx:Cx) (σ:St) (α:dL) (F:List Nat) (w:World):AV→Value→Prop
 | .undef,_=>True
 | .val k x T,v=>(k.flat=true∨bq σ k.tys T=true)→∃cs,VC k v cs∧Vw (hp w) (iQ cx σ α F w T) k x cs
 | .iP,v=>∃a,v=.slice a 0 0
 | .ref r g,v=>∀R,aP σ r R→R.g=g→R.kind=.anon∧VC R.k v (α.hdr r)
 | .sV r p n,v=>∀R,σ.roots r=some R→bu σ R→R.wR=n→∀d,aS p R.k R.x=some d→
   nk p R.k R.x∧(∀t∈ah p R.k,az t R.own=true)∧∃cs wh,bG (hp w) p R.k (α.hdr r) (dU α R r)=some (cs,wh)∧VC d.1 v cs
 | .ptr r p n,v=>(∃b o,v=.pointer (some ⟨b,o,none⟩))∧∀R,σ.roots r=some R→bu σ R→clean R.h n (dY p R.k)=true→(∀t∈ah p R.k,az t R.own=true)→(aS p R.k R.x).isSome=true→
   nk p R.k R.x∧∃cs b o,bG (hp w) p R.k (α.hdr r) (dU α R r)=some (cs,some (b,o))∧v=.pointer (some ⟨b,o,none⟩)
 | .jg bt k x T,v=>KU cx σ α F w bt k x T v
 | .su,v=>v=.pointer none
 | .Av e,v=>∃b,v=.bool b∧(b=true→e=true)
 | .part r g lo hi sz,v=>∃b' b n c,v=.slice b' (hi - lo) (c - lo)∧(lo=0∨c≠lo→b'=b.map (·.add (lo * sz)))∧lo≤hi∧hi≤n∧n≤c∧∀R,aP σ r R→R.g=g→R.kind=.anon∧VC R.k (.slice b n c) (α.hdr r)
 | .JK r g k p,v=>∃u b off k1,v=.pointer (some ⟨b,off,none⟩)∧KL σ α F w [] b∧Cells (hp w) b 0 u.cells.toList∧kH p k=some (off,k1)∧∀R,aP σ r R→R.g=g→R.kind=.anon∧VC R.k u (α.hdr r)
 | .xY r p n m,v=>∃b c,v=.slice b m c∧∀R,σ.roots r=some R→bu σ R→R.wR=n→∀d,aS p R.k R.x=some d→
   nk p R.k R.x∧(∀t∈ah p R.k,az t R.own=true)∧∃q wh,bG (hp w) p R.k (α.hdr r) (dU α R r)=some ([.slice b q c],wh)∧m≤q
 | .app r p n q,v=>∀R,σ.roots r=some R→bu σ R→R.wR=n→∀Q,aP σ q Q→Q.wR=0→aeb α (hp w) r R p q Q v
 | .fn f cs,v=>∃vs:List Value,v=.func (.func f) #[] vs.toArray∧kG cx σ α F w cs vs
def dR (cx:Cx) (σ:St) (α:dL) (F:List Nat) (w:World):List AV→List Value→Prop
 | [],[]=>True
 | a :: l,v :: vs=>bI cx σ α F w a v∧dR cx σ α F w l vs
 | _,_=>False
def VS:K→List Value→List Value→Prop
 | .pair k r,u :: us,cs=>∃c1 c2,cs=c1++c2∧VC k u c1∧c1.length=k.size∧VS r us c2
 | .unit,[],cs=>cs=[]
 | _,_,_=>False
def iT (cx:Cx) (σ:St) (α:dL) (F:List Nat) (w:World):xP→Value→Prop
 | .one a,v=>bI cx σ α F w a v
 | .Lc l,v=>∃vs:List Value,v=.tuple vs.toArray∧dR cx σ α F w l vs
 | .lit _ c l,v=>∃vs cs:List Value,(v=.agg cs.toArray∧VS c vs cs)∧dR cx σ α F w l vs
def E5 (σ:St) (t:Tag):Prop:=fJ t.1=true∨∃R,σ.roots t.1=some R∧(R.aX=true∨t.2≤gJ R.w)
def eZ (σ:St) (T:List Tag):Prop:=∀t∈T,E5 σ t
def rR (σ:St):AV→Prop
 | .val _ _ T=>eZ σ T
 | .ref r g=>∃R,σ.roots r=some R∧(R.aX=true∨g≤R.g)
 | .sV r _ n=>∃R,σ.roots r=some R∧(R.aX=true∨n≤R.wR)
 | .JK r g _ _=>∃R,σ.roots r=some R∧(R.aX=true∨g≤R.g)
 | .part r g _ _ _=>∃R,σ.roots r=some R∧(R.aX=true∨g≤R.g)
 | .xY r _ n _=>∃R,σ.roots r=some R∧(R.aX=true∨n≤R.wR)
 | .app r _ n q=>(∃R,σ.roots r=some R∧(R.aX=true∨n≤R.wR))∧∃R,σ.roots q=some R
 | .ptr r _ n=>∃R,σ.roots r=some R∧(R.aX=true∨n≤gJ R.h)
 | .jg _ _ _ T=>eZ σ T
 | .fn _ cs=>∀c∈cs,eZ σ c.2.2
 | _=>True
def xS (σ:St):xP→Prop
 | .one a=>rR σ a
 | .Lc l=>∀a∈l,rR σ a
 | .lit _ _ l=>∀a∈l,rR σ a
def acm (cx:Cx) (w:World):Prop:=
 w.os=cx.w0.os∧w.tape=cx.w0.tape∧w.output=cx.w0.output∧cx.w0.heap.size≤w.heap.size∧
 (∀b,b<cx.w0.heap.size→(∀j pi,cx.par j=some pi→b∉pi.bl)→hp w b=hp cx.w0 b)∧
 (∀j pi b o n,cx.par j=some pi→pi.base=some (b,o,n)→gQ (hp cx.w0) (hp w) b o n)
def mine (cx:Cx) (w:World) (b:Nat):Prop:=b<w.heap.size∧(cx.w0.heap.size≤b∨∃j pi,cx.par j=some pi∧b∈pi.bl)
structure uQ (cx:Cx) (σ:St) (α:dL) (F:List Nat) (w:World) (r:Nat) (R:Root):Prop where
 ow:bu σ R→Ow (hp w) R.own (iQ cx σ α F w R.tags) R.k R.x (α.hdr r) (α.fo r)
 len:(α.hdr r).length=R.k.size
 mem:∀b o,dU α R r=some (b,o)→Cells (hp w) b o (α.hdr r)∧∃arr e lo hi,hp w b=some (.cells arr e (lo,hi))∧(∀i,i<arr.size→¬(lo≤i∧i<hi))∧o+R.k.size≤arr.size∧(∀t,R.kind=.var t→e=t)
 nd:(blk α R r).Nodup
 mine:∀b∈blk α R r,Ow.mine cx w b
structure Rel (cx:Cx) (σ:St) (α:dL) (F:List Nat) (a:Act) (w:World):Prop where
 defs:a.defers=[]
 sz:cx.nt≤a.tmps.size
 kI:∀j pi b o n,cx.par j=some pi→pi.base=some (b,o,n)→∃R,aP σ (ay j) R∧R.kind=.par∧α.loc (ay j)=(b,o)∧R.k.size=n
 EE:∀r R,aP σ r R→R.kind=.par→∃j pi n,r=ay j∧cx.par j=some pi∧pi.base=some ((α.loc r).1,(α.loc r).2,n)
 slots:∀s,iT cx σ α F w (σ.slots s) (a.tmps.getD s undef)
 sF:∀s,xS σ (σ.slots s)
 roots:∀r R,aP σ r R→uQ cx σ α F w r R
 dz:∀r R,σ.roots r=some R→eZ σ R.tags∧fJ r=false∧(∀n,(r,n)∉R.tags)
 IK:∀r R r' R',aP σ r R→aP σ r' R'→r≠r'→∀b∈blk α R r,b∉blk α R' r'
 fl:∀b∈F,mine cx w b
 zG:F.Nodup
 iX:∀r R,aP σ r R→∀b∈blk α R r,b∉F
 frame:acm cx w
 uE:∀j pi,cx.par j=some pi→pi.kp=true→∃R,σ.roots (ay j)=some R∧(R.aX=false→∀b∈pi.bl,¬lU cx b→
  (∃e,qQ (hp cx.w0) b=some e∧(e∈R.w∨e∈R.ew))∨(hp w b=hp cx.w0 b∧b∉F∧∀q Q,aP σ q Q→b∈blk α Q q→q=ay j))
 oP:(∀j pi,cx.par j=some pi→∀b∈pi.bl,b<cx.w0.heap.size)∧(∀b,Fr.free b→b<cx.w0.heap.size∧∀j pi,cx.par j=some pi→b∉pi.bl)∧∀b,Fr.free b→hp cx.w0 b=Fr.obj b
 wo:∀j p ts v,cx.ptrs j p ts v→(∃b o,v=.pointer (some ⟨b,o,none⟩))∧∃R,σ.roots (ay j)=some R∧((∀t∈ts,t∉R.eh)→bI cx σ α F w (.ptr (ay j) p 0) v)
 wu:∀j v,cx.refs j v→(∃R,σ.roots (ay j)=some R)∧bI cx σ α F w (.ref (ay j) 0) v
theorem Rel.Ul {cx:Cx} {σ:St} {α:dL} {F:List Nat} {a:Act} {w:World} (H:Rel cx σ α F a w) {b:Nat} (hm:mine cx w b):¬Fr.free b:=by
 intro hf
 obtain ⟨h1,h2⟩:=H.oP.2.1 b hf
 rcases hm.2 with h | ⟨j,pi,h3,h4⟩
 ·omega
 ·exact h2 j pi h3 h4
theorem Rel.fixed {cx:Cx} {σ:St} {α:dL} {F:List Nat} {a:Act} {w:World} (H:Rel cx σ α F a w) {b:Nat} (hf:Fr.free b):hp w b=Fr.obj b:=by
 obtain ⟨h1,h2⟩:=H.oP.2.1 b hf
 rw [H.frame.2.2.2.2.1 b h1 h2]
 exact H.oP.2.2 b hf
theorem Rel.Tt {cx:Cx} {σ:St} {α:dL} {F:List Nat} {a:Act} {w:World} (H:Rel cx σ α F a w) {b:Nat} {t:TypeId} (hm:mine cx w b) (h:vU (hp w) b t):qQ (hp w) b=some t:=h.resolve_right (H.Ul hm)
theorem pJ {A:Type} (l:List A):gJ l=l.length:=by induction l <;> simp_all [gJ]
theorem aM {n:Nat} {l:List Nat}:az n l=true↔n∈l:=by
 induction l with
 | nil=>simp [az]
 | cons m l ih=>
  simp only [az,an9]
  cases h:Nat.beq n m with
  | true=>simp [an1 h]
  | false=>simp [ih,Nat.ne_of_beq_eq_false h]
theorem aV {n:Nat} {l:List Nat}:az n l=false↔n∉l:=by rw [←aM]; simp
theorem OL (a l:List Nat) {n:Nat} (h:n≤gJ l):since (a++l) n=a++since l n:=by
 unfold since
 rw [pJ] at h
 simp only [pJ,an5]
 rw [List.take_append,List.take_of_length_le (by omega)]
 congr 2
 omega
theorem pF {a l:List Nat} {n:Nat} {tys:List Nat} (h:n≤gJ l):clean (a++l) n tys=true↔(∀t∈a,t∉tys)∧clean l n tys=true:=by
 unfold clean
 rw [OL a l h,List.all_append,an3,aoc]
 simp [aV]
theorem PI {σ:St} {tys:List TypeId} {t:Tag} {T:List Tag}:bq σ tys (t :: T)=true↔(fJ t.1=true∨∃R,σ.roots t.1=some R∧R.aX=false∧clean R.w t.2 tys=true)∧bq σ tys T=true:=by
 obtain ⟨r,n⟩:=t
 simp only [bq,an3]
 cases he:fJ r with
 | true=>simp
 | false=>
  simp only [cond_false,an0,false_or]
  cases hr:σ.roots r with
  | none=>simp
  | some R=>simp
theorem oI {σ:St} {tys:List TypeId} {T:List Tag}:bq σ tys T=true↔∀t∈T,fJ t.1=true∨∃R,σ.roots t.1=some R∧R.aX=false∧clean R.w t.2 tys=true:=by
 induction T with
 | nil=>simp [bq]
 | cons t T ih=>rw [PI,ih]; simp
def Views (cx:Cx) (σ:St) (α:dL) (F:List Nat) (w:World) (σ':St) (α':dL) (F':List Nat) (w':World):Prop:=
 ∀T tys,eZ σ T→bq σ' tys T=true→bq σ tys T=true∧
  (∀b,iQ cx σ α F w T b→((∃t∈tys,vU (hp w) b t)∨∀t∈T,fJ t.1=true)→iQ cx σ' α' F' w' T b∧hp w' b=hp w b)∧
  ∀b,KL σ α F w T b→((∃t∈tys,vU (hp w) b t)∧¬lU cx b∨∀t∈T,fJ t.1=true)→KL σ' α' F' w' T b∧hp w' b=hp w b
theorem Views.vw {cx:Cx} {σ σ':St} {α α':dL} {F F':List Nat} {w w':World} (H:Views cx σ α F w σ' α' F' w') {T:List Tag} {tys:List TypeId} (hw:eZ σ T) (hc:bq σ' tys T=true)
  {k:K} {x:El k} {cs:List Value} (hk:∀t∈k.tys,t∈tys) (h:Vw (hp w) (iQ cx σ α F w T) k x cs):Vw (hp w') (iQ cx σ' α' F' w' T) k x cs:=by
 obtain ⟨_,h2,_⟩:=H T tys hw hc
 exact gy (fun b hb=>(h2 b hb.1 (.inl hb.2)).2) (fun b hb=>(h2 b hb.1 (.inl hb.2)).1) (Jj tys hk h)
theorem Views.ro {cx:Cx} {σ σ':St} {α α':dL} {F F':List Nat} {w w':World} (H:Views cx σ α F w σ' α' F' w') {bt:TypeId} {k:K} {x:El k} {T:List Tag} {v:Value} (hw:eZ σ T)
  (h:KU cx σ α F w bt k x T v):KU cx σ' α' F' w' bt k x T v:=by
 refine ⟨h.1,fun hc=>?_⟩
 obtain ⟨h1,_,h2⟩:=H T _ hw hc
 obtain ⟨b,o,cs,e,hcs,hv,hok,hb⟩:=h.2 h1
 have hb':KL σ' α' F' w' T b∧hp w' b=hp w b:=h2 b hok (by
  rcases hb with ⟨_,hb⟩ | hb
  ·exact .inr hb
  ·exact .inl ⟨⟨bt,by simp,hb.1⟩,hb.2⟩)
 exact ⟨b,o,cs,e,hcs.congr hb'.2,H.vw hw hc (fun t ht=>by simp [ht]) hv,hb'.1,hb.imp id (fun h=>⟨JQ hb'.2 h.1,h.2⟩)⟩
theorem Views.caps {cx:Cx} {σ σ':St} {α α':dL} {F F':List Nat} {w w':World} (H:Views cx σ α F w σ' α' F' w') :
  ∀{cs:List (TypeId×Dat×List Tag)} {vs:List Value},(∀c∈cs,eZ σ c.2.2)→kG cx σ α F w cs vs→kG cx σ' α' F' w' cs vs
 | [],[],_,h=>h
 | c :: cs,v :: vs,hw,h=>⟨H.ro (hw c (by simp)) h.1,H.caps (fun c hc=>hw c (by simp [hc])) h.2⟩
 | [],_ :: _,_,h=>h.elim
 | _ :: _,[],_,h=>h.elim
theorem vL {cx:Cx} {σ σ':St} {α α':dL} {F F':List Nat} {w w':World} (H:Views cx σ α F w σ' α' F' w') {R:Root} (hw:eZ σ R.tags) (h:bu σ' R):bu σ R:=
 ⟨h.1,(H R.tags R.Co hw h.2).1⟩
end
end Go.Proofs.YtailcbngagacaabGreat.Ow

/- A verified reading of translated code: values in place of memory; part A of 6, spaces and remarks taken out. No condition. Own work of this seat. -/
import Derived.Calls
import Derived.Orders
import Derived.Laws.Cells
import Derived.Laws.IdiomCopy
import Derived.Laws.Entries
import Derived.ChangeKeysEq
import Derived.WalkKit
set_option linter.unusedSectionVars false
set_option linter.unusedVariables false
set_option linter.unusedSimpArgs false
namespace Go.Proofs.Ytabnmpabdhmkoaa.Ow
open Go
abbrev agb := @Option.some.injEq
abbrev agc := @Option.bind_some
abbrev agd := @List.mem_append_right
abbrev age := @Bool.false_eq_true
abbrev agf := @Nat.eq_of_beq_eq_true
abbrev agh := @List.mem_append_left
abbrev agi := @Bool.and_eq_true
abbrev agj := @List.nodup_append
abbrev agk := @List.length_append
abbrev agl := @List.mem_append
abbrev agm := @Int.toNat_natCast
abbrev agn := @Prod.mk.injEq
abbrev agp := @List.mem_cons
abbrev agq := @List.getD_eq_getElem?_getD
abbrev agr := @List.getElem?_eq_getElem
abbrev ags := @List.all_eq_true
abbrev agt := @Nat.le_refl
abbrev agu := @List.mem_filter
abbrev agv := @Result.andThen_ok
abbrev agw := @List.mem_singleton
abbrev agx := @List.length_singleton
abbrev agy := @List.append_assoc
abbrev agz := @Classical.byContradiction
abbrev agA := @List.length_cons
abbrev agB := @List.mem_cons_of_mem
abbrev agD := @Sem.run_bind
abbrev agE := @Int.ofNat_lt
abbrev agF := @Bool.not_true
abbrev agG := @List.getElem_mem
abbrev agH := @List.append_nil
abbrev agI := @Sem.run_pure
abbrev agJ := @Nat.mul_le_mul_right
abbrev agK := @List.mem_cons_self
abbrev agL := @List.nodup_cons
abbrev agM := @Nat.zero_le
abbrev agN := @Option.some.inj
abbrev agO := @List.mem_map
abbrev agP := @List.mem_flatMap
abbrev agQ := @Bool.not_false
section
open Go
inductive K where
 | int (k:IntKind)
 | bool
 | str
 | sl (e:TypeId) (k:K)
 | unit
 | pair (a b:K)
 | st (f:K)
 | gap (n:Nat)
 | id (e:TypeId)
 deriving Inhabited
abbrev El:K→Type
 | .int _=>Int
 | .bool=>Bool
 | .str=>List Int
 | .sl _ k=>List (El k)
 | .unit=>Unit
 | .pair a b=>El a×El b
 | .st f=>El f
 | .gap _=>Unit
 | .id _=>Nat
def K.size:K→Nat
 | .int _ | .bool | .str | .sl _ _ | .id _=>1
 | .unit=>0
 | .pair a b=>a.size+b.size
 | .st f=>f.size
 | .gap n=>n
def K.zero:(k:K)→El k
 | .int _=>(0:Int)
 | .bool=>false
 | .str=>([]:List Int)
 | .sl _ _=>[]
 | .unit=>()
 | .pair a b=>(a.zero,b.zero)
 | .st f=>f.zero
 | .gap _=>()
 | .id _=>(0:Nat)
def uY:IntKind→IntKind→Bool
 | .i8, .i8 | .i16, .i16 | .i32, .i32 | .i64, .i64 | .u8, .u8 | .u16, .u16 | .u32, .u32 | .u64, .u64=>true
 | _,_=>false
def K.beq:K→K→Bool
 | .int a, .int b=>uY a b
 | .bool, .bool=>true
 | .str, .str=>true
 | .sl e a, .sl f b=>Nat.beq e f && a.beq b
 | .unit, .unit=>true
 | .pair a b, .pair c d=>a.beq c && b.beq d
 | .st a, .st b=>a.beq b
 | .gap n, .gap m=>Nat.beq n m
 | .id e, .id f=>Nat.beq e f
 | _,_=>false
theorem vH {a b:IntKind} (h:uY a b=true):a=b:=by cases a <;> cases b <;> simp_all [uY]
theorem K.eq_of_beq:∀{a b:K},a.beq b=true→a=b:=by
 intro a
 induction a with
 | int k=>intro b h; cases b <;> simp_all [K.beq]; exact vH h
 | sl e k ih=>intro b h; cases b <;> simp_all [K.beq]; exact ih h.2
 | pair a b iha ihb=>intro c h; cases c <;> simp_all [K.beq]; exact ⟨iha h.1,ihb h.2⟩
 | st f ih=>intro b h; cases b <;> simp_all [K.beq]; exact ih h
 | gap n=>intro b h; cases b <;> simp_all [K.beq]
 | id e=>intro b h; cases b <;> simp_all [K.beq]
 | _=>intro b h; cases b <;> simp_all [K.beq]
def K.like:K→K→Bool
 | .gap n,k=>Nat.beq n k.size
 | .pair a b, .pair c d=>a.like c && b.like d
 | .st a, .st b=>a.like b
 | a,b=>a.beq b
def bT (a b:K) (x:El a):Option (El b):=if h:a.beq b=true then some (K.eq_of_beq h▸x) else none
def K.hole:K→K
 | .sl _ _=>.gap 1
 | .pair a b=>.pair a.hole b.hole
 | .st f=>.st f.hole
 | k=>k
def qh:(k:K)→El k→El k.hole
 | .sl _ _,_=>()
 | .pair a b,x=>(qh a x.1,qh b x.2)
 | .st f,x=>qh f x
 | .int _,x=>x
 | .bool,x=>x
 | .str,x=>x
 | .unit,_=>()
 | .gap _,_=>()
 | .id _,x=>x
def K.tys:K→List TypeId
 | .sl e k=>e :: k.tys
 | .pair a b=>a.tys++b.tys
 | .st f=>f.tys
 | _=>[]
def K.flat:K→Bool
 | .sl _ _ | .gap _=>false
 | .pair a b=>a.flat && b.flat
 | .st f=>f.flat
 | _=>true
def Cont:List K→Type
 | []=>Unit
 | k :: ks=>El k×Cont ks
def Cont.app:(ks ls:List K)→Cont ks→Cont ls→Cont (ks++ls)
 | [],_,_,d=>d
 | _ :: ks,ls,c,d=>(c.1,Cont.app ks ls c.2 d)
inductive Stp where
 | fH (n:Nat)
 | idx (i:Int)
abbrev Dat:=(k:K)×El k
def oF (d:Dat):Dat:=⟨d.1.hole,qh d.1 d.2⟩
def aL:Nat→(c:K)→El c→Option Dat
 | 0, .pair a _,x=>some ⟨a,x.1⟩
 | n+1, .pair _ b,x=>aL n b x.2
 | _,_,_=>none
def aP:List Stp→(k:K)→El k→Option Dat
 | [],k,x=>some ⟨k,x⟩
 | .fH n :: p, .st c,x=>match aL n c x with
  | some d=>aP p d.1 d.2
  | none=>none
 | .idx i :: p, .sl _ k,xs=>aP p k ((show List (El k) from xs).getD i.toNat k.zero)
 | _,_,_=>none
def cB:Nat→(c:K)→El c→Dat→Option Dat
 | 0, .pair _ b,x,d=>some ⟨.pair d.1 b,(d.2,x.2)⟩
 | n+1, .pair a b,x,d=>match cB n b x.2 d with
  | some z=>some ⟨.pair a z.1,(x.1,z.2)⟩
  | none=>none
 | _,_,_,_=>none
def dU:List Stp→(k:K)→El k→Dat→Option Dat
 | [],_,_,d=>some d
 | .fH n :: p, .st c,x,d=>match aL n c x with
  | some s=>match dU p s.1 s.2 d with
   | some t=>match cB n c x t with
    | some z=>some ⟨.st z.1,z.2⟩
    | none=>none
   | none=>none
  | none=>none
 | .idx i :: p, .sl e k,xs,d=>match dU p k ((show List (El k) from xs).getD i.toNat k.zero) d with
  | some t=>match bT t.1 k t.2 with
   | some y=>some ⟨.sl e k,(show List (El k) from xs).set i.toNat y⟩
   | none=>none
  | none=>none
 | _,_,_,_=>none
def Stp.nR:Stp→Bool
 | .fH _=>true
 | .idx _=>false
def aa:List Stp→K→List TypeId
 | .fH n :: p, .st c=>match Ae n c with
  | some k=>aa p k
  | none=>[]
 | .idx _ :: p, .sl e k=>e :: aa p k
 | _,_=>[]
where Ae:Nat→K→Option K
 | 0, .pair a _=>some a
 | n+1, .pair _ b=>Ae n b
 | _,_=>none
abbrev Tag:=Nat×Nat
inductive AV where
 | undef
 | val (k:K) (x:El k) (tags:List Tag)
 | iE
 | ref (r g:Nat)
 | o8 (r:Nat) (p:List Stp) (v:Nat)
 | ptr (r:Nat) (p:List Stp) (h:Nat)
 | iK (bt:TypeId) (k:K) (x:El k) (tags:List Tag)
 | oL
 | Bv (r g:Nat) (k:K) (p:List Stp)
 | ve (e:Bool)
 | part (r g lo hi sz:Nat)
 | tq (r:Nat) (p:List Stp) (v m:Nat)
 | app (r:Nat) (p:List Stp) (v q:Nat)
 | fn (f:Nat) (caps:List (TypeId×Dat×List Tag))
inductive sN where
 | one (a:AV)
 | C8 (l:List AV)
 | lit (t:TypeId) (c:K) (l:List AV)
inductive zC where
 | anon
 | var (t:TypeId)
 | par
 | dead
structure Root where
 k:K
 x:El k
 own:List TypeId
 tags:List Tag
 w:List TypeId
 h:List TypeId
 g:Nat
 kind:zC
 fixed:Bool
 keep:Bool
 ew:List TypeId:=[]
 eh:List TypeId:=[]
def Root.bn (R:Root):Bool:=match R.kind with
 | .dead=>true
 | _=>false
def Root.isVar (R:Root):Bool:=match R.kind with
 | .var _=>true
 | _=>false
def bV:Root:={ k:=.unit,x:=(),own:=[],tags:=[],w:=[],h:=[],g:=0,kind:=.dead,fixed:=true,keep:=true }
structure St where
 slots:Nat→sN
 roots:Nat→Option Root
inductive Loc where
 | s (n:Nat)
 | r (n:Nat)
inductive Wr where
 | s (n:Nat) (a:sN)
 | r (n:Nat) (o:Option Root)
def Loc.beq:Loc→Loc→Bool
 | .s a, .s b=>Nat.beq a b
 | .r a, .r b=>Nat.beq a b
 | _,_=>false
def Wr.loc:Wr→Loc
 | .s n _=>.s n
 | .r n _=>.r n
def upd {α:Type} (f:Nat→α) (n:Nat) (v:α):Nat→α:=fun m=>bif Nat.beq m n then v else f m
def Wr.app (w:Wr) (σ:St):St:=match w with
 | .s n a=>{ σ with slots:=upd σ.slots n a }
 | .r n (some R)=>{ σ with roots:=upd σ.roots n (some R) }
 | .r n none=>{ σ with roots:=upd σ.roots n (some bV) }
def az:List Wr→St→St
 | [],σ=>σ
 | w :: ws,σ=>az ws (w.app σ)
inductive Prog (α:Type):Type 1 where
 | ret (a:α)
 | fail
 | slot (n:Nat) (k:sN→Prog α)
 | root (r:Nat) (k:Option Root→Prog α)
 | qI (c:Prop) (d:Decidable c) (k:Prog α)
 | br (c:Bool) (t e:Prog α)
 | opt (β:Type) (o:Option β) (k:β→Prog α)
def Prog.bind {α β:Type}:Prog α→(α→Prog β)→Prog β
 | .ret a,f=>f a
 | .fail,_=>.fail
 | .slot n k,f=>.slot n fun v=>(k v).bind f
 | .root r k,f=>.root r fun v=>(k v).bind f
 | .qI c d k,f=>.qI c d (k.bind f)
 | .br c t e,f=>.br c (t.bind f) (e.bind f)
 | .opt β o k,f=>.opt β o fun b=>(k b).bind f
def Prog.run {α R:Type}:Prog α→St→(α→Option R)→Option R
 | .ret a,_,K=>K a
 | .fail,_,_=>none
 | .slot n k,σ,K=>(k (σ.slots n)).run σ K
 | .root r k,σ,K=>(k (σ.roots r)).run σ K
 | .qI c d k,σ,K=>@ite _ c d (k.run σ K) none
 | .br c t e,σ,K=>if c=true then t.run σ K else e.run σ K
 | .opt _ o k,σ,K=>o.bind fun b=>(k b).run σ K
def Prog.Ao {α R:Type}:Prog α→St→List Loc→(α→List Loc→Option R)→Option R
 | .ret a,_,l,K=>K a l
 | .fail,_,_,_=>none
 | .slot n k,σ,l,K=>(k (σ.slots n)).Ao σ (.s n :: l) K
 | .root r k,σ,l,K=>(k (σ.roots r)).Ao σ (.r r :: l) K
 | .qI c d k,σ,l,K=>@ite _ c d (k.Ao σ l K) none
 | .br c t e,σ,l,K=>if c=true then t.Ao σ l K else e.Ao σ l K
 | .opt _ o k,σ,l,K=>o.bind fun b=>(k b).Ao σ l K
def vL:List Wr→Nat→Option sN
 | [],_=>none
 | .s m a :: ws,n=>match vL ws n with
  | some b=>some b
  | none=>bif Nat.beq n m then some a else none
 | .r _ _ :: ws,n=>vL ws n
def xm:List Wr→Nat→Option (Option Root)
 | [],_=>none
 | .r m o :: ws,n=>match xm ws n with
  | some b=>some b
  | none=>bif Nat.beq n m then some (some (o.getD bV)) else none
 | .s _ _ :: ws,n=>xm ws n
def Prog.over {α:Type} (ws:List Wr):Prog α→Prog α
 | .ret a=>.ret a
 | .fail=>.fail
 | .slot n k=>match vL ws n with
  | some v=>(k v).over ws
  | none=>.slot n fun v=>(k v).over ws
 | .root r k=>match xm ws r with
  | some v=>(k v).over ws
  | none=>.root r fun v=>(k v).over ws
 | .qI c d k=>.qI c d (k.over ws)
 | .br c t e=>.br c (t.over ws) (e.over ws)
 | .opt β o k=>.opt β o fun b=>(k b).over ws
def RI (p q:Prog (List Wr)):Prog (List Wr):=p.bind fun ws=>(q.over ws).bind fun vs=>.ret (ws++vs)
end
section
open Go
def au (n:Nat):List Nat→Bool
 | []=>false
 | m :: l=>bif Nat.beq n m then true else au n l
def kF (l m:List Nat):Bool:=l.all fun n=>au n m
def gq {α:Type}:List α→Nat
 | []=>0
 | _ :: l=>gq l+1
def ak (j:Nat):Nat:=4 * j
def mW (j:Nat):Nat:=4 * j+1
def aZ (d c:Nat):Nat:=4 * (8 * d+c)+2
def fG (r:Nat):Bool:=Nat.beq (r % 4) 1
def since (l:List Nat) (n:Nat):List Nat:=l.take (gq l - n)
def clean (l:List Nat) (n:Nat) (tys:List Nat):Bool:=(since l n).all fun t=>!au t tys
def bytesOf (s:ByteArray):List Int:=s.data.toList.map fun b=>(b.toNat:Int)
inductive fF where
 | val (k:K) (gM:List Nat)
 | ro (k:K)
 | rw (k:K) (ow wt ht:List TypeId)
 | into (j:Nat) (p:List (Option Nat))
 | jG (k:K) (ow wt:List TypeId)
 | own (k:K) (ow:List TypeId)
 | fn (f:Nat) (ks:List K)
inductive uw where
 | val (k:K) (exts gM:List Nat)
 | own (k:K) (ow:List TypeId) (exts gM:List Nat)
 | ptr (t:TypeId) (k:K) (ow:List TypeId) (exts:List Nat)
 | into (j:Nat) (p:List (Option Nat))
def fF.kin:fF→List K
 | .val k _ | .ro k | .rw k _ _ _ | .jG k _ _ | .own k _=>[k]
 | .into _ p=>p.filterMap fun | none=>some (.int .i64) | some _=>none
 | .fn _ ks=>ks
def fF.jE:fF→List K
 | .rw k _ _ _ | .jG k _ _=>[k]
 | _=>[]
def uw.gV:uw→List K
 | .val k _ _ | .own k _ _ _ | .ptr _ k _ _=>[k]
 | .into _ _=>[.int .i64]
def kin:List fF→List K
 | []=>[]
 | p :: ps=>p.kin++kin ps
def jE:List fF→List K
 | []=>[]
 | p :: ps=>p.jE++jE ps
def gV:List uw→List K
 | []=>[]
 | p :: ps=>p.gV++gV ps
structure Entry where
 f:FuncId
 ps:List fF
 rs:List uw
 F:Nat→Cont (kin ps)→Option (Cont (gV rs++jE ps))
structure iF where
 ty:TypeId→Option K
 bytes:TypeId→Nat
 ptr:TypeId→Bool
 eq:TypeId→Bool
 ids:Bool:=false
structure Hint where
 nt:Nat
 abZ:List Nat
 loops:List (Nat×List Nat×List Nat)
 less:List (Nat×List TypeId)
 calls:List (Nat×Option Nat×Entry)
 iJ:List (Nat×K×List TypeId×List TypeId)
 wide:List (Nat×List Nat):=[]
 parts:List Nat:=[]
 apps:List Nat:=[]
section
variable {α:Type}
def kZ:List Tag→List TypeId→Prog α→Prog α
 | [],_,k=>k
 | (r,n) :: ts,tys,k=>bif fG r then kZ ts tys k else .root r fun
  | some R=>bif !R.bn && clean R.w n tys then kZ ts tys k else .fail
  | none=>.fail
def aS (own:List TypeId):K→List TypeId
 | .sl e k=>bif au e own then aS own k else e :: k.tys
 | .pair a b=>aS own a++aS own b
 | .st f=>aS own f
 | _=>[]
def Root.wH (R:Root):List TypeId:=aS R.own R.k
def oN (r:Nat) (k:Root→Prog α):Prog α:=.root r fun
 | some R=>bif R.bn then .fail else kZ R.tags R.wH (k R)
 | none=>.fail
def Root.rW (R:Root):Nat:=gq R.w+gq R.h
def Root.out (R:Root) (r:Nat) (k:K):List Tag:=bif k.flat then [] else bif k.tys.any (fun t=>au t R.own) then (r,gq R.w) :: R.tags else R.tags
def gZ (r:Nat) (k:Prog α):Prog α:=.root r fun
 | none=>k
 | some _=>.fail
def Vt:IntKind→Int→Bool
 | .u8,n=>Int.blt n 256 && Int.ble 0 n
 | _,_=>true
where
 Int.blt (a b:Int):Bool:=decide (a<b)
 Int.ble (a b:Int):Bool:=decide (a≤b)
def Pk:Value→AV
 | .int k n=>bif Vt k n then .val (.int k) n [] else .undef
 | .bool b=>.val .bool b []
 | .string s=>.val .str (bytesOf s) []
 | .slice none 0 0=>.iE
 | .pointer none=>.oL
 | _=>.undef
def qD (x:Operand) (k:sN→Prog α):Prog α:=match x with
 | .tmp t=>.slot t k
 | .const v=>k (.one (Pk v))
 | .func f=>k (.one (.fn f []))
 | .global _=>.fail
def dL (x:Operand) (k:AV→Prog α):Prog α:=qD x fun
 | .one a=>k a
 | _=>.fail
def qG (a:AV) (k:(kk:K)→El kk→List Tag→Prog α):Prog α:=match a with
 | .val kk x tags=>kZ tags kk.tys (k kk x tags)
 | .ref r g=>oN r fun R=>bif Nat.beq R.g g then k R.k R.x (R.out r R.k) else .fail
 | .o8 r p h=>oN r fun R=>bif Nat.beq R.rW h then
   match aP p R.k R.x with
   | some d=>k d.1 d.2 (R.out r d.1)
   | none=>.fail
  else .fail
 | _=>.fail
def asInt (a:AV) (k:IntKind→Int→Prog α):Prog α:=match a with
 | .val (.int ik) n _=>k ik n
 | _=>.fail
def asBool (a:AV) (k:Bool→Prog α):Prog α:=match a with
 | .val .bool b _=>k b
 | _=>.fail
def Wr.p9:Wr→List Nat
 | .r n _=>[n]
 | .s _ _=>[]
def yP:List Nat→Bool
 | []=>true
 | n :: l=>!au n l && yP l
def vv (ws:List Wr) (tags:List Tag):Bool:=tags.all fun t=>!au t.1 (ws.flatMap Wr.p9)
def yG (ws:List Wr) (tags:List Tag):Bool:=yP (ws.flatMap Wr.p9) && vv ws tags
structure gQ where
 k:K
 x:El k
 own:List TypeId
 tags:List Tag
 ws:List Wr
 keep:Bool
abbrev nD:Nat:=4294967294
def dW:List Stp→K→List TypeId
 | [],_=>[]
 | p,k=>nD :: aa p k
def pq (k:K):List TypeId:=match k.tys with
 | []=>[nD]
 | _=>[]
def wM (R:Root) (p:List Stp) (d:Dat):Option Root:=
 match dU p R.k R.x (oF d) with
 | some z=>some { R with k:=z.1,x:=z.2,w:=d.1.tys++R.w,h:=pq d.1++d.1.tys++R.h }
 | none=>none
def sH (want:K) (a:AV) (k:gQ→Prog α):Prog α:=match a with
 | .val kk x tags=>kZ tags kk.tys (k ⟨kk,x,[],tags,[],false⟩)
 | .iE=>match want with
  | .sl e kk=>k ⟨.sl e kk,[],e :: kk.tys,[],[],false⟩
  | _=>.fail
 | .ref r g=>oN r fun R=>bif Nat.beq R.g g && !R.fixed then k ⟨R.k,R.x,R.own,R.tags,[.r r none],R.keep⟩ else .fail
 | .o8 r p h=>oN r fun R=>bif Nat.beq R.rW h then
   match aP p R.k R.x with
   | some d=>bif p.all Stp.nR && !R.fixed && (!p.isEmpty || R.isVar) then
     match wM R p d with
     | some R'=>k ⟨d.1,d.2,d.1.tys.filter (fun t=>au t R.own),R.tags,[.r r (some R')],R.keep⟩
     | none=>.fail
    else kZ (R.out r d.1) d.1.tys (k ⟨d.1,d.2,[],R.out r d.1,[],false⟩)
   | none=>.fail
  else .fail
 | .part r g lo hi sz=>oN r fun R=>bif Nat.beq R.g g && !R.fixed && Nat.beq lo 0 then match R.k,R.x with
   | .sl e kk,xs=>bif kk.flat && au e R.own && Nat.beq kk.size sz then k ⟨.sl e kk,(show List (El kk) from xs).take hi,R.own,R.tags,[.r r none],R.keep⟩ else .fail
   | _,_=>.fail
  else .fail
 | _=>.fail
def uZ:List Int→List Int→Bool
 | _,[]=>false
 | [],_ :: _=>true
 | a :: x,b :: y=>decide (a<b) || (decide (a=b) && uZ x y)
def uK:(k:K)→El k→El k→Bool
 | .int _,x,y=>decide ((show Int from x)=y)
 | .bool,x,y=>(show Bool from x) == y
 | .str,x,y=>decide ((show List Int from x)=y)
 | .pair .unit .unit,_,_=>true
 | .pair a .unit,x,y=>uK a x.1 y.1
 | .pair a b,x,y=>uK a x.1 y.1 && uK b x.2 y.2
 | .st f,x,y=>uK f x y
 | _,_,_=>true
def v1 (k:K) (x:El k):sN:=.one (.val k x [])
def KO (op:BinOp) (ik:IntKind) (x y:Int) (k:sN→Prog α):Prog α:=match op with
 | .add=>k (v1 (.int ik) (ik.wrap (x+y)))
 | .sub=>k (v1 (.int ik) (ik.wrap (x - y)))
 | .mul=>k (v1 (.int ik) (ik.wrap (x * y)))
 | .quo=>.qI (y≠0) inferInstance (k (v1 (.int ik) (ik.wrap (x.tdiv y))))
 | .rem=>.qI (y≠0) inferInstance (k (v1 (.int ik) (x.tmod y)))
 | .and=>k (v1 (.int ik) (ik.wrap (BitVec.ofInt ik.bits x &&& BitVec.ofInt ik.bits y).toNat))
 | .or=>k (v1 (.int ik) (ik.wrap (BitVec.ofInt ik.bits x ||| BitVec.ofInt ik.bits y).toNat))
 | .xor=>k (v1 (.int ik) (ik.wrap (BitVec.ofInt ik.bits x ^^^ BitVec.ofInt ik.bits y).toNat))
 | .andNot=>k (v1 (.int ik) (ik.wrap (BitVec.ofInt ik.bits x &&& ~~~ BitVec.ofInt ik.bits y).toNat))
 | .eql=>k (v1 .bool (decide (x=y)))
 | .neq=>k (v1 .bool (!decide (x=y)))
 | .lss=>k (v1 .bool (decide (x<y)))
 | .leq=>k (v1 .bool (decide (x≤y)))
 | .gtr=>k (v1 .bool (decide (x>y)))
 | .geq=>k (v1 .bool (decide (x≥y)))
 | _=>.fail
def P5 (op:BinOp) (x y:List Int) (k:sN→Prog α):Prog α:=match op with
 | .add=>.qI (x.length+y.length≤9223372036854775807) inferInstance (k (v1 .str (x++y)))
 | .eql=>k (v1 .bool (decide (x=y)))
 | .neq=>k (v1 .bool (!decide (x=y)))
 | .lss=>k (v1 .bool (uZ x y))
 | .leq=>k (v1 .bool (uZ x y || decide (x=y)))
 | .gtr=>k (v1 .bool (!(uZ x y || decide (x=y))))
 | .geq=>k (v1 .bool (!uZ x y))
 | _=>.fail
def HY (a b:AV):Option Bool:=match a,b with
 | .oL, .oL=>some true
 | .oL, .ptr _ _ _ | .ptr _ _ _, .oL=>some false
 | .oL, .iK _ _ _ _ | .iK _ _ _ _, .oL=>some false
 | _,_=>none
def Gm (T:iF) (t:TypeId) (op:BinOp) (a b:AV) (k:sN→Prog α):Prog α:=match a,b with
 | .val (.int ik) x _, .val (.int jk) y _=>match op with
  | .shl=>.qI (0≤y) inferInstance (k (v1 (.int ik) (ik.wrap (x * 2 ^ min y.toNat ik.bits))))
  | .shr=>.qI (0≤y) inferInstance (k (v1 (.int ik) (x.fdiv (2 ^ min y.toNat ik.bits))))
  | _=>bif uY ik jk then KO op ik x y k else .fail
 | .val .bool x _, .val .bool y _=>match T.ty t,op with
  | some .bool, .eql=>k (v1 .bool (x == y))
  | some .bool, .neq=>k (v1 .bool (!(x == y)))
  | _,_=>.fail
 | .val .str x _, .val .str y _=>P5 op x y k
 | .val (.st c) x _, .val (.st d) y _=>match bT (.st d) (.st c) y with
  | some y'=>bif (c.flat && T.eq t) && (match T.ty t with | some kk=>kk.beq (.st c) | none=>false) then match op with
    | .eql=>k (v1 .bool (uK c x y'))
    | .neq=>k (v1 .bool (!uK c x y'))
    | _=>.fail
   else .fail
  | none=>.fail
 | a,b=>bif T.ptr t then match HY a b,op with
  | some t, .eql=>k (v1 .bool t)
  | some t, .neq=>k (v1 .bool (!t))
  | _,_=>.fail
  else .fail
def O1:Operand→Bool
 | .const (.slice none 0 0)=>true
 | _=>false
def Sz:BinOp→Bool
 | .eql=>true
 | _=>false
def YA (T:iF) (t:TypeId) (a:AV) (k:AV→Prog α):Prog α:=match T.ty t with
 | some (.sl _ _)=>qG a fun kk x _=>match kk,x with
  | .sl _ kk,xs=>k (.ve (show List (El kk) from xs).isEmpty)
  | _,_=>.fail
 | _=>.fail
def I5 (T:iF) (t:TypeId) (op:BinOp) (x y:Operand) (k:sN→Prog α):Prog α:=
 bif O1 y && Sz op then dL x fun a=>YA T t a fun v=>k (.one v) else dL x fun a=>dL y fun b=>Gm T t op a b k
def unP (op:UnOp) (a:AV) (k:sN→Prog α):Prog α:=match op,a with
 | .neg, .val (.int ik) x _=>k (v1 (.int ik) (ik.wrap (0 - x)))
 | .xor, .val (.int ik) x _=>k (v1 (.int ik) (ik.wrap (BitVec.ofInt ik.bits (if ik.signed then -1 else ik.max) ^^^ BitVec.ofInt ik.bits x).toNat))
 | .not, .val .bool b _=>k (v1 .bool (!b))
 | _,_=>.fail
def aI (k:K) (x:El k) (ow:List TypeId) (tags:List Tag) (kind:zC) (keep:Bool:=false):Root:={ k,x,own:=ow,tags,w:=[],h:=[],g:=0,kind,fixed:=false,keep }
def Root.bt (R:Root):TypeId:=match R.kind with
 | .var t=>t
 | _=>4294967295
def eG (R:Root) (p:List Stp):TypeId:=(aa p R.k).getLastD R.bt
def AL (p:List Stp) (R:Root):Bool:=(aa p R.k).all fun t=>au t R.own
def addrOf (a:AV) (rd:Root→Nat→List Stp→Dat→Prog α) (ro:TypeId→Dat→List Tag→Prog α):Prog α:=match a with
 | .ptr r p h=>oN r fun R=>bif clean R.h h (dW p R.k) && AL p R then
   match aP p R.k R.x with
   | some d=>rd R r p d
   | none=>.fail
  else .fail
 | .iK bt k x tags=>kZ tags (bt :: k.tys) (ro bt ⟨k,x⟩ tags)
 | _=>.fail
def yj (T:iF) (o8:Bool) (t:TypeId) (a:AV) (k:AV→Prog α):Prog α:=
 match T.ty t with
 | none=>.fail
 | some kk=>match a with
  | .Bv r g k0 p=>oN r fun R=>bif Nat.beq R.g g && R.k.beq k0 && p.all Stp.nR then
    match aP p R.k R.x with
    | some d=>bif d.1.beq kk then (bif d.1.flat then k (.val d.1 d.2 []) else k (.o8 r p R.rW)) else .fail
    | none=>.fail
   else .fail
  | a=>addrOf a
   (fun R r p d=>bif d.1.beq kk then (bif o8 && !d.1.flat then k (.o8 r p R.rW) else k (.val d.1 d.2 (R.out r d.1))) else .fail)
   (fun _ d tags=>bif d.1.beq kk then k (.val d.1 d.2 (bif d.1.flat then [] else tags)) else .fail)
def bG (own bad:List TypeId):List TypeId:=own.filter fun t=>!au t bad
def iw:List Tag→List Tag→List Tag
 | [],m=>m
 | (r,n) :: l,m=>bif m.any fun t=>Nat.beq t.1 r && Nat.beq t.2 n then iw l m else (r,n) :: iw l m
def sw (r:Nat) (l:List Tag):List Tag:=l.filter fun t=>!Nat.beq t.1 r
def gQ.bad (tk:gQ):List TypeId:=aS tk.own tk.k
def FO (R:Root) (r:Nat) (tags:List Tag) (bad:List TypeId):Bool:=tags.all (fun t=>!Nat.beq t.1 r) || match R.kind with
 | .par=>false
 | .var t=>!au t bad
 | _=>true
def FK (R:Root) (r:Nat) (p:List Stp) (d:Dat) (tk:gQ):Option (Root×Dat):=
 bif !d.1.flat && p.all Stp.nR && !R.keep && (!p.isEmpty || R.isVar) && tk.tags.all (fun t=>!Nat.beq t.1 r) then
  match wM R p d with
  | some Rg=>match tk.own.filter (fun t=>!au t R.own && au t d.1.tys && !au t Rg.k.tys) with
   | []=>none
   | l=>some ({ Rg with own:=l++R.own },oF d)
  | none=>none
 else none
def storeAt (kk:K) (r:Nat) (p:List Stp) (tk:gQ) (R:Root) (d:Dat) (k:List Wr→Prog α):Prog α:=
 bif (d.1.beq kk || (d.1.beq kk.hole && p.all Stp.nR)) && (kk.flat || FO R r tk.tags tk.bad) && (aa p R.k).all (fun t=>!au t tk.bad) then
  match dU p R.k R.x ⟨tk.k,tk.x⟩ with
  | some z=>bif R.keep && !kk.tys.all (fun t=>!au t R.own || au t tk.own) then .fail else
   k (tk.ws++[.r r (some { R with
    keep:=R.keep || tk.keep
    k:=z.1,x:=z.2
    own:=bG R.own tk.bad
    tags:=bif kk.flat then R.tags else iw (sw r tk.tags) R.tags
    w:=eG R p :: R.w
    h:=(bif d.1.beq kk then [] else pq kk)++kk.tys++R.h })])
  | none=>.fail
 else .fail
def J5 (T:iF) (t:TypeId) (a v:AV) (k:List Wr→Prog α):Prog α:=
 match T.ty t,a with
 | some kk, .ptr r p h=>sH kk v fun tk=>bif tk.k.beq kk && tk.ws.all (fun w=>!w.loc.beq (.r r)) then
   oN r fun R=>bif clean R.h h (dW p R.k) && AL p R && vv tk.ws R.tags then
    match aP p R.k R.x with
    | some d=>match FK R r p d tk with
     | some q=>kZ q.1.tags q.1.wH (storeAt kk r p tk q.1 q.2 k)
     | none=>storeAt kk r p tk R d k
    | none=>.fail
   else .fail
  else .fail
 | _,_=>.fail
def BN (kk:K) (a:AV) (n:Nat) (k:AV→Prog α):Prog α:=match a with
 | .val (.st c) x tags=>bif (K.st c).beq kk then match aL n c x with
  | some d=>kZ tags c.tys (k (.val d.1 d.2 (bif d.1.flat then [] else tags)))
  | none=>.fail
  else .fail
 | .ref r g=>oN r fun R=>bif Nat.beq R.g g && R.k.beq kk then
   match aP [.fH n] R.k R.x with
   | some d=>bif d.1.flat then k (.val d.1 d.2 []) else k (.o8 r [.fH n] R.rW)
   | none=>.fail
  else .fail
 | .o8 r p h=>oN r fun R=>bif Nat.beq R.rW h then
   match aP p R.k R.x,aP (p++[.fH n]) R.k R.x with
   | some d0,some d=>bif !d0.1.beq kk then .fail else bif d.1.flat then k (.val d.1 d.2 []) else k (.o8 r (p++[.fH n]) R.rW)
   | _,_=>.fail
  else .fail
 | _=>.fail
def Fg (kk:K) (n:Nat):Bool:=match kk with
 | .st c=>(aa.Ae n c).isSome
 | _=>false
def Ea:List Stp→K→Option K
 | [],k=>some k
 | .fH n :: p, .st c=>match aa.Ae n c with
  | some k=>Ea p k
  | none=>none
 | _,_=>none
def QN (a:AV) (kk:K) (yes:Nat→Nat→Prog α) (no:Prog α):Prog α:=match a with
 | .ref r g=>.root r fun
  | some R=>bif R.fixed then (oN r fun R=>bif Nat.beq R.g g && R.k.beq kk then yes r g else .fail) else no
  | none=>no
 | _=>no
def rz (kk:K) (a:AV) (n:Nat) (k:AV→Prog α):Prog α:=match a with
 | .ptr r p h=>.root r fun
  | some R=>match aP p R.k R.x with
   | some d=>bif d.1.like kk && Fg kk n then k (.ptr r (p++[.fH n]) h) else .fail
   | none=>.fail
  | none=>.fail
 | .iK bt (.st c) x tags=>bif (K.st c).beq kk then match aL n c x with
  | some d=>kZ tags (bt :: c.tys) (k (.iK bt d.1 d.2 tags))
  | none=>.fail
  else .fail
 | .Bv r g k0 p=>match Ea p k0 with
  | some k1=>bif k1.beq kk && Fg kk n then k (.Bv r g k0 (p++[.fH n])) else .fail
  | none=>.fail
 | _=>.fail
def aN (i:Int) (n:Nat):Prop:=0≤i∧i<(n:Int)
instance (i:Int) (n:Nat):Decidable (aN i n):=inferInstanceAs (Decidable (_∧_))
def rC (k0:K) (a:AV) (i:Int) (k:AV→Prog α):Prog α:=match a with
 | .val (.sl e kk) xs tags=>bif (K.sl e kk).beq k0 then kZ tags (e :: kk.tys) (.qI (aN i (show List (El kk) from xs).length) inferInstance
   (k (.iK e kk ((show List (El kk) from xs).getD i.toNat kk.zero) tags))) else .fail
 | .ref r g=>oN r fun R=>bif Nat.beq R.g g then
   match R.k,R.x with
   | .sl e kk,xs=>bif au e R.own && (K.sl e kk).beq k0 then .qI (aN i (show List (El kk) from xs).length) inferInstance (k (.ptr r [.idx i] (gq R.h))) else .fail
   | _,_=>.fail
  else .fail
 | .o8 r p h=>oN r fun R=>bif Nat.beq R.rW h then
   match aP p R.k R.x with
   | some ⟨.sl e kk,xs⟩=>bif !(K.sl e kk).beq k0 then .fail else bif au e R.own then .qI (aN i (show List (El kk) from xs).length) inferInstance (k (.ptr r (p++[.idx i]) (gq R.h)))
     else .qI (aN i (show List (El kk) from xs).length) inferInstance (k (.iK e kk ((show List (El kk) from xs).getD i.toNat kk.zero) (R.out r (.sl e kk))))
   | _=>.fail
  else .fail
 | _=>.fail
structure xJ where
 k:K
 x:El k
 bad:List TypeId
 tags:List Tag
 ws:List Wr
 keep:Bool
 all:List Tag
def gQ.gz (tk:gQ):List Tag:=match tk.bad with
 | []=>[]
 | _=>tk.tags
def wW:List (Nat×AV)→xJ→(xJ→Prog α)→Prog α
 | [],b,k=>k b
 | (n,a) :: l,b,k=>match b.k,b.x with
  | .st c,x=>match aL n c x with
   | some d=>sH d.1 a fun tk=>bif tk.k.beq d.1 then
     match cB n c x ⟨tk.k,tk.x⟩ with
     | some z=>wW l { k:=.st z.1,x:=z.2,bad:=tk.bad++b.bad,tags:=iw (tk.gz) b.tags,ws:=b.ws++tk.ws,keep:=tk.keep || b.keep,all:=tk.tags++b.all } k
     | none=>.fail
    else .fail
   | none=>.fail
  | _,_=>.fail
def wK:List (Nat×Operand)→(List (Nat×AV)→Prog α)→Prog α
 | [],k=>k []
 | (n,x) :: l,k=>dL x fun a=>wK l fun r=>k ((n,a) :: r)
def ji:List Operand→(List AV→Prog α)→Prog α
 | [],k=>k []
 | x :: l,k=>dL x fun a=>ji l fun r=>k (a :: r)
structure q9 (kk:K) where
 xs:List (El kk)
 bad:List TypeId
 tags:List Tag
 ws:List Wr
 keep:Bool
 all:List Tag
def BG (kk:K):List (Nat×AV)→q9 kk→(q9 kk→Prog α)→Prog α
 | [],b,k=>k b
 | (n,a) :: l,b,k=>sH kk a fun tk=>match bT tk.k kk tk.x with
  | some y=>bif Nat.beq n (gq b.xs) then BG kk l { xs:=b.xs++[y],bad:=tk.bad++b.bad,tags:=iw (tk.gz) b.tags,ws:=b.ws++tk.ws,keep:=tk.keep || b.keep,all:=tk.tags++b.all } k else .fail
  | none=>.fail
def PZ (e:TypeId) (kk:K) (a:AV) (k:q9 kk→Prog α):Prog α:=match a with
 | .val .str s _=>match bT (.int .u8) kk (0:Int) with
  | some _=>match bT (.sl e (.int .u8)) (.sl e kk) (show List Int from s) with
   | some xs=>k ⟨xs,[],[],[],false,[]⟩
   | none=>.fail
  | none=>.fail
 | .iE=>k ⟨[],[],[],[],false,[]⟩
 | .ref r g=>oN r fun R=>bif Nat.beq R.g g then
   match bT R.k (.sl e kk) R.x with
   | some xs=>bif kk.flat then k ⟨xs,[],[],[],false,[]⟩ else bif R.fixed then .fail else k ⟨xs,bif au e R.own then aS R.own kk else kk.tys,bif au e R.own && kk.tys.all (fun t=>au t R.own) then [] else R.tags,[.r r none],R.keep,R.tags⟩
   | none=>.fail
  else .fail
 | a=>qG a fun k' x tags=>match bT k' (.sl e kk) x with
   | some xs=>k ⟨xs,kk.tys,bif kk.flat then [] else tags,[],false,[]⟩
   | none=>.fail
def vZ (T:iF) (d:Nat) (t:TypeId) (a b:AV) (k:List Wr→Prog α):Prog α:=
 match T.ty t with
 | some (.sl e kk)=>PZ e kk b fun s=>bif au e s.bad then .fail else match a with
  | .iE=>.qI (s.xs.length * T.bytes e≤140737488355328) inferInstance (gZ (aZ d 0)
    (k (s.ws++[.r (aZ d 0) (some (aI (.sl e kk) s.xs (e :: bG kk.tys s.bad) s.tags .anon s.keep)), .s d (.one (.ref (aZ d 0) 0))])))
  | .ref r g=>oN r fun R=>bif Nat.beq R.g g && !R.fixed && au e R.own && !(R.keep && !kk.tys.all (fun t=>!au t R.own || !au t s.bad)) && s.ws.all (fun w=>!w.loc.beq (.r r)) && vv s.ws R.tags then
    match bT R.k (.sl e kk) R.x with
    | some xs=>.qI (((show List (El kk) from xs).length+s.xs.length) * T.bytes e≤140737488355328) inferInstance
      (k (s.ws++[.r r (some { R with
        k:=.sl e kk,x:=(show List (El kk) from xs)++s.xs
        own:=bG R.own s.bad
        tags:=iw (sw r s.tags) R.tags
        w:=e :: R.w,h:=nD :: e :: R.h,g:=R.g+1,keep:=R.keep || s.keep }), .s d (.one (.ref r (R.g+1)))]))
    | none=>.fail
   else .fail
  | .o8 r p h=>oN r fun R=>bif Nat.beq R.rW h && p.all Stp.nR && (!p.isEmpty || R.isVar) && !R.fixed && au e R.own && !(R.keep && !kk.tys.all (fun t=>!au t R.own || !au t s.bad)) && s.ws.all (fun w=>!w.loc.beq (.r r)) && vv s.ws R.tags then
    match aP p R.k R.x with
    | some dd=>match bT dd.1 (.sl e kk) dd.2,wM R p dd with
     | some xs,some R'=>.qI (((show List (El kk) from xs).length+s.xs.length) * T.bytes e≤140737488355328) inferInstance (gZ (aZ d 0)
       (k (s.ws++[.r r (some R'), .r (aZ d 0) (some (aI (.sl e kk) ((show List (El kk) from xs)++s.xs)
          (bG ((e :: kk.tys).filter fun t=>au t R.own) s.bad) (iw s.tags R.tags) .anon (R.keep || s.keep))), .s d (.one (.ref (aZ d 0) 0))])))
     | _,_=>.fail
    | none=>.fail
   else .fail
  | _=>.fail
 | _=>.fail
def ownRow (r g:Nat) (k:Root→(e:TypeId)→(kk:K)→List (El kk)→Prog α):Prog α:=oN r fun R=>bif Nat.beq R.g g then match R.k,R.x with
  | .sl e kk,xs=>bif kk.flat && au e R.own then k R e kk (show List (El kk) from xs) else .fail
  | _,_=>.fail
 else .fail
def K7 (k0:K) (a:AV) (lo hi mx:Option Int) (k:AV→Prog α):Prog α:=match a with
 | .ref r g=>ownRow r g fun _ e kk xs=>bif (K.sl e kk).beq k0 then
   match mx with
   | none=>.qI (0≤lo.getD 0∧lo.getD 0≤hi.getD (xs.length:Int)∧hi.getD (xs.length:Int)≤(xs.length:Int)) inferInstance (k (.part r g (lo.getD 0).toNat (hi.getD (xs.length:Int)).toNat kk.size))
   | some m=>bif hi.isSome then .qI (0≤lo.getD 0∧lo.getD 0≤hi.getD 0∧hi.getD 0≤m∧m≤(xs.length:Int)) inferInstance (k .undef) else .fail
  else .fail
 | .part r g l0 h0 sz=>ownRow r g fun _ e kk xs=>bif (K.sl e kk).beq k0 && Nat.beq kk.size sz && mx.isNone then
   .qI (0≤lo.getD 0∧lo.getD 0≤hi.getD ((h0 - l0:Nat):Int)∧(l0:Int)+hi.getD ((h0 - l0:Nat):Int)≤(xs.length:Int)) inferInstance
    (k (.part r g (l0+(lo.getD 0).toNat) (l0+(hi.getD ((h0 - l0:Nat):Int)).toNat) sz))
  else .fail
 | _=>.fail
def Jf (k0:K) (a:AV) (k:List Wr→Prog α):Prog α:=match a with
 | .part r g lo hi sz=>ownRow r g fun R e kk xs=>bif (K.sl e kk).beq k0 && Nat.beq kk.size sz then
   k [.r r (some { R with k:=.sl e kk,x:=xs.take lo++List.replicate (hi - lo) kk.zero++xs.drop hi,w:=e :: R.w })]
  else .fail
 | _=>.fail
def Jg (k0:K) (d:Nat) (a b:AV) (k:List Wr→Prog α):Prog α:=match a,b with
 | .part r g l0 h0 sz, .part r' g' l1 h1 sz'=>ownRow r g fun R e kk xs=>bif (K.sl e kk).beq k0 && Nat.beq r r' && Nat.beq g g' && Nat.beq sz sz' && Nat.beq l0 0 && Nat.beq kk.size sz then
   .qI (h0≤l1) inferInstance (k [.r r (some { R with k:=.sl e kk,x:=xs.take h0++(xs.take h1).drop l1++xs.drop (h0+(h1 - l1)),w:=e :: R.w }), .s d (.one (.part r g 0 (h0+(h1 - l1)) sz))])
  else .fail
 | _,_=>.fail
def NS (k0:K) (d:Nat) (a b:AV) (k:List Wr→Prog α):Prog α:=match a with
 | .ref r g=>ownRow r g fun R e kk xs=>bif (K.sl e kk).beq k0 then PZ e kk b fun s=>
   .qI (s.xs.length≤xs.length) inferInstance (k [.r r (some { R with k:=.sl e kk,x:=s.xs++xs.drop s.xs.length,w:=e :: R.w }), .s d (.one (.val (.int .i64) (s.xs.length:Int) []))])
  else .fail
 | _=>.fail
abbrev Gj (e:TypeId) (kk:K):K:=.st (.pair kk (.pair (.sl e (.gap kk.size)) .unit))
def He:List Stp→List Int
 | []=>[]
 | .fH _ :: p=>He p
 | .idx i :: p=>i :: He p
def rJ:List Stp→List Stp→Bool
 | [],[]=>true
 | .fH n :: p, .fH m :: q=>Nat.beq n m && rJ p q
 | .idx _ :: p, .idx _ :: q=>rJ p q
 | _,_=>false
def Ua (T:iF) (d:Nat) (t:TypeId) (a b:AV) (k:List Wr→Prog α):Prog α:=match T.ty t,a,b with
 | some (.sl e kk), .o8 r p h, .ref rb gb=>oN rb fun B=>bif Nat.beq B.g gb && !B.fixed && !Nat.beq r rb && p.all Stp.nR && !au nD (K.sl e kk).tys && (K.sl e kk).tys.all (fun t=>au t B.own) then
   match bT B.k (.sl e kk) B.x with
   | some ys=>oN r fun R=>bif Nat.beq R.rW h && !R.fixed && (K.sl e kk).tys.all (fun t=>au t R.own) && R.tags.all (fun t=>!Nat.beq t.1 rb) then
     match aP p R.k R.x with
     | some dd=>match bT dd.1 (.sl e kk) dd.2 with
      | some xs=>match dU p R.k R.x dd with
       | some z=>.qI ((show List (El kk) from ys).length=1∧((show List (El kk) from xs).length+1) * T.bytes e≤140737488355328) inferInstance (gZ (aZ d 0)
         (k [.r rb none, .r r (some { R with k:=z.1,x:=z.2,w:=e :: R.w,h:=(K.sl e kk).tys++R.h }), .r (aZ d 0) (some (aI (Gj e kk) ((show List (El kk) from ys).getD 0 kk.zero,(([]:List Unit),())) (e :: kk.tys) [] .anon)),
          .s d (.one (.app r p (gq (e :: R.w)+gq ((K.sl e kk).tys++R.h)) (aZ d 0)))]))
       | none=>.fail
      | none=>.fail
     | none=>.fail
    else .fail
   | none=>.fail
  else .fail
 | _,_,_=>.fail
def yQ (k0:K) (a:AV) (r:Nat) (p:List Stp) (n q:Nat) (k:List Wr→Prog α):Prog α:=match k0,a with
 | .sl e kk, .ptr r' p' h=>bif Nat.beq r r' && rJ p p' && p.all Stp.nR && !Nat.beq r q then oN q fun Q=>bif Nat.beq Q.rW 0 && (e :: kk.tys).all (fun t=>au t Q.own) then
    match bT Q.k (Gj e kk) Q.x with
    | some y=>oN r fun R=>bif Nat.beq R.rW n && !R.fixed && clean R.h h (dW p' R.k) && (K.sl e kk).tys.all (fun t=>au t R.own) && R.tags.all (fun t=>!Nat.beq t.1 q) then
      match aP p R.k R.x with
      | some dd=>match bT dd.1 (.sl e kk) dd.2 with
       | some xs=>match dU p R.k R.x ⟨.sl e kk,(show List (El kk) from xs)++[(show El kk from y.1)]⟩ with
        | some z=>k [.r q none, .r r (some { R with k:=z.1,x:=z.2,w:=eG R p :: e :: R.w,h:=(K.sl e kk).tys++R.h })]
        | none=>.fail
       | none=>.fail
      | none=>.fail
     else .fail
    | none=>.fail
   else .fail
  else .fail
 | _,_=>.fail
def yU (k0:K) (a:AV) (r:Nat) (p:List Stp) (n m:Nat) (k:List Wr→Prog α):Prog α:=match k0,a with
 | .sl e kk, .ptr r' p' h=>bif Nat.beq r r' && rJ p p' then .qI (He p=He p') inferInstance (oN r fun R=>bif Nat.beq R.rW n && !R.fixed && clean R.h h (dW p' R.k) && (K.sl e kk).tys.all (fun t=>au t R.own) then
      match aP p R.k R.x with
      | some dd=>match bT dd.1 (.sl e kk) dd.2 with
       | some xs=>match dU p R.k R.x ⟨.sl e kk,(show List (El kk) from xs).take m⟩ with
        | some z=>k [.r r (some { R with k:=z.1,x:=z.2,w:=eG R p :: (K.sl e kk).tys++R.w,h:=(K.sl e kk).tys++R.h })]
        | none=>.fail
       | none=>.fail
      | none=>.fail
     else .fail)
  else .fail
 | _,_=>.fail
end
end
section
open Go
def Cont.fst:(ks ls:List K)→Cont (ks++ls)→Cont ks
 | [],_,_=>()
 | _ :: ks,ls,c=>(c.1,Cont.fst ks ls c.2)
def Cont.snd:(ks ls:List K)→Cont (ks++ls)→Cont ls
 | [],_,c=>c
 | _ :: ks,ls,c=>Cont.snd ks ls c.2
abbrev SENT:Nat:=4294967295
structure cO where
 ids:List Tag
 wb:Option (Nat×List Stp×List TypeId×List TypeId)
 ws:List Wr
 bt:List TypeId:=[]
def idxOf:(p:List (Option Nat))→List Stp→Option (Cont (fF.into 0 p).kin)
 | [],[]=>some ()
 | some n :: p, .fH m :: q=>bif Nat.beq n m then idxOf p q else none
 | none :: p, .idx i :: q=>match idxOf p q with
  | some c=>some (i,c)
  | none=>none
 | _,_=>none
def pathOf:(p:List (Option Nat))→Cont (fF.into 0 p).kin→List Stp
 | [],_=>[]
 | some n :: p,c=>.fH n :: pathOf p c
 | none :: p,c=>.idx c.1 :: pathOf p c.2
section
variable {α:Type}
def lV (k:K) (own ow:List TypeId):Bool:=k.tys.all fun t=>au t own == au t ow
def Kz:(ks:List K)→List (TypeId×Dat×List Tag)→(Cont ks→List Tag→Prog α)→Prog α
 | [],[],k=>k () []
 | kk :: ks,(t,d,tags) :: l,k=>kZ tags (t :: d.1.tys) (match bT d.1 kk d.2 with
  | some x=>Kz ks l fun c ts=>k (x,c) (iw tags ts)
  | none=>.fail)
 | _,_,_=>.fail
def jl:(ps:List fF)→List AV→(Cont (kin ps)→List cO→Prog α)→Prog α
 | [],[],k=>k () []
 | .val kk _ :: ps,a :: l,k=>
  let go (x:El kk) (tags:List Tag):Prog α:=jl ps l fun c is=>k (x,c) (⟨tags,none,[],[]⟩ :: is)
  match a with
  | .iE=>match kk,go with
   | .sl _ _,go=>go [] []
   | _,_=>.fail
  | a=>qG a fun k' x tags=>match bT k' kk x with
   | some y=>go y (bif kk.flat then [] else tags)
   | none=>.fail
 | .ro kk :: ps,a :: l,k=>
  let go (d:Dat) (tags:List Tag):Prog α:=match bT d.1 kk d.2 with
   | some y=>jl ps l fun c is=>k (y,c) (⟨tags,none,[],[]⟩ :: is)
   | none=>.fail
  addrOf a (fun R r _ d=>go d ((r,gq R.w) :: R.tags)) (fun _ d tags=>go d tags)
 | .rw kk ow wt ht :: ps,a :: l,k=>match a with
  | .ptr r p h=>oN r fun R=>bif clean R.h h (dW p R.k) && AL p R then
    match aP p R.k R.x with
    | some d=>match bT d.1 kk d.2 with
     | some y=>bif lV kk R.own ow then jl ps l fun c is=>k (y,c) (⟨R.tags,some (r,p,wt,ht),[],[eG R p]⟩ :: is) else .fail
     | none=>.fail
    | none=>.fail
   else .fail
  | _=>.fail
 | .jG kk ow wt :: ps,a :: l,k=>
  let go (R:Root) (r:Nat) (p:List Stp) (d:Dat):Prog α:=match bT d.1 kk d.2 with
   | some y=>bif lV kk R.own ow then jl ps l fun c is=>k (y,c) (⟨R.tags,some (r,p,wt,kk.tys),[],[]⟩ :: is) else .fail
   | none=>.fail
  match a with
  | .o8 r p h=>oN r fun R=>bif Nat.beq R.rW h then
    match aP p R.k R.x with
    | some d=>go R r p d
    | none=>.fail
   else .fail
  | .ref r g=>oN r fun R=>bif Nat.beq R.g g then go R r [] ⟨R.k,R.x⟩ else .fail
  | _=>.fail
 | .own kk ow :: ps,a :: l,k=>sH kk a fun tk=>match bT tk.k kk tk.x with
  | some y=>bif lV kk tk.own ow then jl ps l fun c is=>k (y,c) (⟨tk.tags,none,tk.ws,[]⟩ :: is) else .fail
  | none=>.fail
 | .fn f ks :: ps,a :: l,k=>match a with
  | .fn f' caps=>bif Nat.beq f f' then Kz ks caps fun c tags=>jl ps l fun c' is=>k (Cont.app ks (kin ps) c c') (⟨tags,none,[],[]⟩ :: is) else .fail
  | _=>.fail
 | .into _ [] :: ps,a :: l,k=>match a with
  | .iE=>jl ps l fun c is=>k c (⟨[],none,[],[]⟩ :: is)
  | _=>.fail
 | _,_,_=>.fail
def cO.touched (i:cO):List Nat:=(match i.wb with | some (r,_)=>[r] | none=>[])++i.ws.flatMap Wr.p9
def yx:List cO→Bool
 | []=>true
 | i :: l=>match i.wb with
  | some _=>l.all fun j=>j.wb.isNone
  | none=>yx l
def u6 (r:Nat):List cO→Nat→Option Nat
 | [],_=>none
 | i :: is,n=>match i.wb with
  | some (r',_)=>bif Nat.beq r r' then some n else u6 r is (n+1)
  | none=>u6 r is (n+1)
def sK (is:List cO):List fF→List cO→Bool
 | .val k gM :: ps,i :: l=>(gM.all fun j=>match is[j]? with | some q=>q.wb.isSome | none=>false) && i.ids.all (fun t=>match u6 t.1 is 0 with
   | some n=>au n gM && (match is[n]? with
     | some j=>j.bt.all fun b=>!au b k.tys
     | none=>false)
   | none=>!au t.1 (is.flatMap fun j=>j.ws.flatMap Wr.p9)) && sK is ps l
 | _ :: ps,i :: l=>i.ids.all (fun t=>!au t.1 (is.flatMap cO.touched)) && sK is ps l
 | [],[]=>true
 | _,_=>false
def Bf:(ps:List fF)→List cO→Cont (jE ps)→(List Wr→Prog α)→Prog α
 | [],[],_,k=>k []
 | .rw kk _ _ _ :: ps,⟨_,some (r,p,wt,ht),_,_⟩ :: is,c,k=>.root r fun
  | some R=>match dU p R.k R.x ⟨kk,c.1⟩ with
   | some z=>Bf ps is c.2 fun ws=>k (.r r (some { R with k:=z.1,x:=z.2,w:=(eG R p :: wt)++R.w,h:=ht++R.h }) :: ws)
   | none=>.fail
  | none=>.fail
 | .jG kk _ _ :: ps,⟨_,some (r,p,wt,ht),_,_⟩ :: is,c,k=>.root r fun
  | some R=>match dU p R.k R.x ⟨kk,c.1⟩ with
   | some z=>Bf ps is c.2 fun ws=>k (.r r (some { R with k:=z.1,x:=z.2,w:=(SENT :: (kk.tys++wt))++R.w,h:=ht++R.h }) :: ws)
   | none=>.fail
  | none=>.fail
 | .val _ _ :: ps,_ :: is,c,k | .ro _ :: ps,_ :: is,c,k | .own _ _ :: ps,_ :: is,c,k | .fn _ _ :: ps,_ :: is,c,k | .into _ _ :: ps,_ :: is,c,k=>Bf ps is c k
 | _,_,_,_=>.fail
def H6 (ws:List Wr):List Nat→(List Tag→Prog α)→Prog α
 | [],k=>k []
 | r :: l,k=>bif fG r then H6 ws l fun ts=>k ((r,0) :: ts) else
  match ws.find? (fun w=>w.loc.beq (.r r)) with
  | some (.r _ (some R))=>H6 ws l fun ts=>k ((r,gq R.w) :: ts)
  | some _=>.fail
  | none=>.root r fun
   | some R=>H6 ws l fun ts=>k ((r,gq R.w) :: ts)
   | none=>.fail
def yg (is:List cO) (exts gM:List Nat):List Nat:=
 exts.flatMap (fun j=>match is[j]? with | some i=>i.ids.map (·.1) | none=>[])++
 gM.flatMap (fun j=>match is[j]? with
  | some i=>match i.wb with
   | some q=>[q.1]
   | none=>[]
  | none=>[])
def sU:List Nat→List Nat
 | []=>[]
 | n :: l=>bif au n l then sU l else n :: sU l
def tC (d:Nat) (is:List cO) (ws:List Wr):(rs:List uw)→(c:Nat)→Cont (gV rs)→(List AV→List Wr→Prog α)→Prog α
 | [],_,_,k=>k [] []
 | .val kk exts gM :: rs,c,x,k=>H6 ws (bif kk.flat then [] else sU (yg is exts gM)) fun tags=>
   tC d is ws rs (c+1) x.2 fun as ws'=>k (.val kk x.1 tags :: as) ws'
 | .own kk ow exts gM :: rs,c,x,k=>H6 ws (bif kk.tys.all (fun t=>au t ow) then [] else sU (yg is exts gM)) fun tags=>
   gZ (aZ d c) (tC d is ws rs (c+1) x.2 fun as ws'=>k (.ref (aZ d c) 0 :: as) (.r (aZ d c) (some (aI kk x.1 ow tags .anon)) :: ws'))
 | .ptr t kk ow exts :: rs,c,x,k=>H6 ws (bif kk.tys.all (fun t=>au t ow) then [] else sU (yg is exts [])) fun tags=>
   gZ (aZ d c) (tC d is ws rs (c+1) x.2 fun as ws'=>k (.ptr (aZ d c) [] 0 :: as) (.r (aZ d c) (some (aI kk x.1 ow tags (.var t))) :: ws'))
 | .into j p :: rs,c,x,k=>bif Nat.beq c 0 && p.isEmpty && rs.isEmpty then match is[j]? with
   | some i=>match i.wb with
    | some (r,q,_,ht)=>match ws.find? (fun w=>w.loc.beq (.r r)) with
     | some (.r _ (some R))=>bif au nD ht then .fail else k [.tq r q (gq R.w+gq R.h) (show Int from x.1).toNat] []
     | _=>.fail
    | none=>.fail
   | none=>.fail
  else .fail
def NL:List AV→sN
 | [a]=>.one a
 | l=>.C8 l
def NP (n:Nat) (E:Entry) (dst:Option Nat) (DK:List AV) (k:List Wr→Prog α):Prog α:=
 jl E.ps DK fun c is=>bif yP (is.flatMap cO.touched) && yx is && sK is E.ps is then
  .opt _ (E.F n c) fun out=>Bf E.ps is (Cont.snd (gV E.rs) (jE E.ps) out) fun ws=>
   match dst with
   | some d=>tC d is ws E.rs 0 (Cont.fst (gV E.rs) (jE E.ps) out) fun as ws'=>k (is.flatMap cO.ws++ws++ws'++[.s d (NL as)])
   | none=>k (is.flatMap cO.ws++ws)
 else .fail
def qg (f d:Nat):List (Nat×Option Nat×Entry)→Option Entry
 | []=>none
 | (g,none,E) :: l=>bif Nat.beq f g then some E else qg f d l
 | (g,some e,E) :: l=>bif Nat.beq f g && Nat.beq d e then some E else qg f d l
def MO (mx:Bool):IntKind→Int→List AV→(Int→Prog α)→Prog α
 | _,x,[],k=>k x
 | ik,x, .val (.int jk) y _ :: l,k=>bif uY ik jk then MO mx ik (if mx then (if y>x then y else x) else (if y<x then y else x)) l k else .fail
 | _,_,_,_=>.fail
def NR (T:iF) (d:Nat) (src dst:TypeId) (a:AV) (k:List Wr→Prog α):Prog α:=match T.ty src,T.ty dst with
 | some _,some (.int ik)=>match a with
  | .val (.int _) n _=>k [.s d (v1 (.int ik) (ik.wrap n))]
  | _=>.fail
 | some .str,some .str=>match a with
  | .val .str s _=>k [.s d (v1 .str s)]
  | _=>.fail
 | some (.sl _ (.int .u8)),some .str=>match a with
  | .iE=>k [.s d (v1 .str [])]
  | a=>qG a fun kk x _=>match kk,x with
   | .sl _ (.int .u8),xs=>k [.s d (v1 .str xs)]
   | _,_=>.fail
 | some .str,some (.sl e (.int .u8))=>match a with
  | .val .str s _=>gZ (aZ d 0) (k [.r (aZ d 0) (some (aI (.sl e (.int .u8)) s [e] [] .anon)), .s d (.one (.ref (aZ d 0) 0))])
  | _=>.fail
 | _,_=>.fail
def LC:List AV→(List (TypeId×Dat×List Tag)→Prog α)→Prog α
 | [],k=>k []
 | a :: l,k=>addrOf a
   (fun R r p d=>bif Nat.beq (eG R p) SENT then .fail else LC l fun cs=>k ((eG R p,d,(r,gq R.w) :: R.tags) :: cs))
   (fun bt d tags=>LC l fun cs=>k ((bt,d,tags) :: cs))
def J2 (k0:K) (a:AV) (lo hi:Option Int) (k:AV→Prog α):Prog α:=match a with
 | .val .str s _=>bif !k0.beq .str then .fail else
  let n:=(show List Int from s).length
  match lo,hi with
  | none,none=>k (.val .str s [])
  | some l,none=>.qI (0≤l∧l≤(n:Int)) inferInstance (k (.val .str ((show List Int from s).drop l.toNat) []))
  | none,some h=>.qI (0≤h∧h≤(n:Int)) inferInstance (k (.val .str ((show List Int from s).take h.toNat) []))
  | some l,some h=>.qI (0≤l∧l≤h∧h≤(n:Int)) inferInstance (k (.val .str (((show List Int from s).take h.toNat).drop l.toNat) []))
 | a=>qG a fun kk x tags=>match kk,x with
  | .sl e kk,xs=>bif !k0.beq (.sl e kk) then .fail else
   let xs:=(show List (El kk) from xs)
   match lo,hi with
   | none,none=>k (.val (.sl e kk) xs tags)
   | some l,none=>.qI (0≤l∧l≤(xs.length:Int)) inferInstance (k (.val (.sl e kk) (xs.drop l.toNat) tags))
   | none,some h=>.qI (0≤h∧h≤(xs.length:Int)) inferInstance (k (.val (.sl e kk) (xs.take h.toNat) tags))
   | some l,some h=>.qI (0≤l∧l≤h∧h≤(xs.length:Int)) inferInstance (k (.val (.sl e kk) ((xs.take h.toNat).drop l.toNat) tags))
  | _,_=>.fail
def Ak (x:Option Operand) (k:Option Int→Prog α):Prog α:=match x with
 | none=>k none
 | some y=>dL y fun a=>asInt a fun _ i=>k (some i)
def isZero:Option Operand→Bool
 | some (.const (.int _ 0))=>true
 | _=>false
def Ky (hi:Hint) (n:Nat) (dst:Option Nat) (c:Call) (k:List Wr→Prog α):Prog α:=match c.callee with
 | .value f=>dL f fun
  | .fn f caps=>ji c.args.toList fun l=>match qg f (dst.getD 0) hi.calls with
   | some E=>bif Nat.beq E.f f then NP n E dst (l++caps.map fun (t,dd,tags)=>.iK t dd.1 dd.2 tags) k else .fail
   | none=>.fail
  | _=>.fail
 | _=>.fail
def rA (d:Nat):List (Nat×List TypeId)→List TypeId
 | []=>[]
 | (e,l) :: m=>bif Nat.beq d e then l else rA d m
def KT (hi:Hint) (d:Nat) (k:K):List TypeId:=match rA d hi.less with
 | []=>k.tys
 | l=>bG k.tys l
def xE {A:Type}:Nat→List A→List (Nat×A)
 | _,[]=>[]
 | i,a :: l=>(i,a) :: xE (i+1) l
def Pm:K→List (Nat×AV)→Nat→Prog α→Prog α
 | .pair kk r,(n,a) :: l,i,p=>bif Nat.beq n i then sH kk a fun tk=>bif tk.k.beq kk then Pm r l (i+1) p else .fail else .fail
 | .unit,[],_,p=>p
 | _,_,_,_=>.fail
def I8 (e:TypeId) (d:Nat) (a:AV) (k:List Wr→Prog α):Prog α:=match a with
 | .ref r g=>ownRow r g fun R e' kk xs=>bif (K.sl e' kk).beq (.sl e (.int .u8)) then .qI (0<xs.length) inferInstance (k [.r r (some { R with k:=.sl e' kk,x:=xs,w:=e' :: R.w }), .s d (.one (.ref r g))]) else .fail
 | _=>.fail
def CY (T:iF) (o:Oper) (d:Nat) (k:List Wr→Prog α):Prog α:=match o.op with
 | .slice t x lo hi mx=>match T.ty t with
  | some kk=>dL x fun a=>Ak lo fun lo=>Ak hi fun hi=>Ak mx fun mx=>K7 kk a lo hi mx fun u=>k [.s d (.one u)]
  | none=>.fail
 | .call c=>match c.callee with
  | .builtin .len=>ji c.args.toList fun
   | [.part _ _ lo hi _]=>match (c.argTypes[0]?).bind T.ty with
    | some (.sl _ _)=>k [.s d (.one (.val (.int .i64) ((hi - lo:Nat):Int) []))]
    | _=>.fail
   | _=>.fail
  | .builtin .append=>ji c.args.toList fun
   | [a,b]=>match (c.argTypes[0]?).bind T.ty,(c.argTypes[1]?).bind T.ty with
    | some (.sl e0 k0),some (.sl _ _)=>Jg (.sl e0 k0) d a b k
    | _,_=>.fail
   | _=>.fail
  | .builtin .copy=>ji c.args.toList fun
   | [a,b]=>match (c.argTypes[0]?).bind T.ty,(c.argTypes[1]?).bind T.ty with
    | some (.sl e0 k0),some (.sl _ _)=>NS (.sl e0 k0) d a b k
    | _,_=>.fail
   | _=>.fail
  | _=>.fail
 | .build t ps=>match T.ty t with
  | some (.st c)=>wK ps.toList fun l=>Pm c l 0 (k [.s d (.lit t c (l.map (·.2)))])
  | _=>.fail
 | .convert s t x=>match T.ty t with
  | some (.sl e (.int .u8))=>bif Nat.beq s t then dL x fun a=>I8 e d a k else .fail
  | _=>.fail
 | _=>.fail
def U7 (T:iF) (s:Nat) (k:List Wr→Prog α):Prog α:=.slot s fun
 | .lit t c l=>bif (match T.ty t with | some kk=>kk.beq (.st c) | none=>false) then wW (xE 0 l) ⟨.st c,(K.st c).zero,[],[],[],false,[]⟩ fun b=>
   bif !yG b.ws b.all then .fail else gZ (aZ s 1) (k (b.ws++[.r (aZ s 1) (some (aI b.k b.x (bG b.k.tys b.bad) b.tags .anon b.keep)), .s s (.one (.ref (aZ s 1) 0))]))
  else .fail
 | _=>.fail
def vQ:List Stp→List Stp→Bool
 | [.fH i],[.fH j]=>!Nat.beq i j
 | _,_=>false
def freshen (r:Nat) (p:List Stp) (v v':Nat):AV→AV
 | .o8 q p' n=>bif Nat.beq r q && Nat.beq n v && vQ p p' then .o8 q p' v' else .o8 q p' n
 | a=>a
def Jy (r:Nat) (p:List Stp) (v:Nat):List Wr→AV→AV
 | [.r _ (some R)]=>freshen r p v R.rW
 | _=>fun a=>a
def J3 (s s2:Nat) (k:List Wr→Prog α):Prog α:=.slot s fun
 | .one (.o8 r p v)=>sH .unit (.o8 r p v) fun tk=>bif Nat.beq s s2 || tk.ws.isEmpty then .fail else gZ (aZ s 1) (.slot s2 fun
  | .lit t c l=>k (tk.ws++[.r (aZ s 1) (some (aI tk.k tk.x tk.own tk.gz .anon tk.keep)), .s s (.one (.ref (aZ s 1) 0)), .s s2 (.lit t c (l.map (Jy r p v tk.ws)))])
  | _=>.fail)
 | _=>.fail
def shares (r:Nat) (l:List AV):Bool:=l.any fun
 | .o8 q _ _=>Nat.beq r q
 | _=>false
def splits (s2:Nat):List (Nat×Operand)→Prog (List Wr)
 | []=>.ret []
 | (_, .tmp s) :: l=>.slot s fun
  | .one (.o8 r _ _)=>.slot s2 fun
   | .lit _ _ m=>bif shares r m then RI (J3 s s2 .ret) (splits s2 l) else splits s2 l
   | _=>.fail
  | _=>splits s2 l
 | _ :: l=>splits s2 l
def wm:List (Nat×Operand)→(Nat→Prog α)→Prog α
 | [],_=>.fail
 | (_, .tmp s) :: l,k=>.slot s fun
  | .lit _ _ _=>k s
  | _=>wm l k
 | _ :: l,k=>wm l k
def Ud (T:iF) (d:Nat) (t:TypeId) (ps:Array (Nat×Operand)):Prog (List Wr):=match T.ty t with
 | some (.st c)=>wK ps.toList fun l=>wW l ⟨.st c,(K.st c).zero,[],[],[],false,[]⟩ fun b=>bif !yG b.ws b.all then .fail else bif b.k.tys.all fun t=>au t b.bad then
   .ret (b.ws++[.s d (.one (.val b.k b.x b.tags))])
  else gZ (aZ d 0) (.ret (b.ws++[.r (aZ d 0) (some (aI b.k b.x (bG b.k.tys b.bad) b.tags .anon b.keep)), .s d (.one (.ref (aZ d 0) 0))]))
 | _=>.fail
def Et (T:iF) (d:Nat) (t:TypeId) (ps:Array (Nat×Operand)):Prog (List Wr):=
 wm ps.toList fun s=>RI (splits s ps.toList) (RI (U7 T s .ret) (Ud T d t ps))
def FR (T:iF) (o:Oper) (d:Nat) (k:List Wr→Prog α):Prog α:=match o.op with
 | .build t ps=>(Et T d t ps).bind k
 | .call c=>match c.callee with
  | .builtin .append=>ji c.args.toList fun
   | [a,b]=>match c.argTypes[0]?,(c.argTypes[1]?).bind T.ty with
    | some t,some (.sl _ _)=>Ua T d t a b k
    | _,_=>.fail
   | _=>.fail
  | _=>.fail
 | .load t x=>dL x fun a=>yj T true t a fun u=>match T.ty t with
  | some kk=>sH kk u fun tk=>gZ (aZ d 0) (k (tk.ws++[Wr.r (aZ d 0) (some (aI tk.k tk.x tk.own tk.gz .anon tk.keep)),Wr.s d (.one (.ref (aZ d 0) 0))]))
  | none=>.fail
 | _=>.fail
def J6 (T:iF) (t:TypeId) (a v:AV) (k:List Wr→Prog α):Prog α:=match v with
 | .tq r p n m=>match T.ty t with
  | some k0=>yU k0 a r p n m k
  | none=>.fail
 | .app r p n q=>match T.ty t with
  | some k0=>yQ k0 a r p n q k
  | none=>.fail
 | v=>J5 T t a v k
def SN (T:iF) (hi:Hint) (n:Nat) (o:Oper) (k:List Wr→Prog α):Prog α:=match o.op with
 | .store t x v=>dL x fun a=>dL v fun v=>J6 T t a v k
 | .call c=>match c.callee with
  | .builtin .clear=>ji c.args.toList fun
   | [a]=>match (c.argTypes[0]?).bind T.ty with
    | some (.sl e0 k0)=>Jf (.sl e0 k0) a k
    | _=>.fail
   | _=>.fail
  | _=>Ky hi n none c k
 | _=>.fail
def SK (T:iF) (hi:Hint) (n:Nat) (o:Oper) (d:Nat) (k:List Wr→Prog α):Prog α:=
 let put (a:AV):Prog α:=k [.s d (.one a)]
 match o.op with
 | .move x=>qD x fun a=>k [.s d a]
 | .assign x=>qD x fun
  | .one .iE=>match T.ty o.type with
   | some (.sl e kk)=>.root (aZ d 0) fun
    | none=>k [.r (aZ d 0) (some (aI (.sl e kk) [] (e :: KT hi d kk) [] .anon)), .s d (.one (.ref (aZ d 0) 0))]
    | some _=>k [.s d (.one .iE)]
   | _=>.fail
  | a=>k [.s d a]
 | .pick c a b=>dL c fun c=>asBool c fun c=>qD a fun a=>qD b fun b=>.br c (k [.s d a]) (k [.s d b])
 | .alloc t=>match T.ty t with
  | some kk=>gZ (aZ d 0) (k [.r (aZ d 0) (some (aI kk kk.zero kk.tys [] (.var t))), .s d (.one (.ptr (aZ d 0) [] 0))])
  | none=>.fail
 | .box t x=>match T.ty t with
  | some kk=>dL x fun a=>QN a kk (fun r g=>put (.Bv r g kk [])) <| sH kk a fun tk=>bif tk.k.beq kk && !au t tk.bad then
    gZ (aZ d 0) (k (tk.ws++[.r (aZ d 0) (some (aI tk.k tk.x tk.own tk.gz (.var t) tk.keep)), .s d (.one (.ptr (aZ d 0) [] 0))]))
   else .fail
  | none=>.fail
 | .load t x=>dL x fun a=>yj T (au d hi.abZ) t a put
 | .nilCheck x=>dL x fun
  | .ptr r p h=>put (.ptr r p h)
  | .iK bt kk y tags=>put (.iK bt kk y tags)
  | _=>.fail
 | .binOp op t x y _=>I5 T t op x y fun v=>k [.s d v]
 | .unOp op _ x=>dL x fun a=>unP op a fun v=>k [.s d v]
 | .convert s t x=>dL x fun a=>NR T d s t a k
 | .field t x f=>match T.ty t with
  | some kk=>dL x fun a=>BN kk a f put
  | none=>.fail
 | .fieldAddr t x f=>match T.ty t with
  | some kk=>dL x fun a=>rz kk a f put
  | none=>.fail
 | .indexAddr t x i=>match T.ty t with
  | some kk=>dL x fun a=>dL i fun i=>asInt i fun _ i=>rC kk a i put
  | none=>.fail
 | .index t x i=>dL x fun a=>dL i fun i=>asInt i fun _ i=>match T.ty t,a with
  | some .str, .val .str s _=>.qI (aN i (show List Int from s).length) inferInstance (put (.val (.int .u8) ((show List Int from s).getD i.toNat 0) []))
  | _,_=>.fail
 | .extract x i=>qD x fun
  | .C8 l=>match l[i]? with
   | some a=>put a
   | none=>.fail
  | _=>.fail
 | .build t ps=>match T.ty t with
  | some (.st c)=>wK ps.toList fun l=>wW l ⟨.st c,(K.st c).zero,[],[],[],false,[]⟩ fun b=>bif !yG b.ws b.all then .fail else bif b.k.tys.all fun t=>au t b.bad then
    k (b.ws++[.s d (.one (.val b.k b.x b.tags))])
   else gZ (aZ d 0) (k (b.ws++[.r (aZ d 0) (some (aI b.k b.x (bG b.k.tys b.bad) b.tags .anon b.keep)), .s d (.one (.ref (aZ d 0) 0))]))
  | _=>.fail
 | .buildSlice t len ps=>match T.ty t with
  | some (.sl e kk)=>wK ps.toList fun l=>BG kk l ⟨[],[],[],[],false,[]⟩ fun b=>bif !(yG b.ws b.all && Nat.ble (len * kk.size) 16777216) then .fail else bif Nat.beq (gq b.xs) len && !au e b.bad then
    gZ (aZ d 0) (k (b.ws++[.r (aZ d 0) (some (aI (.sl e kk) b.xs (e :: bG (KT hi d kk) b.bad) b.tags .anon b.keep)), .s d (.one (.ref (aZ d 0) 0))]))
   else bif Nat.beq (gq b.xs) 0 then
    gZ (aZ d 0) (k [.r (aZ d 0) (some (aI (.sl e kk) (List.replicate len kk.zero) (e :: kk.tys) [] .anon)), .s d (.one (.ref (aZ d 0) 0))])
   else .fail
  | _=>.fail
 | .makeSlice t x y=>match T.ty t with
  | some (.sl e kk)=>dL x fun a=>dL y fun b=>asInt a fun ik i=>asInt b fun jk j=>bif uY ik .i64 && uY jk .i64 then
    .qI (i=j∧0≤i∧i * T.bytes e≤140737488355328) inferInstance (gZ (aZ d 0)
     (k [.r (aZ d 0) (some (aI (.sl e kk) (List.replicate i.toNat kk.zero) (e :: kk.tys) [] .anon)), .s d (.one (.ref (aZ d 0) 0))]))
   else .fail
  | _=>.fail
 | .makeFunc (.func f) first caps=>bif first.isEmpty then ji caps.toList fun l=>LC l fun cs=>put (.fn f cs) else .fail
 | .slice t x lo hi mx=>match T.ty t with
  | some kk=>bif isZero lo && isZero hi && isZero mx then match kk with
    | .sl _ _=>dL x fun
     | .iE=>put .iE
     | a=>qG a fun k' _ _=>bif k'.beq kk then put .iE else .fail
    | _=>.fail
   else match mx with
    | none=>dL x fun a=>Ak lo fun lo=>Ak hi fun hi=>J2 kk a lo hi put
    | some _=>.fail
  | none=>.fail
 | .call c=>match c.callee with
  | .builtin .len=>ji c.args.toList fun
   | [.iE]=>match (c.argTypes[0]?).bind T.ty with
    | some (.sl _ _)=>put (.val (.int .i64) 0 [])
    | _=>.fail
   | [.val .str s _]=>match (c.argTypes[0]?).bind T.ty with
    | some .str=>put (.val (.int .i64) ((show List Int from s).length:Int) [])
    | _=>.fail
   | [a]=>match (c.argTypes[0]?).bind T.ty with
    | some (.sl _ _)=>qG a fun kk x _=>match kk,x with
     | .sl _ kk,xs=>put (.val (.int .i64) ((show List (El kk) from xs).length:Int) [])
     | _,_=>.fail
    | _=>.fail
   | _=>.fail
  | .builtin .append=>ji c.args.toList fun
   | [a,b]=>match c.argTypes[0]?,(c.argTypes[1]?).bind T.ty with
    | some t,some (.sl _ _)=>vZ T d t a b k
    | some t,some .str=>vZ T d t a b k
    | _,_=>.fail
   | _=>.fail
  | .builtin .min=>ji c.args.toList fun
   | .val (.int ik) x _ :: l=>MO false ik x l fun z=>put (.val (.int ik) z [])
   | _=>.fail
  | .builtin .max=>ji c.args.toList fun
   | .val (.int ik) x _ :: l=>MO true ik x l fun z=>put (.val (.int ik) z [])
   | _=>.fail
  | .value _=>Ky hi n (some d) c k
  | _=>.fail
 | _=>.fail
def Ab (T:iF) (hi:Hint) (n:Nat) (o:Oper) (k:List Wr→Prog α):Prog α:=match o.dst with
 | some d=>bif Nat.blt d hi.nt then (bif au d hi.parts then CY T o d k else bif au d hi.apps then FR T o d k else SK T hi n o d k) else .fail
 | none=>SN T hi n o k
end
variable {R:Type}
def refine (σ:St) (s:Nat) (b:Bool) (T:List Tag):St:={ σ with slots:=upd σ.slots s (.one (.val .bool b T)) }
def guardOf (ops:Array Oper) (o:Oper):Option (Option Nat×Bool):=match o.guard with
 | none=>none
 | some (g,want)=>some ((ops[g]?).bind (·.dst),want)
def guarded (σ:St) (ops:Array Oper) (o:Oper) (go:List Loc→St→Option R) (skip:List Loc→St→Option R):Option R:=match guardOf ops o with
 | none=>go [] σ
 | some (some s,want)=>match σ.slots s with
  | .one (.val .bool b T)=>if b=true then (bif want then go [.s s] (refine σ s true T) else skip [.s s] (refine σ s true T))
    else (bif want then skip [.s s] (refine σ s false T) else go [.s s] (refine σ s false T))
  | .C8 []=>skip [.s s] σ
  | _=>none
 | some (none,_)=>none
def BC (hi:Hint) (o:Oper):Bool:=match o.dst with
 | some d=>Nat.blt d hi.nt
 | none=>true
def Aa (o:Oper):List Wr:=match o.dst with
 | some d=>[.s d (.C8 [])]
 | none=>[]
def xX (T:iF) (hi:Hint) (n:Nat) (ops:Array Oper):List Oper→St→(St→Option R)→Option R
 | [],σ,K=>K σ
 | o :: l,σ,K=>guarded σ ops o
   (fun _ σ=>(Ab T hi n o .ret).run σ fun ws=>xX T hi n ops l (az ws σ) K)
   (fun _ σ=>bif BC hi o then xX T hi n ops l (az (Aa o) σ) K else none)
structure Eff where
 i:Nat
 rd:List Loc
 wr:List Loc
def MM (x:Loc):List Loc→Bool
 | []=>false
 | y :: l=>bif x.beq y then true else MM x l
def EL (a b:List Loc):Bool:=a.all fun x=>!MM x b
def binders (ops:Array Oper) (i:Nat):List Nat:=((((ops[i]?).getD default).after.toList.filter (Region.binds .any)).map (·.on))
def leads (ops:Array Oper):Nat→Nat→Nat→Bool
 | 0,_,_=>false
 | f+1,j,i=>au j (binders ops i) || (binders ops i).any fun b=>Nat.blt j b && leads ops f j b
def zJ (ops:Array Oper) (e:Eff) (l:List Eff):Bool:=
 (binders ops e.i).all (fun b=>Nat.blt b e.i) && l.all fun b=>au b.i (binders ops e.i) || ((EL b.wr (e.rd++e.wr) && EL b.rd e.wr) || leads ops 6 b.i e.i)
def BJ (T:iF) (hi:Hint) (n:Nat) (ops:Array Oper):List Oper→Nat→List Eff→St→(St→Option R)→Option R
 | [],_,_,σ,K=>K σ
 | o :: l,i,es,σ,K=>guarded σ ops o
   (fun g σ=>(Ab T hi n o .ret).Ao σ g fun ws rd=>
    bif zJ ops ⟨i,rd,ws.map Wr.loc⟩ es then BJ T hi n ops l (i+1) (⟨i,rd,ws.map Wr.loc⟩ :: es) (az ws σ) K else none)
   (fun g σ=>bif BC hi o && zJ ops ⟨i,g,(Aa o).map Wr.loc⟩ es then BJ T hi n ops l (i+1) (⟨i,g,(Aa o).map Wr.loc⟩ :: es) (az (Aa o) σ) K else none)
inductive FV where
 | undef
 | val (k:K) (ids:List Nat)
 | iE
 | ref (r:Nat)
 | ptr (r:Nat) (p:List (Option Nat))
 | iK (bt:TypeId) (k:K) (ids:List Nat)
 | oL
 | fn (f:Nat) (caps:List (TypeId×K×List Nat))
def I9:List (TypeId×K×List Nat)→List K
 | []=>[]
 | c :: l=>c.2.1 :: I9 l
def FV.ks:FV→List K
 | .val k _ | .iK _ k _=>[k]
 | .ptr _ p=>(fF.into 0 p).kin
 | .fn _ caps=>I9 caps
 | _=>[]
structure Gb where
 k:K
 own:List TypeId
 ids:List Nat
 kind:zC
 fixed:Bool
 keep:Bool
 log:Option (K×List TypeId×List TypeId)
def bq (σ:St) (tys:List TypeId):List Tag→Bool
 | []=>true
 | (r,n) :: l=>(bif fG r then true else match σ.roots r with
  | some R=>!R.bn && clean R.w n tys
  | none=>false) && bq σ tys l
def lT (rs:List Nat):List Tag→List Nat
 | []=>[]
 | (r,_) :: l=>bif (fG r || au r rs) && !au r (lT rs l) then r :: lT rs l else lT rs l
def shP:List Stp→List (Option Nat)
 | []=>[]
 | .fH n :: p=>some n :: shP p
 | .idx _ :: p=>none :: shP p
def CW (rs:List Nat):List (TypeId×Dat×List Tag)→List (TypeId×K×List Nat)
 | []=>[]
 | (t,d,tags) :: l=>(t,d.1,lT rs tags) :: CW rs l
def Oa (rs ex:List Nat):List Nat:=ex.filter fun i=>fG i || au i rs
def shA (rs ex:List Nat):AV→FV
 | .undef=>.undef
 | .val k _ tags=>.val k (lT rs tags++Oa rs ex)
 | .iE=>.iE
 | .ref r _=>.ref r
 | .o8 _ _ _=>.undef
 | .ptr r p _=>.ptr r (shP p)
 | .iK bt k _ tags=>.iK bt k (lT rs tags)
 | .oL=>.oL
 | .Bv _ _ _ _=>.undef
 | .ve _=>.undef
 | .part _ _ _ _ _=>.undef
 | .tq _ _ _ _=>.undef
 | .app _ _ _ _=>.undef
 | .fn f caps=>.fn f (CW rs caps)
def DV (t:TypeId) (ids:List Nat):Bool:=!Nat.beq t SENT || ids.all fG
def uH (σ:St) (rs:List Nat):(cs:List (TypeId×K×List Nat))→List (TypeId×Dat×List Tag)→Option (Cont (I9 cs))
 | [],[]=>some ()
 | (t,k,ids) :: cs,(t',d,tags) :: l=>bif Nat.beq t t' && bq σ (t :: k.tys) tags && kF (lT rs tags) ids && DV t ids then
   match bT d.1 k d.2,uH σ rs cs l with
   | some x,some c=>some (x,c)
   | _,_=>none
  else none
 | _,_=>none
def LJ (σ:St) (rs:List Nat):(sh:FV)→AV→Option (Cont sh.ks)
 | .undef,_=>some ()
 | .val k ids, .val k' x tags=>bif bq σ k.tys tags && kF (lT rs tags) ids then
   match bT k' k x with
   | some y=>some (y,())
   | none=>none
  else none
 | .iE, .iE=>some ()
 | .ref r, .ref r' g=>bif Nat.beq r r' && au r rs && (match σ.roots r with | some R=>Nat.beq R.g g | none=>false) then some () else none
 | .ptr r p, .ptr r' q h=>bif Nat.beq r r' && au r rs && (match σ.roots r with | some R=>clean R.h h (dW q R.k) | none=>false) then idxOf p q else none
 | .iK bt k ids, .iK bt' k' x tags=>bif Nat.beq bt bt' && bq σ (bt :: k.tys) tags && kF (lT rs tags) ids && DV bt ids then
   match bT k' k x with
   | some y=>some (y,())
   | none=>none
  else none
 | .oL, .oL=>some ()
 | .fn f cs, .fn f' caps=>bif Nat.beq f f' then uH σ rs cs caps else none
 | _,_=>none
def Ct:(cs:List (TypeId×K×List Nat))→Cont (I9 cs)→List (TypeId×Dat×List Tag)
 | [],_=>[]
 | (t,k,ids) :: cs,c=>(t,⟨k,c.1⟩,ids.map fun r=>(r,0)) :: Ct cs c.2
def Yx:(sh:FV)→Cont sh.ks→AV
 | .undef,_=>.undef
 | .val k ids,c=>.val k c.1 (ids.map fun r=>(r,0))
 | .iE,_=>.iE
 | .ref r,_=>.ref r 0
 | .ptr r p,c=>.ptr r (pathOf p c) 0
 | .iK bt k ids,c=>.iK bt k c.1 (ids.map fun r=>(r,0))
 | .oL,_=>.oL
 | .fn f cs,c=>.fn f (Ct cs c)
def YX (wd:List (Nat×List Nat)) (rs:List Nat) (σ:St):List Nat→List (Nat×FV)
 | []=>[]
 | s :: l=>(match σ.slots s with
  | .one a=>(s,shA rs (rA (2 * s) wd) a)
  | _=>(s, .undef)) :: YX wd rs σ l
def MC:List (Nat×FV)→List K
 | []=>[]
 | (_,sh) :: l=>sh.ks++MC l
def iI (r:Nat):List (Nat×K×List TypeId×List TypeId)→Option (K×List TypeId×List TypeId)
 | []=>none
 | (q,l) :: ls=>bif Nat.beq r q then some l else iI r ls
def YW (wd:List (Nat×List Nat)) (iJ:List (Nat×K×List TypeId×List TypeId)) (rs:List Nat) (σ:St):List Nat→Option (List (Nat×Gb))
 | []=>some []
 | r :: l=>match σ.roots r,YW wd iJ rs σ l with
  | some R,some q=>some ((r,⟨R.k,R.own,lT rs R.tags++(Oa rs (rA (2 * r+1) wd)).filter (fun q=>!Nat.beq q r),R.kind,R.fixed,R.keep,iI r iJ⟩) :: q)
  | _,_=>none
def Qj:List (Nat×Gb)→List K
 | []=>[]
 | (_,sh) :: l=>sh.k :: Qj l
def Xq (σ:St) (rs:List Nat):(l:List (Nat×FV))→Option (Cont (MC l))
 | []=>some ()
 | (s,sh) :: l=>match σ.slots s with
  | .one a=>match LJ σ rs sh a,Xq σ rs l with
   | some c,some d=>some (Cont.app sh.ks (MC l) c d)
   | _,_=>none
  | _=>match sh with
   | .undef=>match Xq σ rs l with
    | some d=>some d
    | none=>none
   | _=>none
def PO:zC→zC→Bool
 | .anon, .anon | .par, .par | .dead, .dead=>true
 | .var a, .var b=>Nat.beq a b
 | _,_=>false
def wO (R:Root):Option (List TypeId×List TypeId)→Bool
 | some (wt,ht)=>kF R.w wt && kF R.ew wt && kF R.h ht && kF R.eh ht && Nat.beq R.g 0
 | none=>true
def U5 (R:Root):Option (K×List TypeId×List TypeId)→Bool
 | some (k,l)=>R.k.beq k && wO R (some l)
 | none=>true
def rH (R:Root) (l:List TypeId):Root:={ R with own:=bG R.own l,w:=l++R.w }
def Pp (l:List TypeId) (r:Nat) (σ:St):St:=match l with
 | []=>σ
 | l=>match σ.roots r with
  | some R=>bif R.bn || !bq σ R.wH R.tags || !R.own.any (fun t=>au t l) then σ else { σ with roots:=upd σ.roots r (some (rH R l)) }
  | none=>σ
def xq (hi:Hint):List Nat→St→St
 | [],σ=>σ
 | r :: rs,σ=>xq hi rs (Pp (rA (1000000+r) hi.less) r σ)
def Y7 (σ:St) (rs:List Nat):(l:List (Nat×Gb))→Option (Cont (Qj l))
 | []=>some ()
 | (r,sh) :: l=>match σ.roots r with
  | some R=>bif bq σ R.wH R.tags && kF (lT rs R.tags) sh.ids && lV sh.k R.own sh.own && PO R.kind sh.kind && (R.fixed == sh.fixed) && (R.keep == sh.keep) && !R.bn && U5 R sh.log then
    match bT R.k sh.k R.x,Y7 σ rs l with
    | some x,some d=>some (x,d)
    | _,_=>none
   else none
  | none=>none
def mkS:(l:List (Nat×FV))→Cont (MC l)→Nat→sN
 | [],_,_=>.one .undef
 | (s,sh) :: l,c,n=>bif Nat.beq n s then .one (Yx sh (Cont.fst sh.ks (MC l) c)) else mkS l (Cont.snd sh.ks (MC l) c) n
def Yw:Option (K×List TypeId×List TypeId)→List TypeId
 | some (_,l,_)=>l
 | none=>[]
def Yv:Option (K×List TypeId×List TypeId)→List TypeId
 | some (_,_,l)=>l
 | none=>[]
def SB:(l:List (Nat×Gb))→Cont (Qj l)→Nat→Option Root
 | [],_,_=>none
 | (r,sh) :: l,c,n=>bif Nat.beq n r then some { k:=sh.k,x:=c.1,own:=sh.own,tags:=sh.ids.map fun r=>(r,0),w:=[],h:=[],g:=0,kind:=sh.kind,fixed:=sh.fixed,keep:=sh.keep,ew:=Yw sh.log,eh:=Yv sh.log } else SB l c.2 n
structure R3 where
 ss:List (Nat×FV)
 rs:List (Nat×Gb)
abbrev R3.V (s:R3):Type:=Cont (MC s.ss++Qj s.rs)
def Vi (wd:List (Nat×List Nat)) (iJ:List (Nat×K×List TypeId×List TypeId)) (ss rs:List Nat) (σ:St):Option R3:=match YW wd iJ rs σ rs with
 | some q=>bif iJ.all (fun p=>au p.1 rs) then some ⟨YX wd rs σ ss,q⟩ else none
 | none=>none
def LK (rs:List Nat) (s:R3) (σ:St):Option s.V:=match Xq σ rs s.ss,Y7 σ rs s.rs with
 | some a,some b=>some (Cont.app (MC s.ss) (Qj s.rs) a b)
 | _,_=>none
def FB (s:R3) (c:s.V):St:=⟨mkS s.ss (Cont.fst _ _ c),SB s.rs (Cont.snd _ _ c)⟩
inductive Ex where
 | normal
 | exit (id:Nat)
 | ret
def rounds {V:Type} (B:(V→Option R)→V→Option R):Nat→V→Option R
 | 0=>fun _=>none
 | n+1=>B (rounds B n)
def GM (b:Nat):List (Nat×List Nat×List Nat)→Option (List Nat×List Nat)
 | []=>none
 | (c,h) :: l=>bif Nat.beq b c then some h else GM b l
def zV {A:Type} (f:A→A→Bool):List A→List A→Bool
 | [],[]=>true
 | a :: l,b :: m=>f a b && zV f l m
 | _,_=>false
def xW:(k:K)→El k→El k→Bool
 | .int _,x,y=>decide ((show Int from x)=y)
 | .bool,x,y=>(show Bool from x) == y
 | .str,x,y=>decide ((show List Int from x)=y)
 | .sl _ k,xs,ys=>zV (xW k) xs ys
 | .unit,_,_=>true
 | .pair a b,x,y=>xW a x.1 y.1 && xW b x.2 y.2
 | .st f,x,y=>xW f x y
 | .gap _,_,_=>true
 | .id _,x,y=>Nat.beq x y
def uG:(ks:List K)→Cont ks→Cont ks→Bool
 | [],_,_=>true
 | k :: ks,c,d=>xW k c.1 d.1 && uG ks c.2 d.2
def R5 (ks:List K):Option (Cont ks)→Option (Cont ks)→Option (Cont ks)
 | some a,some b=>bif uG ks a b then some a else none
 | _,_=>none
theorem Hw {A:Type} {f:A→A→Bool} (hf:∀x y,f x y=true→x=y):∀{l m:List A},zV f l m=true→l=m
 | [],[],_=>rfl
 | a :: l,b :: m,h=>by
  simp only [zV,agi] at h
  rw [hf a b h.1,Hw hf h.2]
 | [],_ :: _,h=>by simp [zV] at h
 | _ :: _,[],h=>by simp [zV] at h
theorem Cr {A:Type} {f:A→A→Bool} (hf:∀x,f x x=true):∀{l:List A},zV f l l=true
 | []=>rfl
 | a :: l=>by simp [zV,hf a,Cr hf]
theorem N8:∀{k:K} {x y:El k},xW k x y=true→x=y:=by
 intro k
 induction k with
 | int ik=>intro x y h; exact of_decide_eq_true h
 | bool=>intro x y h; exact eq_of_beq h
 | str=>intro x y h; exact of_decide_eq_true h
 | sl e k ih=>intro x y h; exact Hw (fun x y h=>ih h) h
 | unit=>intro x y _; rfl
 | pair a b iha ihb=>
  intro x y h
  simp only [xW,agi] at h
  exact Prod.ext (iha h.1) (ihb h.2)
 | st f ih=>intro x y h; exact ih (x:=x) (y:=y) h
 | gap n=>intro x y _; rfl
 | id e=>intro x y h; exact agf h
theorem Jp:∀{k:K} {x:El k},xW k x x=true:=by
 intro k
 induction k with
 | int ik=>intro x; exact decide_eq_true rfl
 | bool=>intro x; exact beq_self_eq_true (α:=Bool) x
 | str=>intro x; exact decide_eq_true rfl
 | sl e k ih=>intro x; exact Cr fun x=>ih
 | unit=>intro x; rfl
 | pair a b iha ihb=>intro x; simp [xW,iha,ihb]
 | st f ih=>intro x; exact ih (x:=x)
 | gap n=>intro x; rfl
 | id e=>intro x; exact Nat.beq_refl x
theorem Bu:∀{ks:List K} {c d:Cont ks},uG ks c d=true→c=d
 | [],_,_,_=>rfl
 | k :: ks,c,d,h=>by
  simp only [uG,agi] at h
  exact Prod.ext (N8 h.1) (Bu h.2)
theorem xV:∀{ks:List K} {c:Cont ks},uG ks c c=true
 | [],_=>rfl
 | k :: ks,c=>by simp [uG,Jp,xV]
theorem NI {ks:List K} (a:Option (Cont ks)):R5 ks a a=a:=by
 cases a with
 | none=>rfl
 | some a=>simp [R5,xV]
theorem NJ {ks:List K} {a b:Option (Cont ks)} {z:Cont ks} (h:R5 ks a b=some z):a=some z∧b=some z:=by
 cases a with
 | none=>simp [R5] at h
 | some a=>
  cases b with
  | none=>simp [R5] at h
  | some b=>
   simp only [R5] at h
   cases hb:uG ks a b with
   | false=>rw [hb] at h; simp at h
   | true=>
    rw [hb] at h
    simp only [cond_true,agb] at h
    have:=Bu hb
    subst h
    exact ⟨rfl,by rw [this]⟩
def den (T:iF) (hi:Hint) (n:Nat) (ag:Option R→Option R→Option R):Nat→Code→St→(Ex→St→Option R)→Option R
 | _, .skip,σ,K=>K .normal σ
 | _, .region _ ops draw,σ,K=>bif draw then BJ T hi n ops ops.toList 0 [] σ (K .normal) else xX T hi n ops ops.toList σ (K .normal)
 | b, .seq x y,σ,K=>den T hi n ag b x σ fun
  | .normal,σ'=>den T hi n ag b y σ' K
  | e,σ'=>K e σ'
 | b, .cond c x y,σ,K=>(dL c fun a=>.ret a).run σ fun
  | .ve e=>if e=true then ag (den T hi n ag b x σ K) (den T hi n ag b y σ K) else den T hi n ag b y σ K
  | a=>(asBool a .ret).run σ fun t=>if t=true then den T hi n ag b x σ K else den T hi n ag b y σ K
 | _, .block id x,σ,K=>den T hi n ag id x σ fun
  | .exit i,σ'=>bif Nat.beq i id then K .normal σ' else K (.exit i) σ'
  | e,σ'=>K e σ'
 | b, .loop x,σ,K=>match GM b hi.loops with
  | some (ss,rs)=>match Vi hi.wide hi.iJ ss rs (xq hi rs σ) with
   | some s=>match LK rs s (xq hi rs σ) with
    | some c=>rounds (fun L v=>den T hi n ag b x (FB s v) fun
     | .normal,σ'=>match LK rs s (xq hi rs σ') with
      | some v'=>L v'
      | none=>none
     | e,σ'=>K e σ') n c
    | none=>none
   | none=>none
  | none=>none
 | _, .exit id,σ,K=>K (.exit id) σ
 | _, .ret,σ,K=>K .ret σ
 | _,_,_,_=>none
def jd:(ps:List fF)→(i:Nat)→Cont (kin ps)→List (Nat×AV)
 | [],_,_=>[]
 | .val k gM :: ps,i,c=>(i, .val k c.1 (bif k.flat then [] else (mW i,0) :: gM.map fun j=>(ak j,0))) :: jd ps (i+1) c.2
 | .ro k :: ps,i,c=>(i, .iK SENT k c.1 [(mW i,0)]) :: jd ps (i+1) c.2
 | .rw _ _ _ _ :: ps,i,c=>(i, .ptr (ak i) [] 0) :: jd ps (i+1) c.2
 | .jG _ _ _ :: ps,i,c=>(i, .ref (ak i) 0) :: jd ps (i+1) c.2
 | .own _ _ :: ps,i,c=>(i, .ref (ak i) 0) :: jd ps (i+1) c.2
 | .fn f ks :: ps,i,c=>(i, .fn f (uC i ks (Cont.fst ks (kin ps) c))) :: jd ps (i+1) (Cont.snd ks (kin ps) c)
 | .into _ p :: ps,i,c=>(i, .iE) :: jd ps (i+1) (Cont.snd (fF.into 0 p).kin (kin ps) c)
where uC (i:Nat):(ks:List K)→Cont ks→List (TypeId×Dat×List Tag)
 | [],_=>[]
 | k :: ks,c=>(SENT,⟨k,c.1⟩,[(mW i,0)]) :: uC i ks c.2
def gp:(ps:List fF)→(i:Nat)→Cont (kin ps)→List (Nat×Root)
 | [],_,_=>[]
 | .val _ _ :: ps,i,c=>gp ps (i+1) c.2
 | .ro _ :: ps,i,c=>gp ps (i+1) c.2
 | .rw k ow _ _ :: ps,i,c=>(ak i,aI k c.1 ow (bif k.tys.all (fun t=>au t ow) then [] else [(mW i,0)]) .par true) :: gp ps (i+1) c.2
 | .jG k ow _ :: ps,i,c=>(ak i,{ aI k c.1 ow (bif k.tys.all (fun t=>au t ow) then [] else [(mW i,0)]) .anon true with fixed:=true }) :: gp ps (i+1) c.2
 | .own k ow :: ps,i,c=>(ak i,aI k c.1 ow (bif k.tys.all (fun t=>au t ow) then [] else [(mW i,0)]) .anon) :: gp ps (i+1) c.2
 | .fn _ ks :: ps,i,c=>gp ps (i+1) (Cont.snd ks (kin ps) c)
 | .into _ p :: ps,i,c=>gp ps (i+1) (Cont.snd (fF.into 0 p).kin (kin ps) c)
def oI:List (Nat×AV)→Nat→sN
 | [],_=>.one .undef
 | (s,a) :: l,n=>bif Nat.beq n s then .one a else oI l n
def gu:List (Nat×Root)→Nat→Option Root
 | [],_=>none
 | (s,a) :: l,n=>bif Nat.beq n s then some a else gu l n
def bZ (ps:List fF) (c:Cont (kin ps)):St:=⟨oI (jd ps 0 c),gu (gp ps 0 c)⟩
def nK (exts gM:List Nat) (tags:List Tag):Bool:=tags.all fun t=>
 bif fG t.1 then au (t.1 / 4) exts else bif Nat.beq (t.1 % 4) 0 then au (t.1 / 4) gM else true
def JV {α:Type} (T:iF) (own:Bool) (rv:ResultVar) (k:AV→Prog α):Prog α:=match rv with
 | .tmp t=>dL (.tmp t) k
 | .cell t ty=>dL (.tmp t) fun a=>yj T own ty a k
def GK {α:Type} (T:iF):(rs:List uw)→List ResultVar→(Cont (gV rs)→List gQ→List (List Tag)→Prog α)→Prog α
 | [],[],k=>k () [] []
 | .val kk exts gM :: rs,v :: vs,k=>
  let go (x:El kk) (tags:List Tag):Prog α:=bif kk.flat || nK exts gM tags then GK T rs vs fun c ts tg=>k (x,c) ts (tags :: tg) else .fail
  JV T false v fun a=>match a with
  | .iE=>match kk,go with
   | .sl _ _,go=>go [] []
   | _,_=>.fail
  | a=>qG a fun k' x tags=>match bT k' kk x with
   | some y=>go y (bif kk.flat then [] else tags)
   | none=>.fail
 | .own kk ow exts gM :: rs,v :: vs,k=>JV T true v fun a=>sH kk a fun tk=>match bT tk.k kk tk.x with
  | some y=>bif kF (kk.tys.filter fun t=>au t ow) tk.own && (kk.tys.all (fun t=>au t ow) || nK exts gM tk.tags) then GK T rs vs fun c ts tg=>k (y,c) (tk :: ts) tg else .fail
  | none=>.fail
 | _,_,_=>.fail
def AB (σ:St) (i:Nat):Option Root:=match σ.roots (ak i) with
 | some R=>bif R.bn || !bq σ R.wH R.tags then none else some R
 | none=>none
def jS (σ:St):(ps:List fF)→Nat→Option (Cont (jE ps))
 | [],_=>some ()
 | .rw k ow wt ht :: ps,i=>match AB σ i,jS σ ps (i+1) with
  | some R,some d=>bif lV k R.own ow && wO R (some (wt,ht)) && (k.tys.all (fun t=>au t ow) || nK [i] [] R.tags) then
    match bT R.k k R.x with
    | some x=>some (x,d)
    | none=>none
   else none
  | _,_=>none
 | .jG k ow wt :: ps,i=>match AB σ i,jS σ ps (i+1) with
  | some R,some d=>bif lV k R.own ow && wO R (some (wt,k.tys)) && (k.tys.all (fun t=>au t ow) || nK [i] [] R.tags) then
    match bT R.k k R.x with
    | some x=>some (x,d)
    | none=>none
   else none
  | _,_=>none
 | .val _ _ :: ps,i=>jS σ ps (i+1)
 | .ro _ :: ps,i=>jS σ ps (i+1)
 | .own _ _ :: ps,i=>jS σ ps (i+1)
 | .fn _ _ :: ps,i=>jS σ ps (i+1)
 | .into _ _ :: ps,i=>jS σ ps (i+1)
def fin (T:iF) (ps:List fF) (rs:List uw) (rv:List ResultVar) (σ:St):Option (Cont (gV rs++jE ps)):=
 (GK T rs rv fun c ts tg=>bif yG (ts.flatMap (·.ws)) (ts.flatMap (·.tags)++tg.flatten) then .ret (c,ts.flatMap (·.ws)) else .fail:Prog (Cont (gV rs)×List Wr)).run σ fun q=>
  match jS (az q.2 σ) ps 0 with
  | some d=>some (Cont.app (gV rs) (jE ps) q.1 d)
  | none=>none
def Root.O3 (R:Root) (t:TypeId):Bool:=match R.kind with
 | .var u=>Nat.beq t u
 | _=>false
def RF {α:Type} (t:TypeId) (kk:K) (ow:List TypeId) (exts:List Nat) (a:AV) (k:El kk→Nat→Prog α):Prog α:=match a with
 | .ptr r [] _=>oN r fun R=>bif R.O3 t && kF (kk.tys.filter fun t=>au t ow) R.own && (kk.tys.all (fun t=>au t ow) || nK exts [] R.tags) then
   match bT R.k kk R.x with
   | some y=>k y r
   | none=>.fail
  else .fail
 | _=>.fail
def cutV {α:Type} (j:Nat) (a:AV) (k:Int→Prog α):Prog α:=match a with
 | .ref r g=>bif Nat.beq r (ak j) && Nat.beq g 0 then oN r fun R=>bif Nat.beq R.g 0 then match R.k,R.x with
   | .sl _ kk,xs=>k ((show List (El kk) from xs).length:Int)
   | _,_=>.fail
  else .fail
  else .fail
 | .part r g lo hi _=>bif Nat.beq r (ak j) && Nat.beq g 0 && Nat.beq lo 0 then k (hi:Int) else .fail
 | _=>.fail
def QY (T:iF) (ps:List fF):(rs:List uw)→List ResultVar→St→Option (Cont (gV rs++jE ps))
 | [.ptr t kk ow exts],[rv],σ=>(JV T false rv fun a=>RF t kk ow exts a fun y r=>.ret (y,r):Prog (El kk×Nat)).run σ fun q=>
   match jS (az [.r q.2 none] σ) ps 0 with
   | some d=>some (q.1,d)
   | none=>none
 | [.into j []],[rv],σ=>(JV T false rv fun a=>cutV j a fun m=>.ret m:Prog Int).run σ fun m=>
   match jS σ ps 0 with
   | some d=>some (m,d)
   | none=>none
 | rs,sG,σ=>fin T ps rs sG σ
def rP:List fF→Nat→List (Nat×K×List TypeId×List TypeId)
 | [],_=>[]
 | .rw k _ wt ht :: ps,i=>(ak i,k,wt,ht) :: rP ps (i+1)
 | .jG k _ wt :: ps,i=>(ak i,k,wt,k.tys) :: rP ps (i+1)
 | _ :: ps,i=>rP ps (i+1)
def QT (T:iF) (hi:Hint) (fn:Func) (ps:List fF) (rs:List uw) (n:Nat) (c:Cont (kin ps)):Option (Cont (gV rs++jE ps)):=
 match fn.body with
 | some code=>den T { hi with nt:=fn.ntmps,iJ:=rP ps 0 } n (R5 (gV rs++jE ps)) 0 code (bZ ps c) fun
  | .ret,σ=>QY T ps rs fn.results.toList σ
  | .normal,σ=>QY T ps rs fn.results.toList σ
  | _,_=>none
 | none=>none
end
section
open Go
class Fr where
 free:Nat→Prop
 obj:Nat→Option Obj
 ig:Nat→Value
 U0:ig 0=.slice none 0 0
 Yr:∀i,∃a n c,ig i=.slice a n c
abbrev adp:Fr:=⟨fun _=>False,fun _=>none,fun _=>.slice none 0 0,rfl,fun _=>⟨none,0,0,rfl⟩⟩
variable [Fr]
structure yJ (n lo hi:Nat):Prop where
 le:lo≤hi
 out:∀i,i<n→¬(lo≤i∧i<hi)
instance {n lo hi:Nat}:CoeFun (yJ n lo hi) (fun _=>∀i,i<n→¬(lo≤i∧i<hi)):=⟨yJ.out⟩
theorem yJ.zero {n:Nat}:yJ n 0 0:=⟨agt _,fun _ _=>by omega⟩
abbrev Heap:=Nat→Option Obj
def hp (w:World):Heap:=fun b=>w.heap[b]?
def cellAt (h:Heap) (b o:Nat):Option Value:=match h b with
 | some (.cells c _ _)=>c[o]?
 | _=>none
def nH (h:Heap) (b:Nat):Option TypeId:=match h b with
 | some (.cells _ e _)=>some e
 | _=>none
def Cells (h:Heap) (b o:Nat) (cs:List Value):Prop:=∀i,i<cs.length→cellAt h b (o+i)=cs[i]?
theorem uD (w:World) (b o:Nat):w.cell? ⟨b,o,none⟩=cellAt (hp w) b o:=by
 unfold World.cell? cellAt hp
 cases w.heap[b]? with
 | none=>rfl
 | some x=>cases x <;> rfl
theorem qN {h h':Heap} {b:Nat} (e:h' b=h b) (o:Nat):cellAt h' b o=cellAt h b o:=by unfold cellAt; rw [e]
def ry (h:Heap) (b:Nat) (e:TypeId):Prop:=nH h b=some e∨Fr.free b
theorem BF {h h':Heap} {b:Nat} (e:h' b=h b):nH h' b=nH h b:=by unfold nH; rw [e]
theorem BD {h h':Heap} {b:Nat} {t:TypeId} (e:h' b=h b) (H:ry h b t):ry h' b t:=H.imp (fun H=>(BF e).trans H) id
theorem Cells.congr {h h':Heap} {b o:Nat} {cs:List Value} (e:h' b=h b) (H:Cells h b o cs):Cells h' b o cs:=fun i hi=>(qN e _).trans (H i hi)
def CO:IntKind→Int→Prop
 | .u8,n=>0≤n∧n<256
 | _,_=>True
def Vw (h:Heap) (ok:Nat→Prop):(k:K)→El k→List Value→Prop
 | .int ik,n,cs=>cs=[.int ik n]∧CO ik n
 | .bool,b,cs=>cs=[.bool b]
 | .str,s,cs=>∃B:ByteArray,cs=[.string B]∧(show List Int from s)=bytesOf B
 | .sl e k,xs,cs=>∃a n c,cs=[.slice a n c]∧n=(show List (El k) from xs).length∧n≤c∧
   (0<n→∃b o,a=some ⟨b,o,none⟩∧ok b∧ry h b e∧
    ∀(i:Nat) (hi:i<(show List (El k) from xs).length),∃ds,Cells h b (o+i * k.size) ds∧Vw h ok k ((show List (El k) from xs)[i]) ds)
 | .unit,_,cs=>cs=[]
 | .pair a b,x,cs=>∃c1 c2,cs=c1++c2∧Vw h ok a x.1 c1∧Vw h ok b x.2 c2
 | .st f,x,cs=>Vw h ok f x cs
 | .gap n,_,cs=>cs.length=n
 | .id _,i,cs=>cs=[Fr.ig (show Nat from i)]
def Ow (h:Heap) (own:List TypeId) (ok:Nat→Prop):(k:K)→El k→List Value→List Nat→Prop
 | .sl e k,xs,cs,fo=>if au e own=true then
   ∃a n c,cs=[.slice a n c]∧n=(show List (El k) from xs).length∧n≤c∧
    ((c=0∧fo=[])∨∃b o arr lo hi,a=some ⟨b,o,none⟩∧h b=some (.cells arr e (lo,hi))∧yJ arr.size lo hi∧o+c * k.size≤arr.size∧
     ∃bC:List (List Nat),bC.length=(show List (El k) from xs).length∧fo.Perm (b :: bC.flatten)∧
      ∀(i:Nat) (hi:i<(show List (El k) from xs).length),∃ds,Cells h b (o+i * k.size) ds∧Ow h own ok k ((show List (El k) from xs)[i]) ds (bC.getD i []))
  else fo=[]∧Vw h ok (.sl e k) xs cs
 | .pair a b,x,cs,fo=>∃c1 c2 f1 f2,cs=c1++c2∧fo.Perm (f1++f2)∧Ow h own ok a x.1 c1 f1∧Ow h own ok b x.2 c2 f2
 | .st f,x,cs,fo=>Ow h own ok f x cs fo
 | .int ik,n,cs,fo=>fo=[]∧Vw h ok (.int ik) n cs
 | .bool,n,cs,fo=>fo=[]∧Vw h ok .bool n cs
 | .str,n,cs,fo=>fo=[]∧Vw h ok .str n cs
 | .unit,_,cs,fo=>fo=[]∧cs=[]
 | .gap n,_,cs,fo=>fo=[]∧cs.length=n
 | .id e,i,cs,fo=>fo=[]∧Vw h ok (.id e) i cs
theorem jQ {h:Heap} {ok:Nat→Prop}:∀{k:K} {x:El k} {cs:List Value},Vw h ok k x cs→cs.length=k.size:=by
 intro k
 induction k with
 | int ik=>intro x cs H; rw [H.1]; rfl
 | bool=>intro x cs H; rw [show cs=_ from H]; rfl
 | id e=>intro x cs H; rw [show cs=_ from H]; rfl
 | str=>intro x cs H; obtain ⟨B,rfl,_⟩:=H; rfl
 | sl e k ih=>intro x cs H; obtain ⟨a,n,c,rfl,_⟩:=H; rfl
 | unit=>intro x cs H; rw [show cs=_ from H]; rfl
 | pair a b iha ihb=>intro x cs H; obtain ⟨c1,c2,rfl,h1,h2⟩:=H; simp [K.size,iha h1,ihb h2]
 | st f ih=>intro x cs H; exact ih (x:=x) H
 | gap n=>intro x cs H; exact H
theorem fO {h h':Heap} {ok ok':Nat→Prop} (hh:∀b,ok b→h' b=h b) (hk:∀b,ok b→ok' b):∀{k:K} {x:El k} {cs:List Value},Vw h ok k x cs→Vw h' ok' k x cs:=by
 intro k
 induction k with
 | int ik=>intro x cs H; exact H
 | bool=>intro x cs H; exact H
 | id e=>intro x cs H; exact H
 | str=>intro x cs H; exact H
 | sl e k ih=>
  intro x cs H
  obtain ⟨a,n,c,e1,e2,e3,H⟩:=H
  refine ⟨a,n,c,e1,e2,e3,fun hn=>?_⟩
  obtain ⟨b,o,ea,hb,ht,H⟩:=H hn
  refine ⟨b,o,ea,hk b hb,BD (hh b hb) ht,fun i hi=>?_⟩
  obtain ⟨ds,h1,h2⟩:=H i hi
  exact ⟨ds,h1.congr (hh b hb),ih h2⟩
 | unit=>intro x cs H; exact H
 | pair a b iha ihb=>intro x cs H; obtain ⟨c1,c2,e,h1,h2⟩:=H; exact ⟨c1,c2,e,iha h1,ihb h2⟩
 | st f ih=>intro x cs H; exact ih (x:=x) H
 | gap n=>intro x cs H; exact H
theorem iG {h h':Heap} {ok ok':Nat→Prop}:∀{k:K} {x:El k} {cs:List Value},k.flat=true→Vw h ok k x cs→Vw h' ok' k x cs:=by
 intro k
 induction k with
 | sl e k ih=>intro x cs h; simp [K.flat] at h
 | gap n=>intro x cs h; simp [K.flat] at h
 | pair a b iha ihb=>
  intro x cs h H
  simp only [K.flat,agi] at h
  obtain ⟨c1,c2,e,h1,h2⟩:=H
  exact ⟨c1,c2,e,iha h.1 h1,ihb h.2 h2⟩
 | st f ih=>intro x cs h H; exact ih (x:=x) h H
 | _=>intro x cs _ H; exact H
theorem A8 {h:Heap} {ok:Nat→Prop}:∀{k:K} {x:El k} {cs:List Value} (ts:List TypeId),(∀t∈k.tys,t∈ts)→Vw h ok k x cs→Vw h (fun b=>ok b∧∃t∈ts,ry h b t) k x cs:=by
 intro k
 induction k with
 | int ik=>intro x cs ts _ H; exact H
 | bool=>intro x cs ts _ H; exact H
 | id e=>intro x cs ts _ H; exact H
 | str=>intro x cs ts _ H; exact H
 | sl e k ih=>
  intro x cs ts hts H
  obtain ⟨a,n,c,e1,e2,e3,H⟩:=H
  refine ⟨a,n,c,e1,e2,e3,fun hn=>?_⟩
  obtain ⟨b,o,ea,hb,ht,H⟩:=H hn
  refine ⟨b,o,ea,⟨hb,e,hts e (by simp [K.tys]),ht⟩,ht,fun i hi=>?_⟩
  obtain ⟨ds,h1,h2⟩:=H i hi
  exact ⟨ds,h1,ih ts (fun t h=>hts t (by simp [K.tys,h])) h2⟩
 | unit=>intro x cs ts _ H; exact H
 | pair a b iha ihb=>
  intro x cs ts hts H
  obtain ⟨c1,c2,e,h1,h2⟩:=H
  exact ⟨c1,c2,e,iha ts (fun t h=>hts t (by simp [K.tys,h])) h1,ihb ts (fun t h=>hts t (by simp [K.tys,h])) h2⟩
 | st f ih=>intro x cs ts hts H; exact ih (x:=x) ts hts H
 | gap n=>intro x cs ts _ H; exact H
theorem dh {h:Heap} {own:List TypeId} {ok:Nat→Prop}:∀{k:K} {x:El k} {cs:List Value} {fo:List Nat},Ow h own ok k x cs fo→cs.length=k.size:=by
 intro k
 induction k with
 | int ik=>intro x cs fo H; exact jQ H.2
 | bool=>intro x cs fo H; exact jQ H.2
 | id e=>intro x cs fo H; exact jQ H.2
 | str=>intro x cs fo H; exact jQ H.2
 | sl e k ih=>
  intro x cs fo H
  unfold Ow at H
  split at H
  ·obtain ⟨a,n,c,rfl,_⟩:=H; rfl
  ·exact jQ H.2
 | unit=>intro x cs fo H; rw [H.2]; rfl
 | pair a b iha ihb=>intro x cs fo H; obtain ⟨c1,c2,f1,f2,rfl,_,h1,h2⟩:=H; simp [K.size,iha h1,ihb h2]
 | st f ih=>intro x cs fo H; exact ih (x:=x) H
 | gap n=>intro x cs fo H; exact H.2
theorem oK {bC:List (List Nat)} {i:Nat} {b:Nat} (h:b∈bC.getD i []):b∈bC.flatten:=by
 rw [agq] at h
 cases hi:bC[i]? with
 | none=>rw [hi] at h; simp at h
 | some l=>rw [hi] at h; exact List.mem_flatten.2 ⟨l,List.mem_of_getElem? hi,by simpa using h⟩
theorem bz {h h':Heap} {own:List TypeId} {ok ok':Nat→Prop} (hh:∀b,ok b→h' b=h b) (hk:∀b,ok b→ok' b) :
  ∀{k:K} {x:El k} {cs:List Value} {fo:List Nat},(∀b∈fo,h' b=h b)→Ow h own ok k x cs fo→Ow h' own ok' k x cs fo:=by
 intro k
 induction k with
 | int ik=>intro x cs fo _ H; exact ⟨H.1,fO hh hk H.2⟩
 | bool=>intro x cs fo _ H; exact ⟨H.1,fO hh hk H.2⟩
 | id e=>intro x cs fo _ H; exact ⟨H.1,fO hh hk H.2⟩
 | str=>intro x cs fo _ H; exact ⟨H.1,fO hh hk H.2⟩
 | sl e k ih=>
  intro x cs fo hfo H
  unfold Ow at H ⊢
  split
  ·rename_i hm
   rw [if_pos hm] at H
   obtain ⟨a,n,c,e1,e2,e3,H⟩:=H
   refine ⟨a,n,c,e1,e2,e3, ?_⟩
   rcases H with H | ⟨b,o,arr,lo,hi,ea,hb,hf,hs,bC,hl,hp,H⟩
   ·exact .inl H
   ·have hbb:h' b=h b:=hfo b (hp.mem_iff.2 (by simp))
    refine .inr ⟨b,o,arr,lo,hi,ea,hbb.trans hb,hf,hs,bC,hl,hp,fun i hi=>?_⟩
    obtain ⟨ds,h1,h2⟩:=H i hi
    exact ⟨ds,h1.congr hbb,ih (fun b' hb'=>hfo b' (hp.mem_iff.2 (by simp [oK hb']))) h2⟩
  ·rename_i hm
   rw [if_neg hm] at H
   exact ⟨H.1,fO hh hk H.2⟩
 | unit=>intro x cs fo _ H; exact H
 | pair a b iha ihb=>
  intro x cs fo hfo H
  obtain ⟨c1,c2,f1,f2,e,hp,h1,h2⟩:=H
  exact ⟨c1,c2,f1,f2,e,hp,iha (fun b hb=>hfo b (hp.mem_iff.2 (by simp [hb]))) h1,ihb (fun b hb=>hfo b (hp.mem_iff.2 (by simp [hb]))) h2⟩
 | st f ih=>intro x cs fo hfo H; exact ih (x:=x) hfo H
 | gap n=>intro x cs fo _ H; exact H
theorem oZ {h:Heap} {own:List TypeId} {ok:Nat→Prop}:∀{k:K} {x:El k} {cs:List Value} {fo:List Nat} (ts:List TypeId),(∀t∈aS own k,t∈ts)→Ow h own ok k x cs fo→Ow h own (fun b=>ok b∧∃t∈ts,ry h b t) k x cs fo:=by
 intro k
 induction k with
 | int ik=>intro x cs fo ts _ H; exact H
 | bool=>intro x cs fo ts _ H; exact H
 | id e=>intro x cs fo ts _ H; exact H
 | str=>intro x cs fo ts _ H; exact H
 | sl e k ih=>
  intro x cs fo ts hts H
  unfold Ow at H ⊢
  split
  ·rename_i hm
   rw [if_pos hm] at H
   obtain ⟨a,n,c,e1,e2,e3,H⟩:=H
   refine ⟨a,n,c,e1,e2,e3, ?_⟩
   rcases H with H | ⟨b,o,arr,lo,hi,ea,hb,hf,hs,bC,hl,hp,H⟩
   ·exact .inl H
   ·refine .inr ⟨b,o,arr,lo,hi,ea,hb,hf,hs,bC,hl,hp,fun i hi=>?_⟩
    obtain ⟨ds,h1,h2⟩:=H i hi
    exact ⟨ds,h1,ih ts (fun t ht=>hts t (by simp [aS,hm,ht])) h2⟩
  ·rename_i hm
   rw [if_neg hm] at H
   exact ⟨H.1,A8 ts (fun t ht=>hts t (by simpa [aS,hm,K.tys] using ht)) H.2⟩
 | unit=>intro x cs fo ts _ H; exact H
 | pair a b iha ihb=>
  intro x cs fo ts hts H
  obtain ⟨c1,c2,f1,f2,e,hp,h1,h2⟩:=H
  exact ⟨c1,c2,f1,f2,e,hp,iha ts (fun t h=>hts t (by simp [aS,h])) h1,ihb ts (fun t h=>hts t (by simp [aS,h])) h2⟩
 | st f ih=>intro x cs fo ts hts H; exact ih (x:=x) ts hts H
 | gap n=>intro x cs fo ts _ H; exact H
theorem jK {h:Heap} {own:List TypeId} {ok:Nat→Prop} (ok':Nat→Prop) (hk:∀b,ok b→ok' b) :
  ∀{k:K} {x:El k} {cs:List Value} {fo:List Nat},(∀b∈fo,ok' b)→Ow h own ok k x cs fo→Vw h ok' k x cs:=by
 intro k
 induction k with
 | int ik=>intro x cs fo _ H; exact fO (fun _ _=>rfl) hk H.2
 | bool=>intro x cs fo _ H; exact fO (fun _ _=>rfl) hk H.2
 | id e=>intro x cs fo _ H; exact fO (fun _ _=>rfl) hk H.2
 | str=>intro x cs fo _ H; exact fO (fun _ _=>rfl) hk H.2
 | sl e k ih=>
  intro x cs fo hfo H
  unfold Ow at H
  split at H
  ·obtain ⟨a,n,c,e1,e2,e3,H⟩:=H
   refine ⟨a,n,c,e1,e2,e3,fun hn=>?_⟩
   rcases H with H | ⟨b,o,arr,lo,hi,ea,hb,hf,hs,bC,hl,hp,H⟩
   ·omega
   ·refine ⟨b,o,ea,hfo b (hp.mem_iff.2 (by simp)),by refine .inl ?_; unfold nH; rw [hb],fun i hi=>?_⟩
    obtain ⟨ds,h1,h2⟩:=H i hi
    exact ⟨ds,h1,ih (fun b' hb'=>hfo b' (hp.mem_iff.2 (by simp [oK hb']))) h2⟩
  ·exact fO (fun _ _=>rfl) hk H.2
 | unit=>intro x cs fo _ H; exact H.2
 | pair a b iha ihb=>
  intro x cs fo hfo H
  obtain ⟨c1,c2,f1,f2,e,hp,h1,h2⟩:=H
  exact ⟨c1,c2,e,iha (fun b hb=>hfo b (hp.mem_iff.2 (by simp [hb]))) h1,ihb (fun b hb=>hfo b (hp.mem_iff.2 (by simp [hb]))) h2⟩
 | st f ih=>intro x cs fo hfo H; exact ih (x:=x) hfo H
 | gap n=>intro x cs fo _ H; exact H.2
theorem qL {h:Heap} {own own':List TypeId} {ok:Nat→Prop} :
  ∀{k:K} {x:El k} {cs:List Value} {fo:List Nat},(∀t∈k.tys,au t own'=true→au t own=true)→Ow h own ok k x cs fo→
   ∃dG fd,fo.Perm (dG++fd)∧Ow h own' (fun b=>ok b∨b∈fd) k x cs dG:=by
 intro k
 induction k with
 | int ik=>intro x cs fo _ H; exact ⟨[],[],by rw [H.1]; exact .refl _,rfl,fO (fun _ _=>rfl) (fun _ h=>.inl h) H.2⟩
 | bool=>intro x cs fo _ H; exact ⟨[],[],by rw [H.1]; exact .refl _,rfl,fO (fun _ _=>rfl) (fun _ h=>.inl h) H.2⟩
 | id e=>intro x cs fo _ H; exact ⟨[],[],by rw [H.1]; exact .refl _,rfl,fO (fun _ _=>rfl) (fun _ h=>.inl h) H.2⟩
 | str=>intro x cs fo _ H; exact ⟨[],[],by rw [H.1]; exact .refl _,rfl,fO (fun _ _=>rfl) (fun _ h=>.inl h) H.2⟩
 | sl e k ih=>
  intro x cs fo ht H
  by_cases hm':au e own'=true
  ·have hm:=ht e (by simp [K.tys]) hm'
   unfold Ow at H
   rw [if_pos hm] at H
   obtain ⟨a,n,c,e1,e2,e3,H⟩:=H
   rcases H with ⟨h0,h1⟩ | ⟨b,o,arr,lo,hi,ea,hb,hf,hs,bC,hl,hp,H⟩
   ·refine ⟨[],[],by rw [h1]; exact .refl _, ?_⟩
    unfold Ow
    rw [if_pos hm']
    exact ⟨a,n,c,e1,e2,e3, .inl ⟨h0,rfl⟩⟩
   ·
    have step:∀i:Nat,∃p:List Nat×List Nat,(hi:i<(show List (El k) from x).length)→((bC.getD i []).Perm (p.1++p.2)∧∃ds,Cells h b (o+i * k.size) ds∧Ow h own' (fun b=>ok b∨b∈p.2) k ((show List (El k) from x)[i]) ds p.1):=by
     intro i
     by_cases hi:i<(show List (El k) from x).length
     ·obtain ⟨ds,h1,h2⟩:=H i hi
      obtain ⟨dG,fd,hp',h3⟩:=ih (fun t ht'=>ht t (by simp [K.tys,ht'])) h2
      exact ⟨(dG,fd),fun _=>⟨hp',ds,h1,h3⟩⟩
     ·exact ⟨([],[]),fun h=>absurd h hi⟩
    have ⟨q,hq⟩:∃q:Nat→List Nat×List Nat,∀i,(hi:i<(show List (El k) from x).length)→((bC.getD i []).Perm ((q i).1++(q i).2)∧∃ds,Cells h b (o+i * k.size) ds∧Ow h own' (fun b=>ok b∨b∈(q i).2) k ((show List (El k) from x)[i]) ds (q i).1):=
     ⟨fun i=>Classical.choose (step i),fun i=>Classical.choose_spec (step i)⟩
    let N:=(show List (El k) from x).length
    refine ⟨b :: (List.range N).flatMap (fun i=>(q i).1),(List.range N).flatMap (fun i=>(q i).2), ?_, ?_⟩
    ·refine hp.trans ?_
     rw [List.cons_append]
     refine .cons b ?_
     have XQ:bC.flatten=(List.range N).flatMap (fun i=>bC.getD i []):=by
      rw [List.flatMap_def]
      congr 1
      apply List.ext_getElem
      ·simp [N,hl]
      ·intro i h1 h2
       simp [agq,agr h1]
     rw [XQ]
     have gen:∀l:List Nat,(∀i∈l,i<N)→(l.flatMap (fun i=>bC.getD i [])).Perm (l.flatMap (fun i=>(q i).1)++l.flatMap (fun i=>(q i).2)):=by
      intro l
      induction l with
      | nil=>intro _; exact .refl _
      | cons i l ihl=>
       intro hl'
       simp only [List.flatMap_cons]
       have h1:=(hq i (hl' i (by simp))).1
       have h2:=ihl (fun j hj=>hl' j (by simp [hj]))
       refine (h1.append h2).trans ?_
       simp only [agy]
       refine List.Perm.append_left _ ?_
       rw [←agy, ←agy]
       exact List.Perm.append_right _ List.perm_append_comm
     exact gen _ (fun i hi=>List.mem_range.1 hi)
    ·unfold Ow
     rw [if_pos hm']
     refine ⟨a,n,c,e1,e2,e3, .inr ⟨b,o,arr,lo,hi,ea,hb,hf,hs,(List.range N).map (fun i=>(q i).1),by simp [N],by rw [List.flatMap_def],fun i hi=>?_⟩⟩
     obtain ⟨ds,h1,h2⟩:=(hq i hi).2
     refine ⟨ds,h1, ?_⟩
     have:(List.map (fun i=>(q i).1) (List.range N)).getD i []=(q i).1:=by
      rw [agq,List.getElem?_map,List.getElem?_range hi]; rfl
     rw [this]
     exact bz (fun _ _=>rfl) (fun b' hb'=>hb'.imp id (fun h=>agP.2 ⟨i,List.mem_range.2 hi,h⟩)) (fun _ _=>rfl) h2
  ·refine ⟨[],fo,by simp, ?_⟩
   unfold Ow
   rw [if_neg hm']
   exact ⟨rfl,jK _ (fun _ h=>.inl h) (fun _ h=>.inr h) H⟩
 | unit=>intro x cs fo _ H; exact ⟨[],[],by rw [H.1]; exact .refl _,rfl,H.2⟩
 | pair a b iha ihb=>
  intro x cs fo ht H
  obtain ⟨c1,c2,f1,f2,e,hp,h1,h2⟩:=H
  obtain ⟨g1,d1,p1,r1⟩:=iha (fun t h=>ht t (by simp [K.tys,h])) h1
  obtain ⟨g2,d2,p2,r2⟩:=ihb (fun t h=>ht t (by simp [K.tys,h])) h2
  refine ⟨g1++g2,d1++d2,(hp.trans (p1.append p2)).trans ?_,c1,c2,g1,g2,e, .refl _, ?_, ?_⟩
  ·simp only [agy]
   refine List.Perm.append_left _ ?_
   rw [←agy, ←agy]
   exact List.Perm.append_right _ List.perm_append_comm
  ·exact bz (fun _ _=>rfl) (fun b' hb'=>hb'.imp id (fun h=>by simp [h])) (fun _ _=>rfl) r1
  ·exact bz (fun _ _=>rfl) (fun b' hb'=>hb'.imp id (fun h=>by simp [h])) (fun _ _=>rfl) r2
 | st f ih=>intro x cs fo ht H; exact ih (x:=x) ht H
 | gap n=>intro x cs fo _ H; exact ⟨[],[],by rw [H.1]; exact .refl _,rfl,H.2⟩
theorem ou {h:Heap} {own own':List TypeId} {ok:Nat→Prop} :
  ∀{k:K} {x:El k} {cs:List Value} {fo:List Nat},(∀t∈k.tys,au t own'=au t own)→Ow h own ok k x cs fo→Ow h own' ok k x cs fo:=by
 intro k
 induction k with
 | int ik=>intro x cs fo _ H; exact H
 | bool=>intro x cs fo _ H; exact H
 | id e=>intro x cs fo _ H; exact H
 | str=>intro x cs fo _ H; exact H
 | sl e k ih=>
  intro x cs fo ht H
  unfold Ow at H ⊢
  rw [ht e (by simp [K.tys])]
  split
  ·rename_i hm
   rw [if_pos hm] at H
   obtain ⟨a,n,c,e1,e2,e3,H⟩:=H
   refine ⟨a,n,c,e1,e2,e3, ?_⟩
   rcases H with H | ⟨b,o,arr,lo,hi,ea,hb,hf,hs,bC,hl,hp,H⟩
   ·exact .inl H
   ·refine .inr ⟨b,o,arr,lo,hi,ea,hb,hf,hs,bC,hl,hp,fun i hi=>?_⟩
    obtain ⟨ds,h1,h2⟩:=H i hi
    exact ⟨ds,h1,ih (fun t ht'=>ht t (by simp [K.tys,ht'])) h2⟩
  ·rename_i hm
   rw [if_neg hm] at H
   exact H
 | unit=>intro x cs fo _ H; exact H
 | pair a b iha ihb=>
  intro x cs fo ht H
  obtain ⟨c1,c2,f1,f2,e,hp,h1,h2⟩:=H
  exact ⟨c1,c2,f1,f2,e,hp,iha (fun t h=>ht t (by simp [K.tys,h])) h1,ihb (fun t h=>ht t (by simp [K.tys,h])) h2⟩
 | st f ih=>intro x cs fo ht H; exact ih (x:=x) ht H
 | gap n=>intro x cs fo _ H; exact H
theorem nE {h:Heap} {own:List TypeId} {ok:Nat→Prop}:∀{k:K} {x:El k} {cs:List Value},(∀t∈k.tys,au t own=false)→Vw h ok k x cs→Ow h own ok k x cs []:=by
 intro k
 induction k with
 | int ik=>intro x cs _ H; exact ⟨rfl,H⟩
 | bool=>intro x cs _ H; exact ⟨rfl,H⟩
 | id e=>intro x cs _ H; exact ⟨rfl,H⟩
 | str=>intro x cs _ H; exact ⟨rfl,H⟩
 | sl e k ih=>
  intro x cs ht H
  unfold Ow
  rw [if_neg (by rw [ht e (by simp [K.tys])]; simp)]
  exact ⟨rfl,H⟩
 | unit=>intro x cs _ H; exact ⟨rfl,H⟩
 | pair a b iha ihb=>
  intro x cs ht H
  obtain ⟨c1,c2,e,h1,h2⟩:=H
  exact ⟨c1,c2,[],[],e, .refl _,iha (fun t h=>ht t (by simp [K.tys,h])) h1,ihb (fun t h=>ht t (by simp [K.tys,h])) h2⟩
 | st f ih=>intro x cs ht H; exact ih (x:=x) ht H
 | gap n=>intro x cs _ H; exact ⟨rfl,H⟩
end
section
open Go
variable [Fr]
def bB:Nat→K→Option (Nat×K)
 | 0, .pair a _=>some (0,a)
 | n+1, .pair a b=>match bB n b with
  | some (o,k)=>some (a.size+o,k)
  | none=>none
 | _,_=>none
def mY (h:Heap) (b o n:Nat):List Value:=(List.range n).map fun j=>(cellAt h b (o+j)).getD undef
theorem gN {h:Heap} {b o:Nat} {cs:List Value} (H:Cells h b o cs):mY h b o cs.length=cs:=by
 unfold mY
 apply List.ext_getElem
 ·simp
 ·intro i h1 h2
  simp [H i h2,agr h2]
def bH (h:Heap):List Stp→(k:K)→List Value→Option (Nat×Nat)→Option (List Value×Option (Nat×Nat))
 | [],_,cs,wh=>some (cs,wh)
 | .fH n :: p, .st c,cs,wh=>match bB n c with
  | some (off,k')=>bH h p k' ((cs.drop off).take k'.size) (wh.map fun q=>(q.1,q.2+off))
  | none=>none
 | .idx i :: p, .sl _ k,cs,_=>match cs with
  | [.slice (some a) _ _]=>bH h p k (mY h a.block (a.off+i.toNat * k.size) k.size) (some (a.block,a.off+i.toNat * k.size))
  | _=>none
 | _,_,_,_=>none
def kJ:List Stp→(k:K)→El k→Prop
 | [],_,_=>True
 | .fH n :: p, .st c,x=>match aL n c x with
  | some d=>kJ p d.1 d.2
  | none=>False
 | .idx i :: p, .sl _ k,xs=>0≤i∧i<((show List (El k) from xs).length:Int)∧kJ p k ((show List (El k) from xs).getD i.toNat k.zero)
 | _,_,_=>False
def gB (h h':Heap) (b o n:Nat):Prop:=
 ∃arr jH e fr,h b=some (.cells arr e fr)∧h' b=some (.cells jH e fr)∧jH.size=arr.size∧∀i,¬(o≤i∧i<o+n)→jH[i]?=arr[i]?
theorem gB.of_same {h h':Heap} {b:Nat} (o n:Nat) {arr:Array Value} {e:TypeId} {fr:Nat×Nat} (e1:h b=some (.cells arr e fr)) (e2:h' b=h b):gB h h' b o n:=
 ⟨arr,arr,e,fr,e1,e2.trans e1,rfl,fun _ _=>rfl⟩
theorem gB.cells {h h':Heap} {b o n o':Nat} {cs:List Value} (H:gB h h' b o n) (hc:Cells h b o' cs) (hd:o'+cs.length≤o∨o+n≤o'):Cells h' b o' cs:=by
 obtain ⟨arr,jH,e,fr,h1,h2,_,h3⟩:=H
 intro i hi
 have:=hc i hi
 unfold cellAt at this ⊢
 rw [h1] at this
 rw [h2]
 simp only at this ⊢
 rw [h3 _ (by omega)]
 exact this
theorem gB.cellAt {h h':Heap} {b o n:Nat} (H:gB h h' b o n) {i:Nat} (hi:¬(o≤i∧i<o+n)):cellAt h' b i=cellAt h b i:=by
 obtain ⟨arr,jH,e,fr,h1,h2,_,h3⟩:=H
 unfold Ow.cellAt
 rw [h1,h2]
 exact h3 i hi
theorem Cells.append {h:Heap} {b o:Nat} {c1 c2:List Value}:Cells h b o (c1++c2)↔Cells h b o c1∧Cells h b (o+c1.length) c2:=by
 constructor
 ·intro H
  refine ⟨fun i hi=>?_,fun i hi=>?_⟩
  ·rw [H i (by simp; omega),List.getElem?_append_left hi]
  ·have:=H (c1.length+i) (by simp; omega)
   rw [List.getElem?_append_right (by omega)] at this
   rw [Nat.add_assoc,this]
   congr 1
   omega
 ·rintro ⟨H1,H2⟩ i hi
  by_cases h1:i<c1.length
  ·rw [H1 i h1,List.getElem?_append_left h1]
  ·have:=H2 (i - c1.length) (by simp at hi; omega)
   rw [List.getElem?_append_right (by omega), ←this]
   congr 1
   omega
theorem tZ {a b c:List Nat}:(a++(b++c)).Perm (b++(a++c)):=by
 rw [←agy, ←agy]
 exact List.Perm.append_right _ List.perm_append_comm
theorem tT:∀(n:Nat) {c:K} {x:El c} {t z:Dat},cB n c x t=some z→aL n z.1 z.2=some t:=by
 intro n
 induction n with
 | zero=>
  intro c x t z h
  cases c with
  | pair a b=>simp only [cB,agb] at h; subst h; rfl
  | _=>simp [cB] at h
 | succ n ih=>
  intro c x t z h
  cases c with
  | pair a b=>
   simp only [cB] at h
   cases h2:cB n b x.2 t with
   | none=>rw [h2] at h; simp at h
   | some y=>rw [h2] at h; simp only [agb] at h; subst h; exact ih h2
  | _=>simp [cB] at h
theorem Br:∀(n:Nat) {c:K} {x:El c} {s t z:Dat},aL n c x=some s→cB n c x t=some z→t.1=s.1→z.1=c:=by
 intro n
 induction n with
 | zero=>
  intro c x s t z hg h e
  cases c with
  | pair a b=>
   simp only [aL,agb] at hg
   simp only [cB,agb] at h
   subst hg; subst h
   simp only at e
   simp [e]
  | _=>simp [cB] at h
 | succ n ih=>
  intro c x s t z hg h e
  cases c with
  | pair a b=>
   simp only [aL] at hg
   simp only [cB] at h
   cases h2:cB n b x.2 t with
   | none=>rw [h2] at h; simp at h
   | some y=>rw [h2] at h; simp only [agb] at h; subst h; simp [ih hg h2 e]
  | _=>simp [cB] at h
theorem uF:∀(n:Nat) {c:K} {x:El c} {t z:Dat} {off:Nat} {k':K},bB n c=some (off,k')→cB n c x t=some z→bB n z.1=some (off,t.1):=by
 intro n
 induction n with
 | zero=>
  intro c x t z off k' ho h
  cases c with
  | pair a b=>
   simp only [cB,agb] at h
   subst h
   simp only [bB,agb,agn] at ho ⊢
   exact ⟨ho.1,trivial⟩
  | _=>simp [cB] at h
 | succ n ih=>
  intro c x t z off k' ho h
  cases c with
  | pair a b=>
   simp only [cB] at h
   cases h2:cB n b x.2 t with
   | none=>rw [h2] at h; simp at h
   | some y=>
    rw [h2] at h
    simp only [agb] at h
    subst h
    simp only [bB] at ho ⊢
    cases h3:bB n b with
    | none=>rw [h3] at ho; simp at ho
    | some q=>
     rw [h3] at ho
     simp only [Option.map_some,agb,agn] at ho
     rw [ih (k':=q.2) (off:=q.1) (by rw [h3]) h2]
     simp [←ho.1]
  | _=>simp [cB] at h
theorem Az {h:Heap} {own:List TypeId} {ok:Nat→Prop}:∀(n:Nat) {c:K} {x:El c} {cs:List Value} {fo:List Nat} {d:Dat},
  Ow h own ok c x cs fo→aL n c x=some d→
   ∃off pre cs1 post fI fr,bB n c=some (off,d.1)∧cs=pre++(cs1++post)∧pre.length=off∧fo.Perm (fI++fr)∧Ow h own ok d.1 d.2 cs1 fI∧
    (∀(h':Heap) (ok':Nat→Prop) (t:Dat) (mM:List Value) (qO:List Nat) (z:Dat),cB n c x t=some z→Ow h' own ok' t.1 t.2 mM qO→
     (∀b,ok b→ok' b∧h' b=h b)→(∀b∈fr,h' b=h b)→Ow h' own ok' z.1 z.2 (pre++(mM++post)) (qO++fr))∧
    ∀m s2,m≠n→aL m c x=some s2→∃off2 cs2 R7,bB m c=some (off2,s2.1)∧(cs.drop off2).take s2.1.size=cs2∧Ow h own ok s2.1 s2.2 cs2 R7∧(∀b∈R7,b∈fr)∧
     (∀mM:List Value,mM.length=d.1.size→((pre++(mM++post)).drop off2).take s2.1.size=cs2)∧∀t z,cB n c x t=some z→aL m z.1 z.2=some s2:=by
 intro n
 induction n with
 | zero=>
  intro c x cs fo d H hg
  cases c with
  | pair a b=>
   simp only [aL,agb] at hg
   subst hg
   obtain ⟨c1,c2,f1,f2,e,hp,h1,h2⟩:=H
   refine ⟨0,[],c1,c2,f1,f2,rfl,by simpa using e,rfl,hp,h1, ?_, ?_⟩
   ·intro h' ok' t mM qO z hz ht hok hfr
    simp only [cB,agb] at hz
    subst hz
    exact ⟨mM,c2,qO,f2,by simp, .refl _,ht,bz (fun b hb=>(hok b hb).2) (fun b hb=>(hok b hb).1) hfr h2⟩
   ·intro m s2 hm hg2
    cases m with
    | zero=>exact absurd rfl hm
    | succ m=>
     simp only [aL] at hg2
     have key:∀(m:Nat) {c:K} {x:El c} {cs:List Value} {fo:List Nat} {d:Dat},Ow h own ok c x cs fo→aL m c x=some d→
       ∃off cs1 fI,bB m c=some (off,d.1)∧(cs.drop off).take d.1.size=cs1∧(∀b∈fI,b∈fo)∧Ow h own ok d.1 d.2 cs1 fI:=by
      intro m
      induction m with
      | zero=>
       intro c x cs fo d H hg
       cases c with
       | pair a b=>
        simp only [aL,agb] at hg
        subst hg
        obtain ⟨c1,c2,f1,f2,rfl,hp,h1,h2⟩:=H
        exact ⟨0,c1,f1,rfl,by simp [←dh h1],fun b hb=>hp.mem_iff.2 (by simp [hb]),h1⟩
       | _=>simp [aL] at hg
      | succ m ih=>
       intro c x cs fo d H hg
       cases c with
       | pair a b=>
        simp only [aL] at hg
        obtain ⟨c1,c2,f1,f2,rfl,hp,h1,h2⟩:=H
        obtain ⟨off,cs1,fI,g1,g2,g3,g4⟩:=ih h2 hg
        refine ⟨a.size+off,cs1,fI,by simp [bB,g1], ?_,fun b hb=>hp.mem_iff.2 (by simp [g3 b hb]),g4⟩
        rw [←g2, ←dh h1, ←List.drop_drop]
        simp
       | _=>simp [aL] at hg
     obtain ⟨off2,cs2,R7,g1,g2,g3,g4⟩:=key m h2 hg2
     refine ⟨a.size+off2,cs2,R7,by simp [bB,g1], ?_,g4,g3, ?_, ?_⟩
     ·rw [e, ←g2, ←dh h1, ←List.drop_drop]; simp
     ·intro mM hl
      simp only at hl
      rw [←g2, ←hl, ←List.drop_drop]; simp
     ·intro t z hz
      simp only [cB,agb] at hz
      subst hz
      exact hg2
  | _=>simp [aL] at hg
 | succ n ih=>
  intro c x cs fo d H hg
  cases c with
  | pair a b=>
   simp only [aL] at hg
   obtain ⟨c1,c2,f1,f2,e,hp,h1,h2⟩:=H
   obtain ⟨off,pre,cs1,post,fI,fr,ho,ec,hl,hp',hd,hu,hoth⟩:=ih h2 hg
   refine ⟨a.size+off,c1++pre,cs1,post,fI,f1++fr, ?_,by rw [e,ec]; simp,by simp [dh h1,hl], ?_,hd, ?_, ?_⟩
   ·simp [bB,ho]
   ·exact (hp.trans (List.Perm.append_left _ hp')).trans tZ
   ·intro h' ok' t mM qO z hz ht hok hfr
    simp only [cB] at hz
    cases hz2:cB n b x.2 t with
    | none=>rw [hz2] at hz; simp at hz
    | some z2=>
     rw [hz2] at hz
     simp only [agb] at hz
     subst hz
     have r2:=hu h' ok' t mM qO z2 hz2 ht hok (fun b hb=>hfr b (by simp [hb]))
     exact ⟨c1,pre++(mM++post),f1,qO++fr,by simp,tZ,bz (fun b hb=>(hok b hb).2) (fun b hb=>(hok b hb).1) (fun b hb=>hfr b (by simp [hb])) h1,r2⟩
   ·intro m s2 hm hg2
    cases m with
    | zero=>
     simp only [aL,agb] at hg2
     subst hg2
     refine ⟨0,c1,f1,rfl,by rw [e, ←dh h1]; simp,h1,fun b hb=>by simp [hb],fun mM _=>by rw [←dh h1]; simp, ?_⟩
     intro t z hz
     simp only [cB] at hz
     cases hz2:cB n b x.2 t with
     | none=>rw [hz2] at hz; simp at hz
     | some z2=>rw [hz2] at hz; simp only [agb] at hz; subst hz; rfl
    | succ m=>
     simp only [aL] at hg2
     obtain ⟨off2,cs2,R7,g1,g2,g3,g4,g5,g6⟩:=hoth m s2 (by omega) hg2
     refine ⟨a.size+off2,cs2,R7,by simp [bB,g1], ?_,g3,fun b hb=>by simp [g4 b hb], ?_, ?_⟩
     ·rw [e, ←g2, ←dh h1, ←List.drop_drop]; simp
     ·intro mM hl'
      rw [←g5 mM hl', ←dh h1, ←List.drop_drop]; simp
     ·intro t z hz
      simp only [cB] at hz
      cases hz2:cB n b x.2 t with
      | none=>rw [hz2] at hz; simp at hz
      | some z2=>rw [hz2] at hz; simp only [agb] at hz; subst hz; exact g6 t z2 hz2
  | _=>simp [aL] at hg
theorem Jc:∀(n:Nat) {c:K} {x:El c} {s u y:Dat},aL n c x=some s→cB n c x u=some y→u.1.size=s.1.size→y.1.size=c.size:=by
 intro n
 induction n with
 | zero=>
  intro c x s u y h1 h2 e
  cases c with
  | pair a b=>simp only [aL,cB,agb] at h1 h2; subst h1; subst h2; simp only at e; simp [K.size,e]
  | _=>simp [aL] at h1
 | succ n ih=>
  intro c x s u y h1 h2 e
  cases c with
  | pair a b=>
   simp only [aL,cB] at h1 h2
   cases h3:cB n b x.2 u with
   | none=>rw [h3] at h2; simp at h2
   | some y2=>rw [h3] at h2; simp only [agb] at h2; subst h2; simp [K.size,ih h1 h3 e]
  | _=>simp [aL] at h1
theorem xU:∀(n m:Nat) {c:K} {x:El c} {s u y:Dat} {off2:Nat} {k2:K},m≠n→aL n c x=some s→cB n c x u=some y→u.1.size=s.1.size→bB m c=some (off2,k2)→bB m y.1=some (off2,k2):=by
 intro n
 induction n with
 | zero=>
  intro m c x s u y off2 k2 hm h1 h2 e h3
  cases c with
  | pair a b=>
   simp only [aL,cB,agb] at h1 h2
   subst h1; subst h2
   cases m with
   | zero=>exact absurd rfl hm
   | succ m=>simp only [bB] at h3 ⊢; simp only at e; rw [e]; exact h3
  | _=>simp [aL] at h1
 | succ n ih=>
  intro m c x s u y off2 k2 hm h1 h2 e h3
  cases c with
  | pair a b=>
   simp only [aL,cB] at h1 h2
   cases h4:cB n b x.2 u with
   | none=>rw [h4] at h2; simp at h2
   | some y2=>
    rw [h4] at h2
    simp only [agb] at h2
    subst h2
    cases m with
    | zero=>simp only [bB] at h3 ⊢; exact h3
    | succ m=>
     simp only [bB] at h3 ⊢
     cases h5:bB m b with
     | none=>rw [h5] at h3; simp at h3
     | some q=>
      rw [h5] at h3
      rw [ih m (off2:=q.1) (k2:=q.2) (by omega) h1 h4 e (by rw [h5])]
      exact h3
  | _=>simp [aL] at h1
theorem ng {pre cs1 post:List Value} {off n:Nat} (h1:pre.length=off) (h2:cs1.length=n):((pre++(cs1++post)).drop off).take n=cs1:=by
 subst h1; subst h2; simp
theorem cz {A:Type} {l:List A} {d:A} {i:Nat} (h:i<l.length):l.getD i d=l[i]:=by
 rw [agq,agr h]; rfl
theorem Eg {bC:List (List Nat)} {i:Nat} (h:i<bC.length):bC.flatten.Perm (bC.getD i []++((bC.take i).flatten++(bC.drop (i+1)).flatten)):=by
 have e:bC=bC.take i++(bC.getD i [] :: bC.drop (i+1)):=by
  rw [cz h, ←List.drop_eq_getElem_cons h,List.take_append_drop]
 have:bC.flatten=(bC.take i).flatten++(bC.getD i []++(bC.drop (i+1)).flatten):=by
  rw [congrArg List.flatten e]; simp
 rw [this]
 exact tZ
theorem PK {bC:List (List Nat)} {i:Nat} (h:i<bC.length) (q:List Nat):(bC.set i q).flatten.Perm (q++((bC.take i).flatten++(bC.drop (i+1)).flatten)):=by
 have h':i<(bC.set i q).length:=by simpa using h
 have:=Eg h'
 rw [cz h',List.getElem_set_self] at this
 simpa [List.take_set_of_le,List.drop_set_of_lt] using this
theorem bY:∀(n:Nat) {c:K} {x:El c} {s:Dat},aL n c x=some s→aa.Ae n c=some s.1:=by
 intro n
 induction n with
 | zero=>
  intro c x s e
  cases c with
  | pair a b=>simp only [aL,agb] at e; subst e; rfl
  | _=>simp [aL] at e
 | succ n ih=>
  intro c x s e
  cases c with
  | pair a b=>simp only [aL] at e; exact ih e
  | _=>simp [aL] at e
theorem Cu {h h':Heap} {own:List TypeId} {ok:Nat→Prop}:∀(p:List Stp) {k:K} {x:El k} {cs:List Value} {fo:List Nat} {wh:Option (Nat×Nat)},
  Ow h own ok k x cs fo→kJ p k x→(∀t∈aa p k,au t own=true)→(∀b∈fo,h' b=h b)→bH h' p k cs wh=bH h p k cs wh:=by
 intro p
 induction p with
 | nil=>intro k x cs fo wh _ _ _ _; rfl
 | cons s p ih=>
  intro k x cs fo wh H hin Fp hfo
  cases s with
  | fH n=>
   cases k with
   | st c=>
    simp only [kJ] at hin
    cases hcg:aL n c x with
    | none=>rw [hcg] at hin; exact hin.elim
    | some s=>
     rw [hcg] at hin
     obtain ⟨off,pre,cs0,post,sV,fr,ho,ec,hl,hp,hd,_⟩:=Az n (show Ow h own ok c x cs fo from H) hcg
     have hpt:aa (.fH n :: p) (.st c)=aa p s.1:=by simp [aa,bY n hcg]
     rw [hpt] at Fp
     simp only [bH]
     rw [ho]
     simp only
     rw [ec,ng hl (dh hd)]
     exact ih hd hin Fp (fun b hb=>hfo b (hp.mem_iff.2 (agh _ hb)))
   | _=>simp [kJ] at hin
  | idx i=>
   cases k with
   | sl e k=>
    simp only [kJ] at hin
    obtain ⟨hi0,hi1,hin⟩:=hin
    have acS:i<((@List.length (El k) x:Nat):Int):=hi1
    have hlt:i.toNat < @List.length (El k) x:=by omega
    have eg:(show List (El k) from x).getD i.toNat k.zero=(show List (El k) from x)[i.toNat]'hlt:=cz hlt
    rw [eg] at hin
    unfold Ow at H
    rw [if_pos (Fp e (by simp [aa]))] at H
    obtain ⟨a,n,c,e1,e2,e3,H⟩:=H
    have e2':n=@List.length (El k) x:=e2
    rcases H with ⟨h0,_⟩ | ⟨b,o,arr,lo,hi,ea,hb,hf,hs,bC,hfl,hp,H⟩
    ·omega
    ·obtain ⟨ds,hcd,hod⟩:=H i.toNat hlt
     have hbb:h' b=h b:=hfo b (hp.mem_iff.2 (by simp))
     have r1:=gN hcd
     have r2:=gN (hcd.congr hbb)
     rw [dh hod] at r1 r2
     subst e1
     subst ea
     simp only [bH]
     rw [r1,r2]
     exact ih hod hin (fun t ht=>Fp t (by simp [aa,ht])) (fun b' hb'=>hfo b' (hp.mem_iff.2 (by simp [oK hb'])))
   | _=>simp [kJ] at hin
def Av (h h':Heap) (own:List TypeId) (k:K) (x:El k) (cs:List Value) (wh:Option (Nat×Nat)) (z:Dat) (cs':List Value) (bad:List TypeId):Prop:=
 ∀q c0 w0,kJ q k x→(∀t∈aa q k,au t own=true∧t∉bad)→bH h q k cs wh=some (c0,w0)→(aP q z.1 z.2).isSome=true→kJ q z.1 z.2∧∃c1,bH h' q z.1 cs' wh=some (c1,w0)
structure Upd (h:Heap) (own:List TypeId) (ok:Nat→Prop) (p:List Stp) (k:K) (x:El k) (cs:List Value) (wh:Option (Nat×Nat)) (d:Dat) (rest:List Nat) (cs1:List Value) (kS:Option (Nat×Nat)):Prop where
 go:∀(h':Heap) (ok':Nat→Prop) (t:Dat) (mM:List Value) (qO:List Nat) (z:Dat),dU p k x t=some z→mM.length=d.1.size→Ow h' own ok' t.1 t.2 mM qO→
  (∀b,ok b→ok' b∧h' b=h b)→(∀b∈rest,kS.map (·.1)≠some b→h' b=h b)→
  (∀b o,kS=some (b,o)→Cells h' b o mM∧gB h h' b o d.1.size)→
  (kS=none→mM=cs1)→(∀b o,wh=some (b,o)→kS.map (·.1)≠some b→h' b=h b)→
  ∃cs',cs'.length=cs.length∧Ow h' own ok' z.1 z.2 cs' (qO++rest)∧(∀b o,wh=some (b,o)→Cells h' b o cs')∧(wh=none→cs'=cs)∧
   ∀bad,t.1.size=d.1.size→Av h h' own d.1 d.2 cs1 kS t mM bad→(t.1=d.1→z.1=k)∧z.1.size=k.size∧Av h h' own k x cs wh z cs' bad∧bH h' p z.1 cs' wh=some (mM,kS)
def WB (h:Heap) (own:List TypeId) (ok:Nat→Prop) (p:List Stp) (k:K) (x:El k) (cs:List Value) (fo:List Nat) (wh:Option (Nat×Nat)) (d:Dat):Prop:=
 ∃cs1 fI rest kS,bH h p k cs wh=some (cs1,kS)∧fo.Perm (fI++rest)∧Ow h own ok d.1 d.2 cs1 fI∧(∀b o,kS=some (b,o)→Cells h b o cs1)∧
  (∀b o,kS=some (b,o)→(aa p k=[]∧∃o0,wh=some (b,o0)∧o0≤o∧o+d.1.size≤o0+k.size)∨
   (b∈rest∧∃arr e lo hi,h b=some (.cells arr e (lo,hi))∧yJ arr.size lo hi∧(aa p k).getLast?=some e∧o+d.1.size≤arr.size))∧
  (kS=none→wh=none)∧Upd h own ok p k x cs wh d rest cs1 kS
theorem oJ {wh:Option (Nat×Nat)} {off b o:Nat} (e:wh.map (fun q=>(q.1,q.2+off))=some (b,o)):∃o0,wh=some (b,o0)∧o=o0+off:=by
 cases wh with
 | none=>simp at e
 | some q=>
  simp only [Option.map_some,agb,agn] at e
  exact ⟨q.2,by rw [←e.1],e.2.symm⟩
theorem Q3 {h:Heap} {own:List TypeId} {ok:Nat→Prop} {p:List Stp} {n:Nat} {c:K} {x:El c} {cs:List Value} {fo:List Nat} {wh:Option (Nat×Nat)} {s d:Dat}
  (H:Ow h own ok c x cs fo) (hc:∀b o,wh=some (b,o)→Cells h b o cs) (hcg:aL n c x=some s) (hnd:fo.Nodup) (hbase:∀b o,wh=some (b,o)→b∉fo)
  (ih:∀{cs0:List Value} {sV:List Nat} {Qk:Option (Nat×Nat)},Ow h own ok s.1 s.2 cs0 sV→(∀b o,Qk=some (b,o)→Cells h b o cs0)→sV.Nodup→(∀b o,Qk=some (b,o)→b∉sV)→WB h own ok p s.1 s.2 cs0 sV Qk d) :
  WB h own ok (.fH n :: p) (.st c) x cs fo wh d:=by
 obtain ⟨off,pre,cs0,post,sV,fr,ho,ec,hl,hp,hd,hu,hoth⟩:=Az n H hcg
 have hsz:=dh hd
 have hpt:aa (.fH n :: p) (.st c)=aa p s.1:=by simp [aa,bY n hcg]
 have hnd':(sV++fr).Nodup:=hp.nodup hnd
 have hsub:(cs.drop off).take s.1.size=cs0:=by rw [ec]; exact ng hl hsz
 have hlen:cs.length=c.size:=dh H
 have ad6:off+s.1.size+post.length=c.size:=by rw [←hlen,ec]; simp [hl,hsz]; omega
 obtain ⟨cs1,fI,rest,kS,hn,hp1,hd1,hc1,hin1,hnone,hup⟩:=ih (Qk:=wh.map fun q=>(q.1,q.2+off)) hd
  (fun b o e=>by
   obtain ⟨o0,e1,rfl⟩:=oJ e
   have:=hc b o0 e1
   rw [ec,Cells.append,Cells.append] at this
   rw [←hl]
   exact this.2.1) (agj.1 hnd').1
  (fun b o e hb=>by
   obtain ⟨o0,e1,rfl⟩:=oJ e
   exact hbase b o0 e1 (hp.mem_iff.2 (agh _ hb)))
 have acM:∀b o,kS=some (b,o)→b∉fr:=by
  intro b o e hb
  rcases hin1 b o e with ⟨_,o0,ew,_⟩ | ⟨h1,_⟩
  ·obtain ⟨o1,e1,_⟩:=oJ ew
   exact hbase b o1 e1 (hp.mem_iff.2 (agd _ hb))
  ·exact (agj.1 hnd').2.2 b (hp1.mem_iff.2 (agd _ h1)) b hb rfl
 refine ⟨cs1,fI,rest++fr,kS, ?_, ?_,hd1,hc1, ?_, ?_,⟨?_⟩⟩
 ·simp only [bH]
  rw [ho]
  simp only
  rw [hsub]
  exact hn
 ·rw [←agy]
  exact hp.trans (List.Perm.append_right _ hp1)
 ·intro b o e
  rw [hpt]
  rcases hin1 b o e with ⟨h0,o0,ew,h1,h2⟩ | ⟨h1,h2⟩
  ·obtain ⟨o1,e1,rfl⟩:=oJ ew
   refine .inl ⟨h0,o1,e1,by omega, ?_⟩
   show o+d.1.size≤o1+c.size
   omega
  ·exact .inr ⟨agh _ h1,h2⟩
 ·intro e
  have:=hnone e
  cases wh with
  | none=>rfl
  | some q=>simp at this
 ·intro h' ok' t mM qO z hz hl' ht hok hrest hw hcs hb0
  simp only [dU,hcg] at hz
  cases hs:dU p s.1 s.2 t with
  | none=>rw [hs] at hz; simp at hz
  | some u=>
   rw [hs] at hz
   simp only at hz
   cases hcp:cB n c x u with
   | none=>rw [hcp] at hz; simp at hz
   | some y=>
    rw [hcp] at hz
    simp only [agb] at hz
    subst hz
    obtain ⟨QO,hl0,ho0,hc0,hn0,hnk⟩:=hup.go h' ok' t mM qO u hs hl' ht hok (fun b hb=>hrest b (agh _ hb)) hw hcs
     (fun b o e=>by
      obtain ⟨o0,e1,_⟩:=oJ e
      exact hb0 b o0 e1)
    have hfr:∀b∈fr,h' b=h b:=by
     intro b hb
     refine hrest b (agd _ hb) ?_
     intro e
     cases uN:kS with
     | none=>rw [uN] at e; simp at e
     | some q=>
      rw [uN] at e
      simp only [Option.map_some,agb] at e
      exact acM q.1 q.2 uN (e▸hb)
    have r:=hu h' ok' u QO (qO++rest) y hcp ho0 hok hfr
    refine ⟨pre++(QO++post),by rw [ec]; simp [hl0], ?_, ?_, ?_, ?_⟩
    ·have r':Ow h' own ok' y.1 y.2 (pre++(QO++post)) (qO++(rest++fr)):=by
      rw [show qO++(rest++fr)=qO++rest++fr from (agy ..).symm]; exact r
     exact r'
    ·intro b o e
     have hwc:=hc b o e
     rw [ec,Cells.append,Cells.append] at hwc
     have hc0':=hc0 b (o+off) (by rw [e]; rfl)
     rw [Cells.append,Cells.append,hl0,hsz,hl]
     have UU:=hwc.2.2
     rw [hsz,hl] at UU
     by_cases hbw:kS.map (·.1)=some b
     ·cases uN:kS with
      | none=>rw [uN] at hbw; simp at hbw
      | some q=>
       rw [uN] at hbw
       simp only [Option.map_some,agb] at hbw
       subst hbw
       have hsb:=(hw q.1 q.2 uN).2
       rcases hin1 q.1 q.2 uN with ⟨_,o0,ew,g1,g2⟩ | ⟨h1,_⟩
       ·rw [e] at ew
        simp only [Option.map_some,agb,agn,true_and] at ew
        exact ⟨hsb.cells hwc.1 (.inl (by omega)),hc0',hsb.cells UU (.inr (by omega))⟩
       ·exact absurd (hp.mem_iff.2 (agh _ (hp1.mem_iff.2 (agd _ h1)))) (hbase q.1 o e)
     ·have hbb:=hb0 b o e hbw
      exact ⟨hwc.1.congr hbb,hc0',UU.congr hbb⟩
    ·intro e
     have:=hn0 (by rw [e]; rfl)
     rw [this,ec]
    ·intro bad hkind wF
     obtain ⟨n1,n3,n2,n4⟩:=hnk bad hkind wF
     refine ⟨fun e=>congrArg K.st (Br n hcg hcp (n1 e)),(show y.1.size=c.size from Jc n hcg hcp n3), ?_,by
      show bH h' (.fH n :: p) (.st y.1) _ _=_
      simp only [bH]
      rw [uF n ho hcp]
      simp only
      rw [ng hl (dh ho0)]
      exact n4⟩
     intro q c0 w0 hq Ya Fj Vq
     cases q with
     | nil=>
      simp only [bH,agb,agn] at Fj ⊢
      exact ⟨trivial,_,rfl,Fj.2⟩
     | cons sq q=>
      cases sq with
      | idx i=>simp [kJ] at hq
      | fH m=>
       simp only [kJ] at hq
       cases hg2:aL m c x with
       | none=>rw [hg2] at hq; exact hq.elim
       | some s2=>
        rw [hg2] at hq
        have ada:aa (.fH m :: q) (.st c)=aa q s2.1:=by simp [aa,bY m hg2]
        rw [ada] at Ya
        by_cases hmn:m=n
        ·subst hmn
         rw [hcg] at hg2
         simp only [agb] at hg2
         subst hg2
         simp only [bH] at Fj
         rw [ho] at Fj
         simp only at Fj
         rw [hsub] at Fj
         obtain ⟨r1,c1,r2⟩:=n2 q c0 w0 hq Ya Fj (by
          have:(aP (.fH m :: q) (.st y.1) y.2).isSome=true:=Vq
          simpa only [aP,tT m hcp] using this)
         refine ⟨?_,c1, ?_⟩
         ·show kJ (.fH m :: q) (.st y.1) y.2
          simp only [kJ,tT m hcp]
          exact r1
         ·show bH h' (.fH m :: q) (.st y.1) _ _=_
          simp only [bH]
          rw [uF m ho hcp]
          simp only
          rw [ng hl (dh ho0)]
          exact r2
        ·obtain ⟨off2,cs2,R7,g1,g2,g3,g4,g5,g6⟩:=hoth m s2 hmn hg2
         simp only [bH] at Fj
         rw [g1] at Fj
         simp only at Fj
         rw [g2] at Fj
         have g7:=g6 u y hcp
         refine ⟨?_,c0, ?_⟩
         ·show kJ (.fH m :: q) (.st y.1) y.2
          simp only [kJ,g7]
          exact hq
         ·show bH h' (.fH m :: q) (.st y.1) _ _=_
          simp only [bH]
          rw [xU n m hmn hcg hcp n3 g1]
          simp only
          rw [g5 QO (by rw [hl0,hsz]), ←Fj]
          exact Cu q g3 hq (fun t ht=>(Ya t ht).1) (fun b hb=>hfr b (g4 b hb))
theorem Q4 {h:Heap} {own:List TypeId} {ok:Nat→Prop} {p:List Stp} {i:Int} {e:TypeId} {k:K} {xs:List (El k)} {cs:List Value} {fo:List Nat} {wh:Option (Nat×Nat)} {d:Dat}
  (H:Ow h own ok (.sl e k) xs cs fo) (hc:∀b o,wh=some (b,o)→Cells h b o cs) (hnd:fo.Nodup) (hbase:∀b o,wh=some (b,o)→b∉fo) (hmem:au e own=true) (hlt:i.toNat<xs.length)
  (ih:∀{cs0:List Value} {sV:List Nat} {Qk:Option (Nat×Nat)},Ow h own ok k xs[i.toNat] cs0 sV→(∀b o,Qk=some (b,o)→Cells h b o cs0)→sV.Nodup→(∀b o,Qk=some (b,o)→b∉sV)→WB h own ok p k xs[i.toNat] cs0 sV Qk d) :
  WB h own ok (.idx i :: p) (.sl e k) xs cs fo wh d:=by
 unfold Ow at H
 rw [if_pos hmem] at H
 obtain ⟨a,n,c,e1,e2,e3,H⟩:=H
 have e2':n=xs.length:=e2
 rcases H with ⟨h0,_⟩ | ⟨b,o,arr,lo,hi,ea,hb,hf,acC,bC,hfl,hp,H⟩
 ·omega
 have acD:bC.length=xs.length:=hfl
 obtain ⟨ds,hcd,hod⟩:=H i.toNat hlt
 have hnd':(b :: bC.flatten).Nodup:=hp.nodup hnd
 have hnb:b∉bC.flatten:=(agL.1 hnd').1
 have hpk:=Eg (bC:=bC) (i:=i.toNat) (by omega)
 have nV:=hpk.nodup (agL.1 hnd').2
 obtain ⟨cs1,fI,rest,kS,hn,hp1,hd1,hc1,hin1,hnone,hup⟩:=ih (Qk:=some (b,o+i.toNat * k.size)) hod
  (fun b' o' e'=>by
   simp only [agb,agn] at e'
   obtain ⟨rfl,rfl⟩:=e'
   exact hcd) (agj.1 nV).1
  (fun b' o' e' hb'=>by
   simp only [agb,agn] at e'
   obtain ⟨rfl,rfl⟩:=e'
   exact hnb (oK hb'))
 have hdl:ds.length=k.size:=dh hod
 have hwn:kS≠none:=fun e'=>by have:=hnone e'; simp at this
 generalize hR:(bC.take i.toNat).flatten++(bC.drop (i.toNat+1)).flatten=R at *
 have hcap:i.toNat * k.size+k.size≤c * k.size:=by
  have:(i.toNat+1) * k.size≤c * k.size:=agJ _ (by omega)
  rw [Nat.add_mul,Nat.one_mul] at this
  exact this
 refine ⟨cs1,fI,b :: (rest++R),kS, ?_, ?_,hd1,hc1, ?_,fun e'=>absurd e' hwn,⟨?_⟩⟩
 ·subst e1
  subst ea
  simp only [bH]
  have:mY h b (o+i.toNat * k.size) k.size=ds:=by
   have:=gN hcd
   rwa [hdl] at this
  rw [this]
  exact hn
 ·refine (hp.trans (.cons b (hpk.trans (List.Perm.append_right _ hp1)))).trans ?_
  rw [agy]
  exact List.perm_middle.symm
 ·intro b' o' e'
  rcases hin1 b' o' e' with ⟨hz,o0,ew,h1,h2⟩ | ⟨h1,jH,e'',lo',hi',g1,g2,g3,g4⟩
  ·simp only [agb,agn] at ew
   obtain ⟨rfl,rfl⟩:=ew
   exact .inr ⟨agK,arr,e,lo,hi,hb,hf,by simp [aa,hz],by omega⟩
  ·refine .inr ⟨by simp [h1],jH,e'',lo',hi',g1,g2, ?_,g4⟩
   simp only [aa,List.getLast?_cons,g3,Option.getD_some]
 ·intro h' ok' t mM qO z hz hl' ht hok hrest hw hcs hb0
  simp only [dU] at hz
  rw [cz hlt] at hz
  cases hs:dU p k xs[i.toNat] t with
  | none=>rw [hs] at hz; simp at hz
  | some u=>
   rw [hs] at hz
   simp only at hz
   cases hck:bT u.1 k u.2 with
   | none=>rw [hck] at hz; simp at hz
   | some y=>
    rw [hck] at hz
    simp only [agb] at hz
    subst hz
    obtain ⟨uk,ux⟩:=u
    unfold bT at hck
    split at hck
    case isFalse=>simp at hck
    rename_i hbq
    have hk:=K.eq_of_beq hbq
    simp only at hk
    subst hk
    simp only [agb] at hck
    subst hck
    have hwb:∀q,kS=some q→q.1∉R:=by
     intro q hq hqR
     rcases hin1 q.1 q.2 hq with ⟨_,o0,ew,_⟩ | ⟨h1,_⟩
     ·simp only [agb,agn] at ew
      exact hnb (hpk.mem_iff.2 (agd _ (ew.1▸hqR)))
     ·exact (agj.1 nV).2.2 q.1 (hp1.mem_iff.2 (agd _ h1)) q.1 hqR rfl
    obtain ⟨ds',hl0,ho0,hc0,_,hnk⟩:=hup.go h' ok' t mM qO ⟨uk,ux⟩ hs hl' ht hok (fun b' hb'=>hrest b' (by simp [hb'])) hw hcs
     (fun b' o' e' hne=>by
      simp only [agb,agn] at e'
      obtain ⟨rfl,rfl⟩:=e'
      exact hrest b agK hne)
    have Ur:∀b'∈R,h' b'=h b':=by
     intro b' hb'
     refine hrest b' (by simp [hb']) ?_
     intro e'
     cases uN:kS with
     | none=>exact absurd uN hwn
     | some q=>
      rw [uN] at e'
      simp only [Option.map_some,agb] at e'
      exact hwb q uN (e'▸hb')
    have hblk:∃jH,h' b=some (.cells jH e (lo,hi))∧jH.size=arr.size∧∀j,¬(o+i.toNat * uk.size≤j∧j<o+i.toNat * uk.size+uk.size)→jH[j]?=arr[j]?:=by
     by_cases hbw:kS.map (·.1)=some b
     ·cases uN:kS with
      | none=>exact absurd uN hwn
      | some q=>
       rw [uN] at hbw
       simp only [Option.map_some,agb] at hbw
       obtain ⟨a1,a2,te,fr,g1,g2,g3,g4⟩:=(hw q.1 q.2 uN).2
       rw [hbw] at g1 g2
       rw [hb] at g1
       simp only [agb,Obj.cells.injEq] at g1
       obtain ⟨rfl,rfl,rfl⟩:=g1
       rcases hin1 q.1 q.2 uN with ⟨_,o0,ew,h1,h2⟩ | ⟨h1,_⟩
       ·simp only [agb,agn] at ew
        refine ⟨a2,g2,g3,fun j hj=>g4 j ?_⟩
        intro hj2
        exact hj (by omega)
       ·exact absurd (hpk.mem_iff.2 (agh _ (hp1.mem_iff.2 (agd _ (hbw▸h1))))) hnb
     ·have:=hrest b agK hbw
      exact ⟨arr,this.trans hb,rfl,fun _ _=>rfl⟩
    obtain ⟨jH,hb',hsz',hsame⟩:=hblk
    have hmul:∀a b:Nat,a<b→a * uk.size+uk.size≤b * uk.size:=by
     intro a b hab
     have:(a+1) * uk.size≤b * uk.size:=agJ _ (by omega)
     rwa [Nat.add_mul,Nat.one_mul] at this
    have KH:∀(j:Nat) (dj:List Value),j≠i.toNat→dj.length=uk.size→Cells h b (o+j * uk.size) dj→Cells h' b (o+j * uk.size) dj:=by
     intro j dj hji hjl h1 q hq
     have:=h1 q hq
     unfold cellAt at this ⊢
     rw [hb] at this
     rw [hb']
     simp only at this ⊢
     rw [hsame _ (by
      rcases Nat.lt_or_gt_of_ne hji with hlt' | XW
      ·have:=hmul j i.toNat hlt'; omega
      ·have:=hmul i.toNat j XW; omega)]
     exact this
    have KI:∀j,j≠i.toNat→∀q∈bC.getD j [],h' q=h q:=by
     intro j hji q hq
     refine Ur q ?_
     rw [←hR]
     by_cases hjf:j<bC.length
     ·rw [agq,agr hjf] at hq
      simp only [Option.getD_some] at hq
      rcases Nat.lt_or_gt_of_ne hji with hlt' | XW
      ·exact agh _ (List.mem_flatten.2 ⟨bC[j],List.mem_take_iff_getElem.2 ⟨j,by omega,rfl⟩,hq⟩)
      ·refine agd _ (List.mem_flatten.2 ⟨bC[j],List.mem_drop_iff_getElem.2 ⟨j - (i.toNat+1),by omega, ?_⟩,hq⟩)
       congr 1
       omega
     ·rw [agq,List.getElem?_eq_none (by omega)] at hq
      simp at hq
    refine ⟨cs,rfl, ?_, ?_,fun _=>rfl, ?_⟩
    ·unfold Ow
     rw [if_pos hmem]
     refine ⟨a,n,c,e1,by rw [e2']; simp,e3, .inr ⟨b,o,jH,lo,hi,ea,hb',by rw [hsz']; exact hf,by rw [hsz']; exact acC,bC.set i.toNat (qO++rest),by simp [acD], ?_, ?_⟩⟩
     ·have:=PK (bC:=bC) (i:=i.toNat) (by omega) (qO++rest)
      rw [hR,agy] at this
      exact (List.perm_middle.trans (.cons b this.symm))
     ·intro j hj
      have hj':j<xs.length:=by simpa using hj
      by_cases hji:j=i.toNat
      ·subst hji
       refine ⟨ds',hc0 b _ rfl, ?_⟩
       have e1:(xs.set i.toNat ux)[i.toNat]'(by simpa using hj')=ux:=by simp
       have e2:(bC.set i.toNat (qO++rest)).getD i.toNat []=qO++rest:=by
        rw [cz (by simp; omega)]; simp
       rw [e2]
       show Ow h' own ok' uk ((xs.set i.toNat ux)[i.toNat]'(by simpa using hj')) ds' _
       rw [e1]
       exact ho0
      ·obtain ⟨dj,h1,h2⟩:=H j hj'
       have hjl:dj.length=uk.size:=dh h2
       refine ⟨dj,KH j dj hji hjl h1, ?_⟩
       have e1:(xs.set i.toNat ux)[j]'(by simpa using hj')=xs[j]:=by
        rw [List.getElem_set_ne (by omega)]
       have e2:(bC.set i.toNat (qO++rest)).getD j []=bC.getD j []:=by
        rw [agq,agq,List.getElem?_set_ne (by omega)]
       rw [e2]
       show Ow h' own ok' uk ((xs.set i.toNat ux)[j]'(by simpa using hj')) dj _
       rw [e1]
       exact bz (fun b hb=>(hok b hb).2) (fun b hb=>(hok b hb).1) (KI j hji) h2
    ·intro b' o' e'
     have hcb:=hc b' o' e'
     by_cases hbw:kS.map (·.1)=some b'
     ·cases uN:kS with
      | none=>exact absurd uN hwn
      | some q=>
       rw [uN] at hbw
       simp only [Option.map_some,agb] at hbw
       have hbf:=hbase b' o' e'
       rcases hin1 q.1 q.2 uN with ⟨_,o0,ew,_⟩ | ⟨h1,_⟩
       ·simp only [agb,agn] at ew
        exact absurd (hp.mem_iff.2 (by rw [←hbw, ←ew.1]; exact agK)) hbf
       ·exact absurd (hp.mem_iff.2 (agB _ (hpk.mem_iff.2 (agh _ (hp1.mem_iff.2 (agd _ (hbw▸h1))))))) hbf
     ·exact hcb.congr (hb0 b' o' e' hbw)
    ·intro bad hkind wF
     obtain ⟨_,_,n2,n4⟩:=hnk bad hkind wF
     refine ⟨fun _=>rfl,rfl, ?_,by
      subst e1
      subst ea
      simp only [bH]
      have hr':mY h' b (o+i.toNat * uk.size) uk.size=ds':=by
       have:=gN (hc0 b _ rfl)
       rwa [hl0,hdl] at this
      rw [hr']
      exact n4⟩
     intro q c0 w0 hq Ya Fj Vq
     cases q with
     | nil=>exact ⟨trivial,_,by rw [←(show (cs,wh)=(c0,w0) from by simpa [bH] using Fj)]; rfl⟩
     | cons sq q=>
      cases sq with
      | fH m=>simp [kJ] at hq
      | idx j=>
       simp only [kJ] at hq
       obtain ⟨hj0,hj1,hq⟩:=hq
       have acV:j<(xs.length:Int):=hj1
       have hjl:j.toNat<xs.length:=by omega
       have ejx:(show List (El uk) from xs).getD j.toNat uk.zero=xs[j.toNat]:=cz hjl
       rw [ejx] at hq
       subst e1
       subst ea
       simp only [bH] at Fj
       have Yb:∀t∈aa q uk,au t own=true∧t∉bad:=fun t ht=>Ya t (by simp [aa,ht])
       have hln:j<((xs.set i.toNat ux).length:Int):=by simpa using acV
       by_cases hji:j.toNat=i.toNat
       ·have hr:mY h b (o+j.toNat * uk.size) uk.size=ds:=by
         rw [hji]
         have:=gN hcd
         rwa [hdl] at this
        rw [hr,hji] at Fj
        have hq':kJ q uk xs[i.toNat]:=by
         have:xs[j.toNat]=xs[i.toNat]:=by congr 1
         rw [←this]; exact hq
        obtain ⟨r1,c1,r2⟩:=n2 q c0 w0 hq' Yb Fj (by
         have:(aP (.idx j :: q) (.sl e uk) (xs.set i.toNat ux)).isSome=true:=Vq
         simp only [aP] at this
         have e3:(show List (El uk) from xs.set i.toNat ux).getD j.toNat uk.zero=ux:=by
          rw [hji,cz (by simpa using hlt)]; simp
         rw [e3] at this
         exact this)
        refine ⟨⟨hj0,hln, ?_⟩,c1, ?_⟩
        ·have:(show List (El uk) from xs.set i.toNat ux).getD j.toNat uk.zero=ux:=by
          rw [hji,cz (by simpa using hlt)]; simp
         rw [this]
         exact r1
        ·simp only [bH]
         have hr':mY h' b (o+j.toNat * uk.size) uk.size=ds':=by
          rw [hji]
          have:=gN (hc0 b _ rfl)
          rwa [hl0,hdl] at this
         rw [hr',hji]
         exact r2
       ·obtain ⟨dj,h1,h2⟩:=H j.toNat hjl
        have UB:dj.length=uk.size:=dh h2
        have hr:mY h b (o+j.toNat * uk.size) uk.size=dj:=by
         have:=gN h1
         rwa [UB] at this
        have hr':mY h' b (o+j.toNat * uk.size) uk.size=dj:=by
         have:=gN (KH j.toNat dj hji UB h1)
         rwa [UB] at this
        rw [hr] at Fj
        refine ⟨⟨hj0,hln, ?_⟩,c0, ?_⟩
        ·have:(show List (El uk) from xs.set i.toNat ux).getD j.toNat uk.zero=xs[j.toNat]:=by
          rw [cz (by simpa using hjl),List.getElem_set_ne (by omega)]
         rw [this]
         exact hq
        ·simp only [bH]
         rw [hr', ←Fj]
         exact Cu q h2 hq (fun t ht=>(Yb t ht).1) (KI j.toNat hji)
theorem focus {h:Heap} {own:List TypeId} {ok:Nat→Prop}:∀(p:List Stp) {k:K} {x:El k} {cs:List Value} {fo:List Nat} {wh:Option (Nat×Nat)} {d:Dat},
  Ow h own ok k x cs fo→(∀b o,wh=some (b,o)→Cells h b o cs)→aP p k x=some d→kJ p k x→(∀t∈aa p k,au t own=true)→fo.Nodup→(∀b o,wh=some (b,o)→b∉fo)→
   WB h own ok p k x cs fo wh d:=by
 intro p
 induction p with
 | nil=>
  intro k x cs fo wh d H hc hg _ _ _ _
  simp only [aP,agb] at hg
  subst hg
  refine ⟨cs,fo,[],wh,rfl,by simp,H,hc,fun b o e=>.inl ⟨rfl,o,e,agt _,agt _⟩,id,⟨?_⟩⟩
  intro h' ok' t mM qO z hz hl ht _ _ hw hn _
  simp only [dU,agb] at hz
  subst hz
  exact ⟨mM,by rw [hl,dh H],by simpa using ht,fun b o e=>(hw b o e).1,hn,fun bad hk wF=>⟨id,hk,wF,rfl⟩⟩
 | cons s p ih=>
  intro k x cs fo wh d H hc hg hin Fp hnd hbase
  cases s with
  | fH n=>
   cases k with
   | st c=>
    simp only [aP] at hg
    cases hcg:aL n c x with
    | none=>rw [hcg] at hg; simp at hg
    | some s=>
     rw [hcg] at hg
     simp only at hg
     simp only [kJ,hcg] at hin
     have hpt:aa (.fH n :: p) (.st c)=aa p s.1:=by simp [aa,bY n hcg]
     rw [hpt] at Fp
     exact Q3 (show Ow h own ok c x cs fo from H) hc hcg hnd hbase (fun H0 hc0 oQ hb0=>ih H0 hc0 hg hin Fp oQ hb0)
   | _=>simp [aP] at hg
  | idx i=>
   cases k with
   | sl e k=>
    simp only [aP] at hg
    simp only [kJ] at hin
    obtain ⟨hi0,hi1,hin⟩:=hin
    have acS:i<((@List.length (El k) x:Nat):Int):=hi1
    have hlt:i.toNat < @List.length (El k) x:=by omega
    have eg:(show List (El k) from x).getD i.toNat k.zero=(show List (El k) from x)[i.toNat]'hlt:=cz hlt
    rw [eg] at hin hg
    exact Q4 (xs:=x) H hc hnd hbase (Fp e (by simp [aa])) hlt (fun H0 hc0 oQ hb0=>ih H0 hc0 hg hin (fun t ht=>Fp t (by simp [aa,ht])) oQ hb0)
   | _=>simp [aP] at hg
end
section
open Go
variable [Fr]
def Prog.ends {α:Type}:Prog α→St→α→Prop
 | .ret a,_,x=>x=a
 | .fail,_,_=>False
 | .slot n k,σ,x=>(k (σ.slots n)).ends σ x
 | .root r k,σ,x=>(k (σ.roots r)).ends σ x
 | .qI c _ k,σ,x=>c∧k.ends σ x
 | .br c t e,σ,x=>(c=true∧t.ends σ x)∨(c=false∧e.ends σ x)
 | .opt _ o k,σ,x=>∃b,o=some b∧(k b).ends σ x
theorem rQ {α R:Type} (p:Prog α) {σ:St} {K:α→Option R} {r:R} (h:p.run σ K=some r):∃x,p.ends σ x∧K x=some r:=by
 induction p with
 | ret a=>exact ⟨a,rfl,h⟩
 | fail=>simp [Prog.run] at h
 | slot n k ih=>exact ih _ h
 | root n k ih=>exact ih _ h
 | qI c d k ih=>
  simp only [Prog.run] at h
  split at h
  ·rename_i hc
   obtain ⟨x,h1,h2⟩:=ih h
   exact ⟨x,⟨hc,h1⟩,h2⟩
  ·simp at h
 | br c t e JG JF=>
  simp only [Prog.run] at h
  split at h
  ·rename_i hc
   obtain ⟨x,h1,h2⟩:=JG h
   exact ⟨x, .inl ⟨hc,h1⟩,h2⟩
  ·rename_i hc
   obtain ⟨x,h1,h2⟩:=JF h
   exact ⟨x, .inr ⟨by simpa using hc,h1⟩,h2⟩
 | opt β o k ih=>
  simp only [Prog.run] at h
  cases ho:o with
  | none=>rw [ho] at h; simp at h
  | some b=>
   rw [ho] at h
   obtain ⟨x,h1,h2⟩:=ih b h
   exact ⟨x,⟨b,rfl,h1⟩,h2⟩
def bN:K→List Value
 | .int ik=>[.int ik 0]
 | .bool=>[.bool false]
 | .str=>[.string ByteArray.empty]
 | .sl _ _=>[.slice none 0 0]
 | .id _=>[.slice none 0 0]
 | .unit=>[]
 | .pair a b=>bN a++bN b
 | .st f=>bN f
 | .gap _=>[]
def oU:K→Value
 | .st f=>.agg (bN f).toArray
 | .int ik=>.int ik 0
 | .bool=>.bool false
 | .str=>.string ByteArray.empty
 | .sl _ _=>.slice none 0 0
 | .id _=>.slice none 0 0
 | _=>undef
def oW (P:Program) (t:TypeId) (k:K):Prop:=∃i,P.info? t=some i∧i.size=k.size∧i.zero=some (oU k)
def iX (P:Program) (T:iF):K→(TypeId→Prop)×(List Field→Nat→Prop)
 | .int ik=>(fun t=>P.underlying t=some (.int ik)∧oW P t (.int ik),fun _ _=>False)
 | .bool=>(fun t=>P.underlying t=some .bool∧oW P t .bool,fun _ _=>False)
 | .str=>(fun t=>P.underlying t=some .string∧oW P t .str,fun _ _=>False)
 | .sl e k=>(fun t=>P.underlying t=some (.slice e)∧oW P t (.sl e k)∧(iX P T k).1 e∧0<k.size∧∃i,P.info? e=some i∧i.bytes=T.bytes e∧0<i.bytes,fun _ _=>False)
 | .unit=>(fun _=>False,fun fs _=>fs=[])
 | .pair a b=>(fun _=>False,fun fs off=>match fs with
  | []=>False
  | f :: fs=>f.offset=off∧(iX P T a).1 f.type∧0<a.size∧(iX P T b).2 fs (off+a.size))
 | .st c=>(fun t=>(∃fs,P.underlying t=some (.struct fs)∧(iX P T c).2 fs.toList 0)∧oW P t (.st c),fun _ _=>False)
 | .gap _=>(fun _=>False,fun _ _=>False)
 | .id e=>(fun t=>P.underlying t=some (.slice e)∧oW P t (.id e)∧T.ids=true,fun _ _=>False)
def fE (P:Program) (T:iF) (t:TypeId) (k:K):Prop:=(iX P T k).1 t
structure dX (P:Program) (T:iF):Prop where
 ty:∀t k,T.ty t=some k→fE P T t k
 ptr:∀t,T.ptr t=true→∃e,P.underlying t=some (.pointer e)
theorem fE.info {P:Program} {T:iF} {t:TypeId} {k:K} (h:fE P T t k):oW P t k:=by
 unfold fE iX at h
 cases k with
 | int ik=>exact h.2
 | bool=>exact h.2
 | id e=>exact h.2.1
 | str=>exact h.2
 | sl e k=>exact h.2.1
 | unit=>exact h.elim
 | pair a b=>exact h.elim
 | st c=>exact h.2
 | gap n=>exact h.elim
def VC (k:K) (v:Value) (cs:List Value):Prop:=match k with
 | .st _=>v=.agg cs.toArray
 | _=>cs=[v]∧∀x,v≠.agg x
theorem VC.cells {k:K} {v:Value} {cs:List Value} (h:VC k v cs):v.cells.toList=cs:=by
 unfold VC at h
 split at h
 ·subst h; simp [Value.cells]
 ·obtain ⟨rfl,hn⟩:=h
  cases v <;> first | rfl | (exact absurd rfl (hn _))
def qj:K→Bool
 | .st _=>true
 | _=>false
theorem fE.isAgg {P:Program} {T:iF} {t:TypeId} {k:K} (h:fE P T t k) (w:World):(Go.isAgg t).run P w=.ok (qj k) w:=by
 unfold fE iX at h
 cases k with
 | int ik=>simp [Go.isAgg,run_underlying h.1,qj]
 | bool=>simp [Go.isAgg,run_underlying h.1,qj]
 | id e=>simp [Go.isAgg,run_underlying h.1,qj]
 | str=>simp [Go.isAgg,run_underlying h.1,qj]
 | sl e k=>simp [Go.isAgg,run_underlying h.1,qj]
 | unit=>exact h.elim
 | pair a b=>exact h.elim
 | st c=>obtain ⟨⟨fs,h1,_⟩,_⟩:=h; simp [Go.isAgg,run_underlying h1,qj]
 | gap n=>exact h.elim
theorem oW.sizeOf {P:Program} {t:TypeId} {k:K} (h:oW P t k) (w:World):(Go.sizeOf t).run P w=.ok k.size w:=by
 obtain ⟨i,h1,h2,_⟩:=h
 simp [Go.sizeOf,run_typeInfo w h1,h2]
theorem oW.zero {P:Program} {t:TypeId} {k:K} (h:oW P t k) (w:World):(Go.zeroValue t).run P w=.ok (oU k) w:=by
 obtain ⟨i,h1,_,h3⟩:=h
 simp [Go.zeroValue,run_typeInfo w h1,h3]
theorem addr_add (b o n:Nat):(⟨b,o,none⟩:Addr).add n=⟨b,o+n,none⟩:=by unfold Addr.add; split <;> simp_all
theorem pJ {P:Program} {T:iF} {t:TypeId} {k:K} {w:World} {b o:Nat} {cs:List Value} {v:Value} (h:fE P T t k) (hc:Cells (hp w) b o cs) (hl:cs.length=k.size) (hv:VC k v cs) :
  (Instr.loadAt t (.pointer (some ⟨b,o,none⟩))).run P w=.ok v w:=by
 have hcell:∀j u,cs[j]?=some u→w.cell? ((⟨b,o,none⟩:Addr).add j)=some u:=by
  intro j u hj
  rw [addr_add,uD,hc j (List.getElem?_eq_some_iff.1 hj).1]
  exact hj
 unfold Instr.loadAt Instr.sureAddr loadVar
 simp only [agD,agI,Result.andThen,h.isAgg w]
 cases k with
 | st c=>
  have e:v=.agg cs.toArray:=hv
  have h2:=run_loadCells_list (P:=P) w ⟨b,o,none⟩ cs hcell
  rw [hl] at h2
  simp [qj,h.info.sizeOf w,h2,Result.andThen,e]
 | unit=>exact (show False from h).elim
 | pair a b=>exact (show False from h).elim
 | gap n=>exact (show False from h).elim
 | int ik=>
  obtain ⟨e,_⟩:cs=[v]∧_:=hv
  have:=hcell 0 v (by rw [e]; rfl)
  rw [addr_add,Nat.add_zero] at this
  simp [qj,this]
 | bool=>
  obtain ⟨e,_⟩:cs=[v]∧_:=hv
  have:=hcell 0 v (by rw [e]; rfl)
  rw [addr_add,Nat.add_zero] at this
  simp [qj,this]
 | id e=>
  obtain ⟨e,_⟩:cs=[v]∧_:=hv
  have:=hcell 0 v (by rw [e]; rfl)
  rw [addr_add,Nat.add_zero] at this
  simp [qj,this]
 | str=>
  obtain ⟨e,_⟩:cs=[v]∧_:=hv
  have:=hcell 0 v (by rw [e]; rfl)
  rw [addr_add,Nat.add_zero] at this
  simp [qj,this]
 | sl e k=>
  obtain ⟨e,_⟩:cs=[v]∧_:=hv
  have:=hcell 0 v (by rw [e]; rfl)
  rw [addr_add,Nat.add_zero] at this
  simp [qj,this]
def eO:K→Bool
 | .gap _=>false
 | .pair a b=>eO a && eO b
 | .st f=>eO f
 | _=>true
theorem iX.eO {P:Program} {T:iF}:∀{k:K},(∀t,(iX P T k).1 t→Ow.eO k=true)∧(∀fs off,(iX P T k).2 fs off→Ow.eO k=true):=by
 intro k
 induction k with
 | int ik=>exact ⟨fun _ _=>rfl,fun _ _ h=>h.elim⟩
 | bool=>exact ⟨fun _ _=>rfl,fun _ _ h=>h.elim⟩
 | id e=>exact ⟨fun _ _=>rfl,fun _ _ h=>h.elim⟩
 | str=>exact ⟨fun _ _=>rfl,fun _ _ h=>h.elim⟩
 | sl e k ih=>exact ⟨fun _ _=>rfl,fun _ _ h=>h.elim⟩
 | unit=>exact ⟨fun _ h=>h.elim,fun _ _ _=>rfl⟩
 | pair a b iha ihb=>
  refine ⟨fun _ h=>h.elim,fun fs off h=>?_⟩
  cases fs with
  | nil=>exact h.elim
  | cons f fs=>simp [Ow.eO,iha.1 _ h.2.1,ihb.2 _ _ h.2.2.2]
 | st f ih=>exact ⟨fun t h=>by obtain ⟨⟨fs,_,h⟩,_⟩:=h; exact ih.2 _ _ h,fun _ _ h=>h.elim⟩
 | gap n=>exact ⟨fun _ h=>h.elim,fun _ _ h=>h.elim⟩
theorem fE.eO {P:Program} {T:iF} {t:TypeId} {k:K} (h:fE P T t k):Ow.eO k=true:=iX.eO.1 t h
theorem EI {h:Heap} {ok:Nat→Prop}:∀{k:K} {x:El k} {cs:List Value},eO k=true→Vw h ok k x cs→∀v∈cs,v.oneCell'=true:=by
 intro k
 induction k with
 | int ik=>intro x cs _ H v hv; rw [H.1] at hv; simp at hv; subst hv; rfl
 | bool=>intro x cs _ H v hv; rw [show cs=_ from H] at hv; simp at hv; subst hv; rfl
 | id e=>intro x cs _ H v hv; rw [show cs=_ from H] at hv; simp only [agw] at hv; subst hv; obtain ⟨a,n,c,h⟩:=Fr.Yr x; rw [h]; rfl
 | str=>intro x cs _ H v hv; obtain ⟨B,rfl,_⟩:=H; simp at hv; subst hv; rfl
 | sl e k ih=>intro x cs _ H v hv; obtain ⟨a,n,c,rfl,_⟩:=H; simp at hv; subst hv; rfl
 | unit=>intro x cs _ H v hv; rw [show cs=_ from H] at hv; simp at hv
 | pair a b iha ihb=>
  intro x cs hg H v hv
  simp [eO] at hg
  obtain ⟨c1,c2,rfl,h1,h2⟩:=H
  rcases agl.1 hv with h | h
  ·exact iha hg.1 h1 v h
  ·exact ihb hg.2 h2 v h
 | st f ih=>intro x cs hg H; exact ih (x:=x) hg H
 | gap n=>intro x cs hg; simp [eO] at hg
theorem IP {h:Heap} {own:List TypeId} {ok:Nat→Prop} {k:K} {x:El k} {cs:List Value} {fo:List Nat} (hg:eO k=true) (H:Ow h own ok k x cs fo):∀v∈cs,v.oneCell'=true:=
 EI hg (jK (fun _=>True) (fun _ _=>trivial) (fun _ _=>trivial) H)
theorem VC.mk {h:Heap} {ok:Nat→Prop} {k:K} {x:El k} {cs:List Value} (hk:∀a b,k≠.pair a b) (hu:k≠.unit) (hg:∀n,k≠.gap n) (H:Vw h ok k x cs):∃v,VC k v cs:=by
 cases k with
 | int ik=>exact ⟨.int ik x,H.1,by simp⟩
 | bool=>exact ⟨.bool x,H,by simp⟩
 | id e=>obtain ⟨a,n,c,h⟩:=Fr.Yr x; exact ⟨Fr.ig x,H,by rw [h]; simp⟩
 | str=>obtain ⟨B,e,_⟩:=H; exact ⟨.string B,e,by simp⟩
 | sl e k=>obtain ⟨a,n,c,e,_⟩:=H; exact ⟨.slice a n c,e,by simp⟩
 | unit=>exact absurd rfl hu
 | pair a b=>exact absurd rfl (hk a b)
 | st c=>exact ⟨.agg cs.toArray,rfl⟩
 | gap n=>exact absurd rfl (hg n)
theorem G6 (w:World) (o:Obj) (b:Nat):hp (w.alloc o) b=if b=w.heap.size then some o else hp w b:=by
 show (w.heap.push o)[b]?=_
 rw [Array.getElem?_push]
 rfl
theorem mF (w:World) (o:Obj) {b:Nat} (h:b<w.heap.size):hp (w.alloc o) b=hp w b:=by
 rw [G6,if_neg (by omega)]
theorem oG (w:World) (o:Obj):hp (w.alloc o) w.heap.size=some o:=by
 rw [G6,if_pos rfl]
theorem zl (w:World) (b o:Nat) (v:Value) {b':Nat} (h:b'≠b):hp (w.setCell ⟨b,o,none⟩ v) b'=hp w b':=by
 simp only [hp,World.setCell,Array.getElem?_modify]
 rw [if_neg (by omega)]
theorem Ap (w:World) (b o:Nat) (v:Value) {arr:Array Value} {e:TypeId} {fr:Nat×Nat} (h:hp w b=some (.cells arr e fr)) :
  hp (w.setCell ⟨b,o,none⟩ v) b=some (.cells (arr.setIfInBounds o v) e fr):=by
 have h':w.heap[b]?=some (.cells arr e fr):=h
 simp [hp,World.setCell,Array.getElem?_modify,h']
theorem qo (b:Nat):∀(vs:List Value) (w:World) (arr:Array Value) (e:TypeId) (fr:Nat×Nat) (o:Nat),hp w b=some (.cells arr e fr)→o+vs.length≤arr.size→
  (∀b',b'≠b→hp (w.setCells b o vs) b'=hp w b')∧(w.setCells b o vs).heap.size=w.heap.size∧
  ∃jH,hp (w.setCells b o vs) b=some (.cells jH e fr)∧jH.size=arr.size∧(∀i,i<vs.length→jH[o+i]?=vs[i]?)∧∀i,¬(o≤i∧i<o+vs.length)→jH[i]?=arr[i]?:=by
 intro vs
 induction vs with
 | nil=>intro w arr e fr o hb _; exact ⟨fun _ _=>rfl,rfl,arr,hb,rfl,fun i hi=>by simp at hi,fun _ _=>rfl⟩
 | cons v vs ih=>
  intro w arr e fr o hb hl
  simp only [agA] at hl
  have h1:=Ap w b o v hb
  obtain ⟨g1,g2,jH,g3,g4,g5,g6⟩:=ih (w.setCell ⟨b,o,none⟩ v) _ e fr (o+1) h1 (by simp; omega)
  refine ⟨fun b' hb'=>(g1 b' hb').trans (zl w b o v hb'),by rw [World.setCells,g2]; simp [World.setCell],jH,g3,by rw [g4]; simp, ?_, ?_⟩
  ·intro i hi
   simp only [agA] at hi
   cases i with
   | zero=>
    rw [g6 _ (by omega)]
    simp only [Nat.add_zero,List.getElem?_cons_zero]
    rw [Array.getElem?_setIfInBounds_self_of_lt (by omega)]
   | succ i=>
    rw [show o+(i+1)=o+1+i from by omega,g5 i (by omega)]
    simp
  ·intro i hi
   simp only [agA] at hi
   rw [g6 i (by omega),Array.getElem?_setIfInBounds_ne (by omega)]
theorem mZ (b:Nat):∀(vs:List Value) (w:World) (o:Nat),(w.setCells b o vs).os=w.os∧(w.setCells b o vs).tape=w.tape∧(w.setCells b o vs).output=w.output:=by
 intro vs
 induction vs with
 | nil=>intro w o; exact ⟨rfl,rfl,rfl⟩
 | cons v vs ih=>intro w o; exact ih (w.setCell ⟨b,o,none⟩ v) (o+1)
theorem kE {P:Program} {w:World} {b o:Nat} {arr:Array Value} {e:TypeId} {lo hi:Nat} (vs:List Value) (hb:hp w b=some (.cells arr e (lo,hi))) (hf:yJ arr.size lo hi)
  (hl:o+vs.length≤arr.size) (h1:∀v∈vs,v.oneCell'=true):(storeCells ⟨b,o,none⟩ vs).run P w=.ok () (w.setCells b o vs):=by
 have:=run_storeCells_cells (P:=P) b o vs 0 w (fun j hj=>by
   rw [uD]
   unfold cellAt
   rw [hb]
   simp only [Nat.add_zero]
   rw [Array.getElem?_eq_getElem (by omega)]
   rfl) (fun j hj=>by
   unfold World.frozen?
   have hb':w.heap[b]?=some (.cells arr e (lo,hi)):=hb
   simp only [hb',Nat.add_zero]
   have:=hf (o+j) (by omega)
   simp
   omega) h1
 simpa using this
theorem zZ {P:Program} {T:iF} {t:TypeId} {k:K} {w:World} {b o:Nat} {cs:List Value} {v:Value} {arr:Array Value} {e:TypeId} {lo hi:Nat} (h:fE P T t k) (hb:hp w b=some (.cells arr e (lo,hi)))
  (hf:yJ arr.size lo hi) (hl:cs.length=k.size) (hs:o+k.size≤arr.size) (hv:VC k v cs) (h1:∀v∈cs,v.oneCell'=true) :
  (Instr.storeAt t (.pointer (some ⟨b,o,none⟩)) v).run P w=.ok () (w.setCells b o cs):=by
 have hc:=hv.cells
 have hsz:v.cells.size=k.size:=by rw [←hl, ←hc]; simp
 unfold Instr.storeAt Instr.sureAddr storeVar
 simp only [agD,agI,Result.andThen,h.info.sizeOf w,Sem.run_ite]
 rw [if_neg (by rw [hsz]; simp)]
 rw [hc]
 exact kE cs hb hf (by omega) h1
theorem CS {P:Program} (t:TypeId) (v:Value) (w:World):(newVar t v).run P w=.ok ⟨w.heap.size,0,none⟩ (w.alloc (.cells v.cells t)):=by
 simp [newVar,newRow]
theorem Eo {P:Program} (t:TypeId) (v:Value) (w:World):(Instr.box t v).run P w=.ok (.pointer (some ⟨w.heap.size,0,none⟩)) (w.alloc (.cells v.cells t)):=by
 simp [Instr.box,CS,Result.andThen]
theorem Ij {P:Program} {T:iF} {t:TypeId} {k:K} (h:fE P T t k) (w:World):(Instr.alloc t true (.tuple #[])).run P w=.ok (.pointer (some ⟨w.heap.size,0,none⟩)) (w.alloc (.cells (oU k).cells t)):=by
 simp [Instr.alloc,h.info.zero w,CS,Result.andThen]
theorem Le:∀{k:K},(∀a b,k≠.pair a b)→k≠.unit→(∀n,k≠.gap n)→VC k (oU k) (bN k):=by
 intro k h1 h2 h3
 cases k with
 | int ik=>exact ⟨rfl,by simp [oU]⟩
 | bool=>exact ⟨rfl,by simp [oU]⟩
 | id e=>exact ⟨rfl,by simp [oU]⟩
 | str=>exact ⟨rfl,by simp [oU]⟩
 | sl e k=>exact ⟨rfl,by simp [oU]⟩
 | unit=>exact absurd rfl h2
 | pair a b=>exact absurd rfl (h1 a b)
 | st c=>rfl
 | gap n=>exact absurd rfl (h3 n)
theorem yH {h:Heap} {own:List TypeId} {ok:Nat→Prop}:∀{k:K},eO k=true→(∀t∈k.tys,au t own=true)→Ow h own ok k k.zero (bN k) []:=by
 intro k
 induction k with
 | int ik=>intro _ _; exact ⟨rfl,rfl,by cases ik <;> simp [CO,K.zero]⟩
 | bool=>intro _ _; exact ⟨rfl,rfl⟩
 | id e=>intro _ _; exact ⟨rfl,by show _=[Fr.ig 0]; rw [Fr.U0]; rfl⟩
 | str=>intro _ _; exact ⟨rfl,ByteArray.empty,rfl,rfl⟩
 | sl e k ih=>
  intro _ ht
  unfold Ow
  rw [if_pos (ht e (by simp [K.tys]))]
  exact ⟨none,0,0,rfl,rfl,agt _, .inl ⟨rfl,rfl⟩⟩
 | unit=>intro _ _; exact ⟨rfl,rfl⟩
 | pair a b iha ihb=>
  intro hg ht
  simp [eO] at hg
  exact ⟨bN a,bN b,[],[],rfl, .refl _,iha hg.1 (fun t h=>ht t (by simp [K.tys,h])),ihb hg.2 (fun t h=>ht t (by simp [K.tys,h]))⟩
 | st f ih=>intro hg ht; exact ih hg ht
 | gap n=>intro hg; simp [eO] at hg
end
section
open Go
variable [Fr]
structure Lm where
 base:Option (Nat×Nat×Nat)
 bl:List Nat
 kp:Bool
structure Cx where
 nt:Nat
 w0:World
 ext:Nat→Nat→Prop
 par:Nat→Option Lm
 ptrs:Nat→List Stp→List TypeId→Value→Prop
 refs:Nat→Value→Prop
structure dK where
 loc:Nat→Nat×Nat
 hdr:Nat→List Value
 fo:Nat→List Nat
def dS (α:dK) (R:Root) (r:Nat):Option (Nat×Nat):=match R.kind with
 | .var _=>some (α.loc r)
 | .par=>some (α.loc r)
 | _=>none
def blk (α:dK) (R:Root) (r:Nat):List Nat:=(match dS α R r with
 | some q=>[q.1]
 | none=>[])++α.fo r
def aO (σ:St) (r:Nat) (R:Root):Prop:=σ.roots r=some R∧R.bn=false
def jU (cx:Cx) (b:Nat):Prop:=∃j pi o n,cx.par j=some pi∧pi.base=some (b,o,n)
def gW (cx:Cx) (σ:St) (α:dK) (F:List Nat) (w:World) (T:List Tag) (b:Nat):Prop:=
 b<w.heap.size∧b∉F∧¬jU cx b∧(∀r R,aO σ r R→b∈blk α R r→∃n,(r,n)∈T)∧
 (b<cx.w0.heap.size→(∃j n,(mW j,n)∈T∧cx.ext j b)∨∃j pi,cx.par j=some pi∧b∈pi.bl)
def bu (σ:St) (R:Root):Prop:=R.bn=false∧bq σ R.wH R.tags=true
def Cz (σ:St) (α:dK) (F:List Nat) (w:World) (T:List Tag) (b:Nat):Prop:=
 b<w.heap.size∧b∉F∧∀r R,aO σ r R→b∈blk α R r→∃n,(r,n)∈T
def CP (cx:Cx) (σ:St) (α:dK) (F:List Nat) (w:World) (bt:TypeId) (k:K) (x:El k) (T:List Tag) (v:Value):Prop:=
 (∃b o,v=.pointer (some ⟨b,o,none⟩))∧(bq σ (bt :: k.tys) T=true→∃b o cs,v=.pointer (some ⟨b,o,none⟩)∧Cells (hp w) b o cs∧Vw (hp w) (gW cx σ α F w T) k x cs∧Cz σ α F w T b∧
  ((bt=SENT∧∀t∈T,fG t.1=true)∨(ry (hp w) b bt∧¬jU cx b)))
def jC (cx:Cx) (σ:St) (α:dK) (F:List Nat) (w:World):List (TypeId×Dat×List Tag)→List Value→Prop
 | [],[]=>True
 | c :: cs,v :: vs=>CP cx σ α F w c.1 c.2.1.1 c.2.1.2 c.2.2 v∧jC cx σ α F w cs vs
 | _,_=>False
def jD:List Stp→K→Option (Nat×K)
 | [],k=>some (0,k)
 | .fH n :: p, .st c=>match bB n c with
  | some q=>match jD p q.2 with
   | some r=>some (q.1+r.1,r.2)
   | none=>none
  | none=>none
 | _,_=>none
def Vz (α:dK) (h:Heap) (r:Nat) (R:Root) (p:List Stp) (q:Nat) (Q:Root) (v:Value):Prop:=
 ∃(e:TypeId) (kk:K) (xs:List (El kk)) (wh:Option (Nat×Nat)) (b:Option Addr) (n c:Nat) (ce:List Value) (hq:Value) (b1 o1 c1:Nat) (arr:Array Value) (lo hi:Nat),
  aP p R.k R.x=some ⟨.sl e kk,xs⟩∧kJ p R.k R.x∧(∀t∈aa p R.k,au t R.own=true)∧bH h p R.k (α.hdr r) (dS α R r)=some ([.slice b n c],wh)∧
  (Q.k=Gj e kk∧Q.kind=.anon)∧α.hdr q=ce++[hq]∧ce.length=kk.size∧v=.slice (some ⟨b1,o1,none⟩) (n+1) c1∧n+1≤c1∧
  h b1=some (.cells arr e (lo,hi))∧yJ arr.size lo hi∧o1+c1 * kk.size≤arr.size∧Cells h b1 (o1+n * kk.size) ce∧
  ((b=some ⟨b1,o1,none⟩∧b1∈α.fo r∧hq=.slice none 0 0∧c=c1)∨(hq=.slice (some ⟨b1,o1,none⟩) 0 c1∧b1∈α.fo q∧(0<n→∃b0 o0,b=some ⟨b0,o0,none⟩∧b0∈α.fo r∧∀i,i<n * kk.size→cellAt h b1 (o1+i)=cellAt h b0 (o0+i))))
def bJ (cx:Cx) (σ:St) (α:dK) (F:List Nat) (w:World):AV→Value→Prop
 | .undef,_=>True
 | .val k x T,v=>(k.flat=true∨bq σ k.tys T=true)→∃cs,VC k v cs∧Vw (hp w) (gW cx σ α F w T) k x cs
 | .iE,v=>∃a,v=.slice a 0 0
 | .ref r g,v=>∀R,aO σ r R→R.g=g→R.kind=.anon∧VC R.k v (α.hdr r)
 | .o8 r p n,v=>∀R,σ.roots r=some R→bu σ R→R.rW=n→∀d,aP p R.k R.x=some d→
   kJ p R.k R.x∧(∀t∈aa p R.k,au t R.own=true)∧∃cs wh,bH (hp w) p R.k (α.hdr r) (dS α R r)=some (cs,wh)∧VC d.1 v cs
 | .ptr r p n,v=>(∃b o,v=.pointer (some ⟨b,o,none⟩))∧∀R,σ.roots r=some R→bu σ R→clean R.h n (dW p R.k)=true→(∀t∈aa p R.k,au t R.own=true)→(aP p R.k R.x).isSome=true→
   kJ p R.k R.x∧∃cs b o,bH (hp w) p R.k (α.hdr r) (dS α R r)=some (cs,some (b,o))∧v=.pointer (some ⟨b,o,none⟩)
 | .iK bt k x T,v=>CP cx σ α F w bt k x T v
 | .oL,v=>v=.pointer none
 | .ve e,v=>∃b,v=.bool b∧(b=true→e=true)
 | .part r g lo hi sz,v=>∃b' b n c,v=.slice b' (hi - lo) (c - lo)∧(lo=0∨c≠lo→b'=b.map (·.add (lo * sz)))∧lo≤hi∧hi≤n∧n≤c∧∀R,aO σ r R→R.g=g→R.kind=.anon∧VC R.k (.slice b n c) (α.hdr r)
 | .Bv r g k p,v=>∃u b off k1,v=.pointer (some ⟨b,off,none⟩)∧Cz σ α F w [] b∧Cells (hp w) b 0 u.cells.toList∧jD p k=some (off,k1)∧∀R,aO σ r R→R.g=g→R.kind=.anon∧VC R.k u (α.hdr r)
 | .tq r p n m,v=>∃b c,v=.slice b m c∧∀R,σ.roots r=some R→bu σ R→R.rW=n→∀d,aP p R.k R.x=some d→
   kJ p R.k R.x∧(∀t∈aa p R.k,au t R.own=true)∧∃q wh,bH (hp w) p R.k (α.hdr r) (dS α R r)=some ([.slice b q c],wh)∧m≤q
 | .app r p n q,v=>∀R,σ.roots r=some R→bu σ R→R.rW=n→∀Q,aO σ q Q→Q.rW=0→Vz α (hp w) r R p q Q v
 | .fn f cs,v=>∃vs:List Value,v=.func (.func f) #[] vs.toArray∧jC cx σ α F w cs vs
def dQ (cx:Cx) (σ:St) (α:dK) (F:List Nat) (w:World):List AV→List Value→Prop
 | [],[]=>True
 | a :: l,v :: vs=>bJ cx σ α F w a v∧dQ cx σ α F w l vs
 | _,_=>False
def MI:K→List Value→List Value→Prop
 | .pair k r,u :: us,cs=>∃c1 c2,cs=c1++c2∧VC k u c1∧c1.length=k.size∧MI r us c2
 | .unit,[],cs=>cs=[]
 | _,_,_=>False
def iM (cx:Cx) (σ:St) (α:dK) (F:List Nat) (w:World):sN→Value→Prop
 | .one a,v=>bJ cx σ α F w a v
 | .C8 l,v=>∃vs:List Value,v=.tuple vs.toArray∧dQ cx σ α F w l vs
 | .lit _ c l,v=>∃vs cs:List Value,(v=.agg cs.toArray∧MI c vs cs)∧dQ cx σ α F w l vs
def yF (σ:St) (t:Tag):Prop:=fG t.1=true∨∃R,σ.roots t.1=some R∧(R.bn=true∨t.2≤gq R.w)
def eP (σ:St) (T:List Tag):Prop:=∀t∈T,yF σ t
def oz (σ:St):AV→Prop
 | .val _ _ T=>eP σ T
 | .ref r g=>∃R,σ.roots r=some R∧(R.bn=true∨g≤R.g)
 | .o8 r _ n=>∃R,σ.roots r=some R∧(R.bn=true∨n≤R.rW)
 | .Bv r g _ _=>∃R,σ.roots r=some R∧(R.bn=true∨g≤R.g)
 | .part r g _ _ _=>∃R,σ.roots r=some R∧(R.bn=true∨g≤R.g)
 | .tq r _ n _=>∃R,σ.roots r=some R∧(R.bn=true∨n≤R.rW)
 | .app r _ n q=>(∃R,σ.roots r=some R∧(R.bn=true∨n≤R.rW))∧∃R,σ.roots q=some R
 | .ptr r _ n=>∃R,σ.roots r=some R∧(R.bn=true∨n≤gq R.h)
 | .iK _ _ _ T=>eP σ T
 | .fn _ cs=>∀c∈cs,eP σ c.2.2
 | _=>True
def sQ (σ:St):sN→Prop
 | .one a=>oz σ a
 | .C8 l=>∀a∈l,oz σ a
 | .lit _ _ l=>∀a∈l,oz σ a
def TD (cx:Cx) (w:World):Prop:=
 w.os=cx.w0.os∧w.tape=cx.w0.tape∧w.output=cx.w0.output∧cx.w0.heap.size≤w.heap.size∧
 (∀b,b<cx.w0.heap.size→(∀j pi,cx.par j=some pi→b∉pi.bl)→hp w b=hp cx.w0 b)∧
 (∀j pi b o n,cx.par j=some pi→pi.base=some (b,o,n)→gB (hp cx.w0) (hp w) b o n)
def mine (cx:Cx) (w:World) (b:Nat):Prop:=b<w.heap.size∧(cx.w0.heap.size≤b∨∃j pi,cx.par j=some pi∧b∈pi.bl)
structure qA (cx:Cx) (σ:St) (α:dK) (F:List Nat) (w:World) (r:Nat) (R:Root):Prop where
 ow:bu σ R→Ow (hp w) R.own (gW cx σ α F w R.tags) R.k R.x (α.hdr r) (α.fo r)
 len:(α.hdr r).length=R.k.size
 mem:∀b o,dS α R r=some (b,o)→Cells (hp w) b o (α.hdr r)∧∃arr e lo hi,hp w b=some (.cells arr e (lo,hi))∧yJ arr.size lo hi∧o+R.k.size≤arr.size∧(∀t,R.kind=.var t→e=t)
 nd:(blk α R r).Nodup
 mine:∀b∈blk α R r,Ow.mine cx w b
structure Rel (cx:Cx) (σ:St) (α:dK) (F:List Nat) (a:Act) (w:World):Prop where
 defs:a.defers=[]
 sz:cx.nt≤a.tmps.size
 jV:∀j pi b o n,cx.par j=some pi→pi.base=some (b,o,n)→∃R,aO σ (ak j) R∧R.kind=.par∧α.loc (ak j)=(b,o)∧R.k.size=n
 yz:∀r R,aO σ r R→R.kind=.par→∃j pi n,r=ak j∧cx.par j=some pi∧pi.base=some ((α.loc r).1,(α.loc r).2,n)
 slots:∀s,iM cx σ α F w (σ.slots s) (a.tmps.getD s undef)
 oO:∀s,sQ σ (σ.slots s)
 roots:∀r R,aO σ r R→qA cx σ α F w r R
 dn:∀r R,σ.roots r=some R→eP σ R.tags∧fG r=false∧(∀n,(r,n)∉R.tags)
 AA:∀r R r' R',aO σ r R→aO σ r' R'→r≠r'→∀b∈blk α R r,b∉blk α R' r'
 fl:∀b∈F,mine cx w b
 uW:F.Nodup
 iD:∀r R,aO σ r R→∀b∈blk α R r,b∉F
 frame:TD cx w
 ql:∀j pi,cx.par j=some pi→pi.kp=true→∃R,σ.roots (ak j)=some R∧(R.bn=false→∀b∈pi.bl,¬jU cx b→
  (∃e,nH (hp cx.w0) b=some e∧(e∈R.w∨e∈R.ew))∨(hp w b=hp cx.w0 b∧b∉F∧∀q Q,aO σ q Q→b∈blk α Q q→q=ak j))
 lW:(∀j pi,cx.par j=some pi→∀b∈pi.bl,b<cx.w0.heap.size)∧(∀b,Fr.free b→b<cx.w0.heap.size∧∀j pi,cx.par j=some pi→b∉pi.bl)∧∀b,Fr.free b→hp cx.w0 b=Fr.obj b
 rE:∀j p ts v,cx.ptrs j p ts v→(∃b o,v=.pointer (some ⟨b,o,none⟩))∧∃R,σ.roots (ak j)=some R∧((∀t∈ts,t∉R.eh)→bJ cx σ α F w (.ptr (ak j) p 0) v)
 rF:∀j v,cx.refs j v→(∃R,σ.roots (ak j)=some R)∧bJ cx σ α F w (.ref (ak j) 0) v
theorem Rel.KZ {cx:Cx} {σ:St} {α:dK} {F:List Nat} {a:Act} {w:World} (H:Rel cx σ α F a w) {b:Nat} (hm:mine cx w b):¬Fr.free b:=by
 intro hf
 obtain ⟨h1,h2⟩:=H.lW.2.1 b hf
 rcases hm.2 with h | ⟨j,pi,h3,h4⟩
 ·omega
 ·exact h2 j pi h3 h4
theorem Rel.fixed {cx:Cx} {σ:St} {α:dK} {F:List Nat} {a:Act} {w:World} (H:Rel cx σ α F a w) {b:Nat} (hf:Fr.free b):hp w b=Fr.obj b:=by
 obtain ⟨h1,h2⟩:=H.lW.2.1 b hf
 rw [H.frame.2.2.2.2.1 b h1 h2]
 exact H.lW.2.2 b hf
theorem Rel.J9 {cx:Cx} {σ:St} {α:dK} {F:List Nat} {a:Act} {w:World} (H:Rel cx σ α F a w) {b:Nat} {t:TypeId} (hm:mine cx w b) (h:ry (hp w) b t):nH (hp w) b=some t:=h.resolve_right (H.KZ hm)
theorem mG {A:Type} (l:List A):gq l=l.length:=by induction l <;> simp_all [gq]
theorem aJ {n:Nat} {l:List Nat}:au n l=true↔n∈l:=by
 induction l with
 | nil=>simp [au]
 | cons m l ih=>
  simp only [au,agp]
  cases h:Nat.beq n m with
  | true=>simp [agf h]
  | false=>simp [ih,Nat.ne_of_beq_eq_false h]
theorem aT {n:Nat} {l:List Nat}:au n l=false↔n∉l:=by rw [←aJ]; simp
theorem FP (a l:List Nat) {n:Nat} (h:n≤gq l):since (a++l) n=a++since l n:=by
 unfold since
 rw [mG] at h
 simp only [mG,agk]
 rw [List.take_append,List.take_of_length_le (by omega)]
 congr 2
 omega
theorem mD {a l:List Nat} {n:Nat} {tys:List Nat} (h:n≤gq l):clean (a++l) n tys=true↔(∀t∈a,t∉tys)∧clean l n tys=true:=by
 unfold clean
 rw [FP a l h,List.all_append,agi,ags]
 simp [aT]
theorem Gv {σ:St} {tys:List TypeId} {t:Tag} {T:List Tag}:bq σ tys (t :: T)=true↔(fG t.1=true∨∃R,σ.roots t.1=some R∧R.bn=false∧clean R.w t.2 tys=true)∧bq σ tys T=true:=by
 obtain ⟨r,n⟩:=t
 simp only [bq,agi]
 cases he:fG r with
 | true=>simp
 | false=>
  simp only [cond_false,age,false_or]
  cases hr:σ.roots r with
  | none=>simp
  | some R=>simp
theorem lN {σ:St} {tys:List TypeId} {T:List Tag}:bq σ tys T=true↔∀t∈T,fG t.1=true∨∃R,σ.roots t.1=some R∧R.bn=false∧clean R.w t.2 tys=true:=by
 induction T with
 | nil=>simp [bq]
 | cons t T ih=>rw [Gv,ih]; simp
def Views (cx:Cx) (σ:St) (α:dK) (F:List Nat) (w:World) (σ':St) (α':dK) (F':List Nat) (w':World):Prop:=
 ∀T tys,eP σ T→bq σ' tys T=true→bq σ tys T=true∧
  (∀b,gW cx σ α F w T b→((∃t∈tys,ry (hp w) b t)∨∀t∈T,fG t.1=true)→gW cx σ' α' F' w' T b∧hp w' b=hp w b)∧
  ∀b,Cz σ α F w T b→((∃t∈tys,ry (hp w) b t)∧¬jU cx b∨∀t∈T,fG t.1=true)→Cz σ' α' F' w' T b∧hp w' b=hp w b
theorem Views.vw {cx:Cx} {σ σ':St} {α α':dK} {F F':List Nat} {w w':World} (H:Views cx σ α F w σ' α' F' w') {T:List Tag} {tys:List TypeId} (hw:eP σ T) (hc:bq σ' tys T=true)
  {k:K} {x:El k} {cs:List Value} (hk:∀t∈k.tys,t∈tys) (h:Vw (hp w) (gW cx σ α F w T) k x cs):Vw (hp w') (gW cx σ' α' F' w' T) k x cs:=by
 obtain ⟨_,h2,_⟩:=H T tys hw hc
 exact fO (fun b hb=>(h2 b hb.1 (.inl hb.2)).2) (fun b hb=>(h2 b hb.1 (.inl hb.2)).1) (A8 tys hk h)
theorem Views.ro {cx:Cx} {σ σ':St} {α α':dK} {F F':List Nat} {w w':World} (H:Views cx σ α F w σ' α' F' w') {bt:TypeId} {k:K} {x:El k} {T:List Tag} {v:Value} (hw:eP σ T)
  (h:CP cx σ α F w bt k x T v):CP cx σ' α' F' w' bt k x T v:=by
 refine ⟨h.1,fun hc=>?_⟩
 obtain ⟨h1,_,h2⟩:=H T _ hw hc
 obtain ⟨b,o,cs,e,hcs,hv,hok,hb⟩:=h.2 h1
 have hb':Cz σ' α' F' w' T b∧hp w' b=hp w b:=h2 b hok (by
  rcases hb with ⟨_,hb⟩ | hb
  ·exact .inr hb
  ·exact .inl ⟨⟨bt,by simp,hb.1⟩,hb.2⟩)
 exact ⟨b,o,cs,e,hcs.congr hb'.2,H.vw hw hc (fun t ht=>by simp [ht]) hv,hb'.1,hb.imp id (fun h=>⟨BD hb'.2 h.1,h.2⟩)⟩
theorem Views.caps {cx:Cx} {σ σ':St} {α α':dK} {F F':List Nat} {w w':World} (H:Views cx σ α F w σ' α' F' w') :
  ∀{cs:List (TypeId×Dat×List Tag)} {vs:List Value},(∀c∈cs,eP σ c.2.2)→jC cx σ α F w cs vs→jC cx σ' α' F' w' cs vs
 | [],[],_,h=>h
 | c :: cs,v :: vs,hw,h=>⟨H.ro (hw c (by simp)) h.1,H.caps (fun c hc=>hw c (by simp [hc])) h.2⟩
 | [],_ :: _,_,h=>h.elim
 | _ :: _,[],_,h=>h.elim
theorem qY {cx:Cx} {σ σ':St} {α α':dK} {F F':List Nat} {w w':World} (H:Views cx σ α F w σ' α' F' w') {R:Root} (hw:eP σ R.tags) (h:bu σ' R):bu σ R:=
 ⟨h.1,(H R.tags R.wH hw h.2).1⟩
end
end Go.Proofs.Ytabnmpabdhmkoaa.Ow

/- A verified reading of translated code: values in place of memory; part A of 6, spaces and remarks taken out. No condition. Own work of this seat. -/
import Derived.Calls
import Derived.Orders
import Derived.Laws.Cells
import Derived.Laws.IdiomCopy
import Derived.Laws.Entries
import Derived.ChangeKeysEq
import Derived.WalkKit
set_option linter.unusedSectionVars false
set_option linter.unusedVariables false
set_option linter.unusedSimpArgs false
namespace Go.Proofs.Ytabnmpabdhmkoaa.Ow
open Go
abbrev abr := @Option.some.injEq
abbrev abt := @Option.bind_some
abbrev abu := @List.mem_append_right
abbrev abv := @Bool.false_eq_true
abbrev abw := @Nat.eq_of_beq_eq_true
abbrev abx := @List.mem_append_left
abbrev aby := @Bool.and_eq_true
abbrev abz := @List.nodup_append
abbrev abA := @List.length_append
abbrev abB := @List.mem_append
abbrev abC := @Int.toNat_natCast
abbrev abD := @Prod.mk.injEq
abbrev abE := @List.mem_cons
abbrev abF := @List.getD_eq_getElem?_getD
abbrev abG := @List.getElem?_eq_getElem
abbrev abH := @List.all_eq_true
abbrev abI := @Nat.le_refl
abbrev abJ := @List.mem_filter
abbrev abK := @Result.andThen_ok
abbrev abL := @List.mem_singleton
abbrev abM := @List.length_singleton
abbrev abN := @List.append_assoc
abbrev abO := @Classical.byContradiction
abbrev abP := @List.length_cons
abbrev abQ := @List.mem_cons_of_mem
abbrev abR := @Sem.run_bind
abbrev abS := @Int.ofNat_lt
abbrev abT := @Bool.not_true
abbrev abU := @List.getElem_mem
abbrev abV := @List.append_nil
abbrev abW := @Sem.run_pure
abbrev abX := @Nat.mul_le_mul_right
abbrev abY := @List.mem_cons_self
abbrev abZ := @List.nodup_cons
abbrev ab0 := @Nat.zero_le
abbrev ab1 := @Option.some.inj
abbrev ab2 := @List.mem_map
abbrev ab3 := @List.mem_flatMap
abbrev ab4 := @Bool.not_false
section
open Go
inductive K where
 | int (k:IntKind)
 | bool
 | str
 | sl (e:TypeId) (k:K)
 | unit
 | pair (a b:K)
 | st (f:K)
 | gap (n:Nat)
 | id (e:TypeId)
 deriving Inhabited
abbrev El:K→Type
 | .int _=>Int
 | .bool=>Bool
 | .str=>List Int
 | .sl _ k=>List (El k)
 | .unit=>Unit
 | .pair a b=>El a×El b
 | .st f=>El f
 | .gap _=>Unit
 | .id _=>Nat
def K.size:K→Nat
 | .int _ | .bool | .str | .sl _ _ | .id _=>1
 | .unit=>0
 | .pair a b=>a.size+b.size
 | .st f=>f.size
 | .gap n=>n
def K.zero:(k:K)→El k
 | .int _=>(0:Int)
 | .bool=>false
 | .str=>([]:List Int)
 | .sl _ _=>[]
 | .unit=>()
 | .pair a b=>(a.zero,b.zero)
 | .st f=>f.zero
 | .gap _=>()
 | .id _=>(0:Nat)
def su:IntKind→IntKind→Bool
 | .i8, .i8 | .i16, .i16 | .i32, .i32 | .i64, .i64 | .u8, .u8 | .u16, .u16 | .u32, .u32 | .u64, .u64=>true
 | _,_=>false
def K.beq:K→K→Bool
 | .int a, .int b=>su a b
 | .bool, .bool=>true
 | .str, .str=>true
 | .sl e a, .sl f b=>Nat.beq e f && a.beq b
 | .unit, .unit=>true
 | .pair a b, .pair c d=>a.beq c && b.beq d
 | .st a, .st b=>a.beq b
 | .gap n, .gap m=>Nat.beq n m
 | .id e, .id f=>Nat.beq e f
 | _,_=>false
theorem tC {a b:IntKind} (h:su a b=true):a=b:=by cases a <;> cases b <;> simp_all [su]
theorem K.eq_of_beq:∀{a b:K},a.beq b=true→a=b:=by
 intro a
 induction a with
 | int k=>intro b h; cases b <;> simp_all [K.beq]; exact tC h
 | sl e k ih=>intro b h; cases b <;> simp_all [K.beq]; exact ih h.2
 | pair a b iha ihb=>intro c h; cases c <;> simp_all [K.beq]; exact ⟨iha h.1,ihb h.2⟩
 | st f ih=>intro b h; cases b <;> simp_all [K.beq]; exact ih h
 | gap n=>intro b h; cases b <;> simp_all [K.beq]
 | id e=>intro b h; cases b <;> simp_all [K.beq]
 | _=>intro b h; cases b <;> simp_all [K.beq]
def K.like:K→K→Bool
 | .gap n,k=>Nat.beq n k.size
 | .pair a b, .pair c d=>a.like c && b.like d
 | .st a, .st b=>a.like b
 | a,b=>a.beq b
def bL (a b:K) (x:El a):Option (El b):=if h:a.beq b=true then some (K.eq_of_beq h▸x) else none
def K.hole:K→K
 | .sl _ _=>.gap 1
 | .pair a b=>.pair a.hole b.hole
 | .st f=>.st f.hole
 | k=>k
def nK:(k:K)→El k→El k.hole
 | .sl _ _,_=>()
 | .pair a b,x=>(nK a x.1,nK b x.2)
 | .st f,x=>nK f x
 | .int _,x=>x
 | .bool,x=>x
 | .str,x=>x
 | .unit,_=>()
 | .gap _,_=>()
 | .id _,x=>x
def K.tys:K→List TypeId
 | .sl e k=>e :: k.tys
 | .pair a b=>a.tys++b.tys
 | .st f=>f.tys
 | _=>[]
def K.flat:K→Bool
 | .sl _ _ | .gap _=>false
 | .pair a b=>a.flat && b.flat
 | .st f=>f.flat
 | _=>true
def Cont:List K→Type
 | []=>Unit
 | k :: ks=>El k×Cont ks
def Cont.app:(ks ls:List K)→Cont ks→Cont ls→Cont (ks++ls)
 | [],_,_,d=>d
 | _ :: ks,ls,c,d=>(c.1,Cont.app ks ls c.2 d)
inductive Stp where
 | fu (n:Nat)
 | idx (i:Int)
abbrev Dat:=(k:K)×El k
def mh (d:Dat):Dat:=⟨d.1.hole,nK d.1 d.2⟩
def aC:Nat→(c:K)→El c→Option Dat
 | 0, .pair a _,x=>some ⟨a,x.1⟩
 | n+1, .pair _ b,x=>aC n b x.2
 | _,_,_=>none
def aI:List Stp→(k:K)→El k→Option Dat
 | [],k,x=>some ⟨k,x⟩
 | .fu n :: p, .st c,x=>match aC n c x with
  | some d=>aI p d.1 d.2
  | none=>none
 | .idx i :: p, .sl _ k,xs=>aI p k ((show List (El k) from xs).getD i.toNat k.zero)
 | _,_,_=>none
def bT:Nat→(c:K)→El c→Dat→Option Dat
 | 0, .pair _ b,x,d=>some ⟨.pair d.1 b,(d.2,x.2)⟩
 | n+1, .pair a b,x,d=>match bT n b x.2 d with
  | some z=>some ⟨.pair a z.1,(x.1,z.2)⟩
  | none=>none
 | _,_,_,_=>none
def dL:List Stp→(k:K)→El k→Dat→Option Dat
 | [],_,_,d=>some d
 | .fu n :: p, .st c,x,d=>match aC n c x with
  | some s=>match dL p s.1 s.2 d with
   | some t=>match bT n c x t with
    | some z=>some ⟨.st z.1,z.2⟩
    | none=>none
   | none=>none
  | none=>none
 | .idx i :: p, .sl e k,xs,d=>match dL p k ((show List (El k) from xs).getD i.toNat k.zero) d with
  | some t=>match bL t.1 k t.2 with
   | some y=>some ⟨.sl e k,(show List (El k) from xs).set i.toNat y⟩
   | none=>none
  | none=>none
 | _,_,_,_=>none
def Stp.lM:Stp→Bool
 | .fu _=>true
 | .idx _=>false
def aa:List Stp→K→List TypeId
 | .fu n :: p, .st c=>match yl n c with
  | some k=>aa p k
  | none=>[]
 | .idx _ :: p, .sl e k=>e :: aa p k
 | _,_=>[]
where yl:Nat→K→Option K
 | 0, .pair a _=>some a
 | n+1, .pair _ b=>yl n b
 | _,_=>none
abbrev Tag:=Nat×Nat
inductive AV where
 | undef
 | val (k:K) (x:El k) (tags:List Tag)
 | gK
 | ref (r g:Nat)
 | mU (r:Nat) (p:List Stp) (v:Nat)
 | ptr (r:Nat) (p:List Stp) (h:Nat)
 | gV (bt:TypeId) (k:K) (x:El k) (tags:List Tag)
 | mE
 | zo (r g:Nat) (k:K) (p:List Stp)
 | sI (e:Bool)
 | part (r g lo hi sz:Nat)
 | qE (r:Nat) (p:List Stp) (v m:Nat)
 | app (r:Nat) (p:List Stp) (v q:Nat)
 | fn (f:Nat) (caps:List (TypeId×Dat×List Tag))
inductive qH where
 | one (a:AV)
 | Cb (l:List AV)
 | lit (t:TypeId) (c:K) (l:List AV)
inductive xJ where
 | anon
 | var (t:TypeId)
 | par
 | dead
structure Root where
 k:K
 x:El k
 own:List TypeId
 tags:List Tag
 w:List TypeId
 h:List TypeId
 g:Nat
 kind:xJ
 fixed:Bool
 keep:Bool
 ew:List TypeId:=[]
 eh:List TypeId:=[]
def Root.aT (R:Root):Bool:=match R.kind with
 | .dead=>true
 | _=>false
def Root.isVar (R:Root):Bool:=match R.kind with
 | .var _=>true
 | _=>false
def bN:Root:={ k:=.unit,x:=(),own:=[],tags:=[],w:=[],h:=[],g:=0,kind:=.dead,fixed:=true,keep:=true }
structure St where
 slots:Nat→qH
 roots:Nat→Option Root
inductive Loc where
 | s (n:Nat)
 | r (n:Nat)
inductive Wr where
 | s (n:Nat) (a:qH)
 | r (n:Nat) (o:Option Root)
def Loc.beq:Loc→Loc→Bool
 | .s a, .s b=>Nat.beq a b
 | .r a, .r b=>Nat.beq a b
 | _,_=>false
def Wr.loc:Wr→Loc
 | .s n _=>.s n
 | .r n _=>.r n
def upd {α:Type} (f:Nat→α) (n:Nat) (v:α):Nat→α:=fun m=>bif Nat.beq m n then v else f m
def Wr.app (w:Wr) (σ:St):St:=match w with
 | .s n a=>{ σ with slots:=upd σ.slots n a }
 | .r n (some R)=>{ σ with roots:=upd σ.roots n (some R) }
 | .r n none=>{ σ with roots:=upd σ.roots n (some bN) }
def aj:List Wr→St→St
 | [],σ=>σ
 | w :: ws,σ=>aj ws (w.app σ)
inductive Prog (α:Type):Type 1 where
 | ret (a:α)
 | fail
 | slot (n:Nat) (k:qH→Prog α)
 | root (r:Nat) (k:Option Root→Prog α)
 | nY (c:Prop) (d:Decidable c) (k:Prog α)
 | br (c:Bool) (t e:Prog α)
 | opt (β:Type) (o:Option β) (k:β→Prog α)
def Prog.bind {α β:Type}:Prog α→(α→Prog β)→Prog β
 | .ret a,f=>f a
 | .fail,_=>.fail
 | .slot n k,f=>.slot n fun v=>(k v).bind f
 | .root r k,f=>.root r fun v=>(k v).bind f
 | .nY c d k,f=>.nY c d (k.bind f)
 | .br c t e,f=>.br c (t.bind f) (e.bind f)
 | .opt β o k,f=>.opt β o fun b=>(k b).bind f
def Prog.run {α R:Type}:Prog α→St→(α→Option R)→Option R
 | .ret a,_,K=>K a
 | .fail,_,_=>none
 | .slot n k,σ,K=>(k (σ.slots n)).run σ K
 | .root r k,σ,K=>(k (σ.roots r)).run σ K
 | .nY c d k,σ,K=>@ite _ c d (k.run σ K) none
 | .br c t e,σ,K=>if c=true then t.run σ K else e.run σ K
 | .opt _ o k,σ,K=>o.bind fun b=>(k b).run σ K
def Prog.yA {α R:Type}:Prog α→St→List Loc→(α→List Loc→Option R)→Option R
 | .ret a,_,l,K=>K a l
 | .fail,_,_,_=>none
 | .slot n k,σ,l,K=>(k (σ.slots n)).yA σ (.s n :: l) K
 | .root r k,σ,l,K=>(k (σ.roots r)).yA σ (.r r :: l) K
 | .nY c d k,σ,l,K=>@ite _ c d (k.yA σ l K) none
 | .br c t e,σ,l,K=>if c=true then t.yA σ l K else e.yA σ l K
 | .opt _ o k,σ,l,K=>o.bind fun b=>(k b).yA σ l K
def tQ:List Wr→Nat→Option qH
 | [],_=>none
 | .s m a :: ws,n=>match tQ ws n with
  | some b=>some b
  | none=>bif Nat.beq n m then some a else none
 | .r _ _ :: ws,n=>tQ ws n
def vk:List Wr→Nat→Option (Option Root)
 | [],_=>none
 | .r m o :: ws,n=>match vk ws n with
  | some b=>some b
  | none=>bif Nat.beq n m then some (some (o.getD bN)) else none
 | .s _ _ :: ws,n=>vk ws n
def Prog.over {α:Type} (ws:List Wr):Prog α→Prog α
 | .ret a=>.ret a
 | .fail=>.fail
 | .slot n k=>match tQ ws n with
  | some v=>(k v).over ws
  | none=>.slot n fun v=>(k v).over ws
 | .root r k=>match vk ws r with
  | some v=>(k v).over ws
  | none=>.root r fun v=>(k v).over ws
 | .nY c d k=>.nY c d (k.over ws)
 | .br c t e=>.br c (t.over ws) (e.over ws)
 | .opt β o k=>.opt β o fun b=>(k b).over ws
def Oc (p q:Prog (List Wr)):Prog (List Wr):=p.bind fun ws=>(q.over ws).bind fun vs=>.ret (ws++vs)
end
section
open Go
def aA (n:Nat):List Nat→Bool
 | []=>false
 | m :: l=>bif Nat.beq n m then true else aA n l
def qY (l m:List Nat):Bool:=l.all fun n=>aA n m
def fF {α:Type}:List α→Nat
 | []=>0
 | _ :: l=>fF l+1
def aL (j:Nat):Nat:=4 * j
def j4 (j:Nat):Nat:=4 * j+1
def aS (d c:Nat):Nat:=4 * (8 * d+c)+2
def eH (r:Nat):Bool:=Nat.beq (r % 4) 1
def since (l:List Nat) (n:Nat):List Nat:=l.take (fF l - n)
def clean (l:List Nat) (n:Nat) (tys:List Nat):Bool:=(since l n).all fun t=>!aA t tys
def bytesOf (s:ByteArray):List Int:=s.data.toList.map fun b=>(b.toNat:Int)
inductive fG where
 | val (k:K) (fU:List Nat)
 | ro (k:K)
 | rw (k:K) (ow wt ht:List TypeId)
 | into (j:Nat) (p:List (Option Nat))
 | oV (k:K) (ow wt:List TypeId)
 | own (k:K) (ow:List TypeId)
 | fn (f:Nat) (ks:List K)
inductive wU where
 | val (k:K) (exts fU:List Nat)
 | own (k:K) (ow:List TypeId) (exts fU:List Nat)
 | ptr (t:TypeId) (k:K) (ow:List TypeId) (exts:List Nat)
 | into (j:Nat) (p:List (Option Nat))
def fG.kin:fG→List K
 | .val k _ | .ro k | .rw k _ _ _ | .oV k _ _ | .own k _=>[k]
 | .into _ p=>p.filterMap fun | none=>some (.int .i64) | some _=>none
 | .fn _ ks=>ks
def fG.kR:fG→List K
 | .rw k _ _ _ | .oV k _ _=>[k]
 | _=>[]
def wU.kK:wU→List K
 | .val k _ _ | .own k _ _ _ | .ptr _ k _ _=>[k]
 | .into _ _=>[.int .i64]
def kin:List fG→List K
 | []=>[]
 | p :: ps=>p.kin++kin ps
def kR:List fG→List K
 | []=>[]
 | p :: ps=>p.kR++kR ps
def kK:List wU→List K
 | []=>[]
 | p :: ps=>p.kK++kK ps
structure Entry where
 f:FuncId
 ps:List fG
 rs:List wU
 F:Nat→Cont (kin ps)→Option (Cont (kK rs++kR ps))
structure gL where
 ty:TypeId→Option K
 bytes:TypeId→Nat
 ptr:TypeId→Bool
 eq:TypeId→Bool
 ids:Bool:=false
structure Hint where
 nt:Nat
 Xy:List Nat
 loops:List (Nat×List Nat×List Nat)
 less:List (Nat×List TypeId)
 calls:List (Nat×Option Nat×Entry)
 gU:List (Nat×K×List TypeId×List TypeId)
 wide:List (Nat×List Nat):=[]
 parts:List Nat:=[]
 apps:List Nat:=[]
section
variable {α:Type}
def jX:List Tag→List TypeId→Prog α→Prog α
 | [],_,k=>k
 | (r,n) :: ts,tys,k=>bif eH r then jX ts tys k else .root r fun
  | some R=>bif !R.aT && clean R.w n tys then jX ts tys k else .fail
  | none=>.fail
def aK (own:List TypeId):K→List TypeId
 | .sl e k=>bif aA e own then aK own k else e :: k.tys
 | .pair a b=>aK own a++aK own b
 | .st f=>aK own f
 | _=>[]
def Root.uK (R:Root):List TypeId:=aK R.own R.k
def mG (r:Nat) (k:Root→Prog α):Prog α:=.root r fun
 | some R=>bif R.aT then .fail else jX R.tags R.uK (k R)
 | none=>.fail
def Root.pR (R:Root):Nat:=fF R.w+fF R.h
def Root.out (R:Root) (r:Nat) (k:K):List Tag:=bif k.flat then [] else bif k.tys.any (fun t=>aA t R.own) then (r,fF R.w) :: R.tags else R.tags
def gG (r:Nat) (k:Prog α):Prog α:=.root r fun
 | none=>k
 | some _=>.fail
def Rz:IntKind→Int→Bool
 | .u8,n=>Int.blt n 256 && Int.ble 0 n
 | _,_=>true
where
 Int.blt (a b:Int):Bool:=decide (a<b)
 Int.ble (a b:Int):Bool:=decide (a≤b)
def LH:Value→AV
 | .int k n=>bif Rz k n then .val (.int k) n [] else .undef
 | .bool b=>.val .bool b []
 | .string s=>.val .str (bytesOf s) []
 | .slice none 0 0=>.gK
 | .pointer none=>.mE
 | _=>.undef
def nS (x:Operand) (k:qH→Prog α):Prog α:=match x with
 | .tmp t=>.slot t k
 | .const v=>k (.one (LH v))
 | .func f=>k (.one (.fn f []))
 | .global _=>.fail
def dz (x:Operand) (k:AV→Prog α):Prog α:=nS x fun
 | .one a=>k a
 | _=>.fail
def nW (a:AV) (k:(kk:K)→El kk→List Tag→Prog α):Prog α:=match a with
 | .val kk x tags=>jX tags kk.tys (k kk x tags)
 | .ref r g=>mG r fun R=>bif Nat.beq R.g g then k R.k R.x (R.out r R.k) else .fail
 | .mU r p h=>mG r fun R=>bif Nat.beq R.pR h then
   match aI p R.k R.x with
   | some d=>k d.1 d.2 (R.out r d.1)
   | none=>.fail
  else .fail
 | _=>.fail
def asInt (a:AV) (k:IntKind→Int→Prog α):Prog α:=match a with
 | .val (.int ik) n _=>k ik n
 | _=>.fail
def asBool (a:AV) (k:Bool→Prog α):Prog α:=match a with
 | .val .bool b _=>k b
 | _=>.fail
def Wr.nG:Wr→List Nat
 | .r n _=>[n]
 | .s _ _=>[]
def wV:List Nat→Bool
 | []=>true
 | n :: l=>!aA n l && wV l
def sU (ws:List Wr) (tags:List Tag):Bool:=tags.all fun t=>!aA t.1 (ws.flatMap Wr.nG)
def wN (ws:List Wr) (tags:List Tag):Bool:=wV (ws.flatMap Wr.nG) && sU ws tags
structure gp where
 k:K
 x:El k
 own:List TypeId
 tags:List Tag
 ws:List Wr
 keep:Bool
abbrev mI:Nat:=4294967294
def fI:List Stp→K→List TypeId
 | [],_=>[]
 | p,k=>mI :: aa p k
def mY (k:K):List TypeId:=match k.tys with
 | []=>[mI]
 | _=>[]
def uP (R:Root) (p:List Stp) (d:Dat):Option Root:=
 match dL p R.k R.x (mh d) with
 | some z=>some { R with k:=z.1,x:=z.2,w:=d.1.tys++R.w,h:=mY d.1++d.1.tys++R.h }
 | none=>none
def qm (want:K) (a:AV) (k:gp→Prog α):Prog α:=match a with
 | .val kk x tags=>jX tags kk.tys (k ⟨kk,x,[],tags,[],false⟩)
 | .gK=>match want with
  | .sl e kk=>k ⟨.sl e kk,[],e :: kk.tys,[],[],false⟩
  | _=>.fail
 | .ref r g=>mG r fun R=>bif Nat.beq R.g g && !R.fixed then k ⟨R.k,R.x,R.own,R.tags,[.r r none],R.keep⟩ else .fail
 | .mU r p h=>mG r fun R=>bif Nat.beq R.pR h then
   match aI p R.k R.x with
   | some d=>bif p.all Stp.lM && !R.fixed && (!p.isEmpty || R.isVar) then
     match uP R p d with
     | some R'=>k ⟨d.1,d.2,d.1.tys.filter (fun t=>aA t R.own),R.tags,[.r r (some R')],R.keep⟩
     | none=>.fail
    else jX (R.out r d.1) d.1.tys (k ⟨d.1,d.2,[],R.out r d.1,[],false⟩)
   | none=>.fail
  else .fail
 | .part r g lo hi sz=>mG r fun R=>bif Nat.beq R.g g && !R.fixed && Nat.beq lo 0 then match R.k,R.x with
   | .sl e kk,xs=>bif kk.flat && aA e R.own && Nat.beq kk.size sz then k ⟨.sl e kk,(show List (El kk) from xs).take hi,R.own,R.tags,[.r r none],R.keep⟩ else .fail
   | _,_=>.fail
  else .fail
 | _=>.fail
def sw:List Int→List Int→Bool
 | _,[]=>false
 | [],_ :: _=>true
 | a :: x,b :: y=>decide (a<b) || (decide (a=b) && sw x y)
def rP:(k:K)→El k→El k→Bool
 | .int _,x,y=>decide ((show Int from x)=y)
 | .bool,x,y=>(show Bool from x) == y
 | .str,x,y=>decide ((show List Int from x)=y)
 | .pair .unit .unit,_,_=>true
 | .pair a .unit,x,y=>rP a x.1 y.1
 | .pair a b,x,y=>rP a x.1 y.1 && rP b x.2 y.2
 | .st f,x,y=>rP f x y
 | _,_,_=>true
def v1 (k:K) (x:El k):qH:=.one (.val k x [])
def Ic (op:BinOp) (ik:IntKind) (x y:Int) (k:qH→Prog α):Prog α:=match op with
 | .add=>k (v1 (.int ik) (ik.wrap (x+y)))
 | .sub=>k (v1 (.int ik) (ik.wrap (x - y)))
 | .mul=>k (v1 (.int ik) (ik.wrap (x * y)))
 | .quo=>.nY (y≠0) inferInstance (k (v1 (.int ik) (ik.wrap (x.tdiv y))))
 | .rem=>.nY (y≠0) inferInstance (k (v1 (.int ik) (x.tmod y)))
 | .and=>k (v1 (.int ik) (ik.wrap (BitVec.ofInt ik.bits x &&& BitVec.ofInt ik.bits y).toNat))
 | .or=>k (v1 (.int ik) (ik.wrap (BitVec.ofInt ik.bits x ||| BitVec.ofInt ik.bits y).toNat))
 | .xor=>k (v1 (.int ik) (ik.wrap (BitVec.ofInt ik.bits x ^^^ BitVec.ofInt ik.bits y).toNat))
 | .andNot=>k (v1 (.int ik) (ik.wrap (BitVec.ofInt ik.bits x &&& ~~~ BitVec.ofInt ik.bits y).toNat))
 | .eql=>k (v1 .bool (decide (x=y)))
 | .neq=>k (v1 .bool (!decide (x=y)))
 | .lss=>k (v1 .bool (decide (x<y)))
 | .leq=>k (v1 .bool (decide (x≤y)))
 | .gtr=>k (v1 .bool (decide (x>y)))
 | .geq=>k (v1 .bool (decide (x≥y)))
 | _=>.fail
def Mt (op:BinOp) (x y:List Int) (k:qH→Prog α):Prog α:=match op with
 | .add=>.nY (x.length+y.length≤9223372036854775807) inferInstance (k (v1 .str (x++y)))
 | .eql=>k (v1 .bool (decide (x=y)))
 | .neq=>k (v1 .bool (!decide (x=y)))
 | .lss=>k (v1 .bool (sw x y))
 | .leq=>k (v1 .bool (sw x y || decide (x=y)))
 | .gtr=>k (v1 .bool (!(sw x y || decide (x=y))))
 | .geq=>k (v1 .bool (!sw x y))
 | _=>.fail
def EG (a b:AV):Option Bool:=match a,b with
 | .mE, .mE=>some true
 | .mE, .ptr _ _ _ | .ptr _ _ _, .mE=>some false
 | .mE, .gV _ _ _ _ | .gV _ _ _ _, .mE=>some false
 | _,_=>none
def DJ (T:gL) (t:TypeId) (op:BinOp) (a b:AV) (k:qH→Prog α):Prog α:=match a,b with
 | .val (.int ik) x _, .val (.int jk) y _=>match op with
  | .shl=>.nY (0≤y) inferInstance (k (v1 (.int ik) (ik.wrap (x * 2 ^ min y.toNat ik.bits))))
  | .shr=>.nY (0≤y) inferInstance (k (v1 (.int ik) (x.fdiv (2 ^ min y.toNat ik.bits))))
  | _=>bif su ik jk then Ic op ik x y k else .fail
 | .val .bool x _, .val .bool y _=>match T.ty t,op with
  | some .bool, .eql=>k (v1 .bool (x == y))
  | some .bool, .neq=>k (v1 .bool (!(x == y)))
  | _,_=>.fail
 | .val .str x _, .val .str y _=>Mt op x y k
 | .val (.st c) x _, .val (.st d) y _=>match bL (.st d) (.st c) y with
  | some y'=>bif (c.flat && T.eq t) && (match T.ty t with | some kk=>kk.beq (.st c) | none=>false) then match op with
    | .eql=>k (v1 .bool (rP c x y'))
    | .neq=>k (v1 .bool (!rP c x y'))
    | _=>.fail
   else .fail
  | none=>.fail
 | a,b=>bif T.ptr t then match EG a b,op with
  | some t, .eql=>k (v1 .bool t)
  | some t, .neq=>k (v1 .bool (!t))
  | _,_=>.fail
  else .fail
def Lx:Operand→Bool
 | .const (.slice none 0 0)=>true
 | _=>false
def Pg:BinOp→Bool
 | .eql=>true
 | _=>false
def U6 (T:gL) (t:TypeId) (a:AV) (k:AV→Prog α):Prog α:=match T.ty t with
 | some (.sl _ _)=>nW a fun kk x _=>match kk,x with
  | .sl _ kk,xs=>k (.sI (show List (El kk) from xs).isEmpty)
  | _,_=>.fail
 | _=>.fail
def FH (T:gL) (t:TypeId) (op:BinOp) (x y:Operand) (k:qH→Prog α):Prog α:=
 bif Lx y && Pg op then dz x fun a=>U6 T t a fun v=>k (.one v) else dz x fun a=>dz y fun b=>DJ T t op a b k
def YV (op:UnOp) (a:AV) (k:qH→Prog α):Prog α:=match op,a with
 | .neg, .val (.int ik) x _=>k (v1 (.int ik) (ik.wrap (0 - x)))
 | .xor, .val (.int ik) x _=>k (v1 (.int ik) (ik.wrap (BitVec.ofInt ik.bits (if ik.signed then -1 else ik.max) ^^^ BitVec.ofInt ik.bits x).toNat))
 | .not, .val .bool b _=>k (v1 .bool (!b))
 | _,_=>.fail
def aD (k:K) (x:El k) (ow:List TypeId) (tags:List Tag) (kind:xJ) (keep:Bool:=false):Root:={ k,x,own:=ow,tags,w:=[],h:=[],g:=0,kind,fixed:=false,keep }
def Root.bt (R:Root):TypeId:=match R.kind with
 | .var t=>t
 | _=>4294967295
def dS (R:Root) (p:List Stp):TypeId:=(aa p R.k).getLastD R.bt
def yL (p:List Stp) (R:Root):Bool:=(aa p R.k).all fun t=>aA t R.own
def addrOf (a:AV) (rd:Root→Nat→List Stp→Dat→Prog α) (ro:TypeId→Dat→List Tag→Prog α):Prog α:=match a with
 | .ptr r p h=>mG r fun R=>bif clean R.h h (fI p R.k) && yL p R then
   match aI p R.k R.x with
   | some d=>rd R r p d
   | none=>.fail
  else .fail
 | .gV bt k x tags=>jX tags (bt :: k.tys) (ro bt ⟨k,x⟩ tags)
 | _=>.fail
def wF (T:gL) (mU:Bool) (t:TypeId) (a:AV) (k:AV→Prog α):Prog α:=
 match T.ty t with
 | none=>.fail
 | some kk=>match a with
  | .zo r g k0 p=>mG r fun R=>bif Nat.beq R.g g && R.k.beq k0 && p.all Stp.lM then
    match aI p R.k R.x with
    | some d=>bif d.1.beq kk then (bif d.1.flat then k (.val d.1 d.2 []) else k (.mU r p R.pR)) else .fail
    | none=>.fail
   else .fail
  | a=>addrOf a
   (fun R r p d=>bif d.1.beq kk then (bif mU && !d.1.flat then k (.mU r p R.pR) else k (.val d.1 d.2 (R.out r d.1))) else .fail)
   (fun _ d tags=>bif d.1.beq kk then k (.val d.1 d.2 (bif d.1.flat then [] else tags)) else .fail)
def aZ (own bad:List TypeId):List TypeId:=own.filter fun t=>!aA t bad
def gH:List Tag→List Tag→List Tag
 | [],m=>m
 | (r,n) :: l,m=>bif m.any fun t=>Nat.beq t.1 r && Nat.beq t.2 n then gH l m else (r,n) :: gH l m
def qh (r:Nat) (l:List Tag):List Tag:=l.filter fun t=>!Nat.beq t.1 r
def gp.bad (tk:gp):List TypeId:=aK tk.own tk.k
def Dc (R:Root) (r:Nat) (tags:List Tag) (bad:List TypeId):Bool:=tags.all (fun t=>!Nat.beq t.1 r) || match R.kind with
 | .par=>false
 | .var t=>!aA t bad
 | _=>true
def C8 (R:Root) (r:Nat) (p:List Stp) (d:Dat) (tk:gp):Option (Root×Dat):=
 bif !d.1.flat && p.all Stp.lM && !R.keep && (!p.isEmpty || R.isVar) && tk.tags.all (fun t=>!Nat.beq t.1 r) then
  match uP R p d with
  | some Rg=>match tk.own.filter (fun t=>!aA t R.own && aA t d.1.tys && !aA t Rg.k.tys) with
   | []=>none
   | l=>some ({ Rg with own:=l++R.own },mh d)
  | none=>none
 else none
def storeAt (kk:K) (r:Nat) (p:List Stp) (tk:gp) (R:Root) (d:Dat) (k:List Wr→Prog α):Prog α:=
 bif (d.1.beq kk || (d.1.beq kk.hole && p.all Stp.lM)) && (kk.flat || Dc R r tk.tags tk.bad) && (aa p R.k).all (fun t=>!aA t tk.bad) then
  match dL p R.k R.x ⟨tk.k,tk.x⟩ with
  | some z=>bif R.keep && !kk.tys.all (fun t=>!aA t R.own || aA t tk.own) then .fail else
   k (tk.ws++[.r r (some { R with
    keep:=R.keep || tk.keep
    k:=z.1,x:=z.2
    own:=aZ R.own tk.bad
    tags:=bif kk.flat then R.tags else gH (qh r tk.tags) R.tags
    w:=dS R p :: R.w
    h:=(bif d.1.beq kk then [] else mY kk)++kk.tys++R.h })])
  | none=>.fail
 else .fail
def GM (T:gL) (t:TypeId) (a v:AV) (k:List Wr→Prog α):Prog α:=
 match T.ty t,a with
 | some kk, .ptr r p h=>qm kk v fun tk=>bif tk.k.beq kk && tk.ws.all (fun w=>!w.loc.beq (.r r)) then
   mG r fun R=>bif clean R.h h (fI p R.k) && yL p R && sU tk.ws R.tags then
    match aI p R.k R.x with
    | some d=>match C8 R r p d tk with
     | some q=>jX q.1.tags q.1.uK (storeAt kk r p tk q.1 q.2 k)
     | none=>storeAt kk r p tk R d k
    | none=>.fail
   else .fail
  else .fail
 | _,_=>.fail
def zG (kk:K) (a:AV) (n:Nat) (k:AV→Prog α):Prog α:=match a with
 | .val (.st c) x tags=>bif (K.st c).beq kk then match aC n c x with
  | some d=>jX tags c.tys (k (.val d.1 d.2 (bif d.1.flat then [] else tags)))
  | none=>.fail
  else .fail
 | .ref r g=>mG r fun R=>bif Nat.beq R.g g && R.k.beq kk then
   match aI [.fu n] R.k R.x with
   | some d=>bif d.1.flat then k (.val d.1 d.2 []) else k (.mU r [.fu n] R.pR)
   | none=>.fail
  else .fail
 | .mU r p h=>mG r fun R=>bif Nat.beq R.pR h then
   match aI p R.k R.x,aI (p++[.fu n]) R.k R.x with
   | some d0,some d=>bif !d0.1.beq kk then .fail else bif d.1.flat then k (.val d.1 d.2 []) else k (.mU r (p++[.fu n]) R.pR)
   | _,_=>.fail
  else .fail
 | _=>.fail
def CJ (kk:K) (n:Nat):Bool:=match kk with
 | .st c=>(aa.yl n c).isSome
 | _=>false
def BJ:List Stp→K→Option K
 | [],k=>some k
 | .fu n :: p, .st c=>match aa.yl n c with
  | some k=>BJ p k
  | none=>none
 | _,_=>none
def Nb (a:AV) (kk:K) (yes:Nat→Nat→Prog α) (no:Prog α):Prog α:=match a with
 | .ref r g=>.root r fun
  | some R=>bif R.fixed then (mG r fun R=>bif Nat.beq R.g g && R.k.beq kk then yes r g else .fail) else no
  | none=>no
 | _=>no
def oZ (kk:K) (a:AV) (n:Nat) (k:AV→Prog α):Prog α:=match a with
 | .ptr r p h=>.root r fun
  | some R=>match aI p R.k R.x with
   | some d=>bif d.1.like kk && CJ kk n then k (.ptr r (p++[.fu n]) h) else .fail
   | none=>.fail
  | none=>.fail
 | .gV bt (.st c) x tags=>bif (K.st c).beq kk then match aC n c x with
  | some d=>jX tags (bt :: c.tys) (k (.gV bt d.1 d.2 tags))
  | none=>.fail
  else .fail
 | .zo r g k0 p=>match BJ p k0 with
  | some k1=>bif k1.beq kk && CJ kk n then k (.zo r g k0 (p++[.fu n])) else .fail
  | none=>.fail
 | _=>.fail
def aN (i:Int) (n:Nat):Prop:=0≤i∧i<(n:Int)
instance (i:Int) (n:Nat):Decidable (aN i n):=inferInstanceAs (Decidable (_∧_))
def o9 (k0:K) (a:AV) (i:Int) (k:AV→Prog α):Prog α:=match a with
 | .val (.sl e kk) xs tags=>bif (K.sl e kk).beq k0 then jX tags (e :: kk.tys) (.nY (aN i (show List (El kk) from xs).length) inferInstance
   (k (.gV e kk ((show List (El kk) from xs).getD i.toNat kk.zero) tags))) else .fail
 | .ref r g=>mG r fun R=>bif Nat.beq R.g g then
   match R.k,R.x with
   | .sl e kk,xs=>bif aA e R.own && (K.sl e kk).beq k0 then .nY (aN i (show List (El kk) from xs).length) inferInstance (k (.ptr r [.idx i] (fF R.h))) else .fail
   | _,_=>.fail
  else .fail
 | .mU r p h=>mG r fun R=>bif Nat.beq R.pR h then
   match aI p R.k R.x with
   | some ⟨.sl e kk,xs⟩=>bif !(K.sl e kk).beq k0 then .fail else bif aA e R.own then .nY (aN i (show List (El kk) from xs).length) inferInstance (k (.ptr r (p++[.idx i]) (fF R.h)))
     else .nY (aN i (show List (El kk) from xs).length) inferInstance (k (.gV e kk ((show List (El kk) from xs).getD i.toNat kk.zero) (R.out r (.sl e kk))))
   | _=>.fail
  else .fail
 | _=>.fail
structure vK where
 k:K
 x:El k
 bad:List TypeId
 tags:List Tag
 ws:List Wr
 keep:Bool
 all:List Tag
def gp.fH (tk:gp):List Tag:=match tk.bad with
 | []=>[]
 | _=>tk.tags
def uX:List (Nat×AV)→vK→(vK→Prog α)→Prog α
 | [],b,k=>k b
 | (n,a) :: l,b,k=>match b.k,b.x with
  | .st c,x=>match aC n c x with
   | some d=>qm d.1 a fun tk=>bif tk.k.beq d.1 then
     match bT n c x ⟨tk.k,tk.x⟩ with
     | some z=>uX l { k:=.st z.1,x:=z.2,bad:=tk.bad++b.bad,tags:=gH (tk.fH) b.tags,ws:=b.ws++tk.ws,keep:=tk.keep || b.keep,all:=tk.tags++b.all } k
     | none=>.fail
    else .fail
   | none=>.fail
  | _,_=>.fail
def uN:List (Nat×Operand)→(List (Nat×AV)→Prog α)→Prog α
 | [],k=>k []
 | (n,x) :: l,k=>dz x fun a=>uN l fun r=>k ((n,a) :: r)
def iI:List Operand→(List AV→Prog α)→Prog α
 | [],k=>k []
 | x :: l,k=>dz x fun a=>iI l fun r=>k (a :: r)
structure oN (kk:K) where
 xs:List (El kk)
 bad:List TypeId
 tags:List Tag
 ws:List Wr
 keep:Bool
 all:List Tag
def zB (kk:K):List (Nat×AV)→oN kk→(oN kk→Prog α)→Prog α
 | [],b,k=>k b
 | (n,a) :: l,b,k=>qm kk a fun tk=>match bL tk.k kk tk.x with
  | some y=>bif Nat.beq n (fF b.xs) then zB kk l { xs:=b.xs++[y],bad:=tk.bad++b.bad,tags:=gH (tk.fH) b.tags,ws:=b.ws++tk.ws,keep:=tk.keep || b.keep,all:=tk.tags++b.all } k else .fail
  | none=>.fail
def Ms (e:TypeId) (kk:K) (a:AV) (k:oN kk→Prog α):Prog α:=match a with
 | .val .str s _=>match bL (.int .u8) kk (0:Int) with
  | some _=>match bL (.sl e (.int .u8)) (.sl e kk) (show List Int from s) with
   | some xs=>k ⟨xs,[],[],[],false,[]⟩
   | none=>.fail
  | none=>.fail
 | .gK=>k ⟨[],[],[],[],false,[]⟩
 | .ref r g=>mG r fun R=>bif Nat.beq R.g g then
   match bL R.k (.sl e kk) R.x with
   | some xs=>bif kk.flat then k ⟨xs,[],[],[],false,[]⟩ else bif R.fixed then .fail else k ⟨xs,bif aA e R.own then aK R.own kk else kk.tys,bif aA e R.own && kk.tys.all (fun t=>aA t R.own) then [] else R.tags,[.r r none],R.keep,R.tags⟩
   | none=>.fail
  else .fail
 | a=>nW a fun k' x tags=>match bL k' (.sl e kk) x with
   | some xs=>k ⟨xs,kk.tys,bif kk.flat then [] else tags,[],false,[]⟩
   | none=>.fail
def uw (T:gL) (d:Nat) (t:TypeId) (a b:AV) (k:List Wr→Prog α):Prog α:=
 match T.ty t with
 | some (.sl e kk)=>Ms e kk b fun s=>bif aA e s.bad then .fail else match a with
  | .gK=>.nY (s.xs.length * T.bytes e≤140737488355328) inferInstance (gG (aS d 0)
    (k (s.ws++[.r (aS d 0) (some (aD (.sl e kk) s.xs (e :: aZ kk.tys s.bad) s.tags .anon s.keep)), .s d (.one (.ref (aS d 0) 0))])))
  | .ref r g=>mG r fun R=>bif Nat.beq R.g g && !R.fixed && aA e R.own && !(R.keep && !kk.tys.all (fun t=>!aA t R.own || !aA t s.bad)) && s.ws.all (fun w=>!w.loc.beq (.r r)) && sU s.ws R.tags then
    match bL R.k (.sl e kk) R.x with
    | some xs=>.nY (((show List (El kk) from xs).length+s.xs.length) * T.bytes e≤140737488355328) inferInstance
      (k (s.ws++[.r r (some { R with
        k:=.sl e kk,x:=(show List (El kk) from xs)++s.xs
        own:=aZ R.own s.bad
        tags:=gH (qh r s.tags) R.tags
        w:=e :: R.w,h:=mI :: e :: R.h,g:=R.g+1,keep:=R.keep || s.keep }), .s d (.one (.ref r (R.g+1)))]))
    | none=>.fail
   else .fail
  | .mU r p h=>mG r fun R=>bif Nat.beq R.pR h && p.all Stp.lM && (!p.isEmpty || R.isVar) && !R.fixed && aA e R.own && !(R.keep && !kk.tys.all (fun t=>!aA t R.own || !aA t s.bad)) && s.ws.all (fun w=>!w.loc.beq (.r r)) && sU s.ws R.tags then
    match aI p R.k R.x with
    | some dd=>match bL dd.1 (.sl e kk) dd.2,uP R p dd with
     | some xs,some R'=>.nY (((show List (El kk) from xs).length+s.xs.length) * T.bytes e≤140737488355328) inferInstance (gG (aS d 0)
       (k (s.ws++[.r r (some R'), .r (aS d 0) (some (aD (.sl e kk) ((show List (El kk) from xs)++s.xs)
          (aZ ((e :: kk.tys).filter fun t=>aA t R.own) s.bad) (gH s.tags R.tags) .anon (R.keep || s.keep))), .s d (.one (.ref (aS d 0) 0))])))
     | _,_=>.fail
    | none=>.fail
   else .fail
  | _=>.fail
 | _=>.fail
def ownRow (r g:Nat) (k:Root→(e:TypeId)→(kk:K)→List (El kk)→Prog α):Prog α:=mG r fun R=>bif Nat.beq R.g g then match R.k,R.x with
  | .sl e kk,xs=>bif kk.flat && aA e R.own then k R e kk (show List (El kk) from xs) else .fail
  | _,_=>.fail
 else .fail
def Iy (k0:K) (a:AV) (lo hi mx:Option Int) (k:AV→Prog α):Prog α:=match a with
 | .ref r g=>ownRow r g fun _ e kk xs=>bif (K.sl e kk).beq k0 then
   match mx with
   | none=>.nY (0≤lo.getD 0∧lo.getD 0≤hi.getD (xs.length:Int)∧hi.getD (xs.length:Int)≤(xs.length:Int)) inferInstance (k (.part r g (lo.getD 0).toNat (hi.getD (xs.length:Int)).toNat kk.size))
   | some m=>bif hi.isSome then .nY (0≤lo.getD 0∧lo.getD 0≤hi.getD 0∧hi.getD 0≤m∧m≤(xs.length:Int)) inferInstance (k .undef) else .fail
  else .fail
 | .part r g l0 h0 sz=>ownRow r g fun _ e kk xs=>bif (K.sl e kk).beq k0 && Nat.beq kk.size sz && mx.isNone then
   .nY (0≤lo.getD 0∧lo.getD 0≤hi.getD ((h0 - l0:Nat):Int)∧(l0:Int)+hi.getD ((h0 - l0:Nat):Int)≤(xs.length:Int)) inferInstance
    (k (.part r g (l0+(lo.getD 0).toNat) (l0+(hi.getD ((h0 - l0:Nat):Int)).toNat) sz))
  else .fail
 | _=>.fail
def FT (k0:K) (a:AV) (k:List Wr→Prog α):Prog α:=match a with
 | .part r g lo hi sz=>ownRow r g fun R e kk xs=>bif (K.sl e kk).beq k0 && Nat.beq kk.size sz then
   k [.r r (some { R with k:=.sl e kk,x:=xs.take lo++List.replicate (hi - lo) kk.zero++xs.drop hi,w:=e :: R.w })]
  else .fail
 | _=>.fail
def FU (k0:K) (d:Nat) (a b:AV) (k:List Wr→Prog α):Prog α:=match a,b with
 | .part r g l0 h0 sz, .part r' g' l1 h1 sz'=>ownRow r g fun R e kk xs=>bif (K.sl e kk).beq k0 && Nat.beq r r' && Nat.beq g g' && Nat.beq sz sz' && Nat.beq l0 0 && Nat.beq kk.size sz then
   .nY (h0≤l1) inferInstance (k [.r r (some { R with k:=.sl e kk,x:=xs.take h0++(xs.take h1).drop l1++xs.drop (h0+(h1 - l1)),w:=e :: R.w }), .s d (.one (.part r g 0 (h0+(h1 - l1)) sz))])
  else .fail
 | _,_=>.fail
def KC (k0:K) (d:Nat) (a b:AV) (k:List Wr→Prog α):Prog α:=match a with
 | .ref r g=>ownRow r g fun R e kk xs=>bif (K.sl e kk).beq k0 then Ms e kk b fun s=>
   .nY (s.xs.length≤xs.length) inferInstance (k [.r r (some { R with k:=.sl e kk,x:=s.xs++xs.drop s.xs.length,w:=e :: R.w }), .s d (.one (.val (.int .i64) (s.xs.length:Int) []))])
  else .fail
 | _=>.fail
abbrev DF (e:TypeId) (kk:K):K:=.st (.pair kk (.pair (.sl e (.gap kk.size)) .unit))
def Er:List Stp→List Int
 | []=>[]
 | .fu _ :: p=>Er p
 | .idx i :: p=>i :: Er p
def pz:List Stp→List Stp→Bool
 | [],[]=>true
 | .fu n :: p, .fu m :: q=>Nat.beq n m && pz p q
 | .idx _ :: p, .idx _ :: q=>pz p q
 | _,_=>false
def P5 (T:gL) (d:Nat) (t:TypeId) (a b:AV) (k:List Wr→Prog α):Prog α:=match T.ty t,a,b with
 | some (.sl e kk), .mU r p h, .ref rb gb=>mG rb fun B=>bif Nat.beq B.g gb && !B.fixed && !Nat.beq r rb && p.all Stp.lM && !aA mI (K.sl e kk).tys && (K.sl e kk).tys.all (fun t=>aA t B.own) then
   match bL B.k (.sl e kk) B.x with
   | some ys=>mG r fun R=>bif Nat.beq R.pR h && !R.fixed && (K.sl e kk).tys.all (fun t=>aA t R.own) && R.tags.all (fun t=>!Nat.beq t.1 rb) then
     match aI p R.k R.x with
     | some dd=>match bL dd.1 (.sl e kk) dd.2 with
      | some xs=>match dL p R.k R.x dd with
       | some z=>.nY ((show List (El kk) from ys).length=1∧((show List (El kk) from xs).length+1) * T.bytes e≤140737488355328) inferInstance (gG (aS d 0)
         (k [.r rb none, .r r (some { R with k:=z.1,x:=z.2,w:=e :: R.w,h:=(K.sl e kk).tys++R.h }), .r (aS d 0) (some (aD (DF e kk) ((show List (El kk) from ys).getD 0 kk.zero,(([]:List Unit),())) (e :: kk.tys) [] .anon)),
          .s d (.one (.app r p (fF (e :: R.w)+fF ((K.sl e kk).tys++R.h)) (aS d 0)))]))
       | none=>.fail
      | none=>.fail
     | none=>.fail
    else .fail
   | none=>.fail
  else .fail
 | _,_,_=>.fail
def wW (k0:K) (a:AV) (r:Nat) (p:List Stp) (n q:Nat) (k:List Wr→Prog α):Prog α:=match k0,a with
 | .sl e kk, .ptr r' p' h=>bif Nat.beq r r' && pz p p' && p.all Stp.lM && !Nat.beq r q then mG q fun Q=>bif Nat.beq Q.pR 0 && (e :: kk.tys).all (fun t=>aA t Q.own) then
    match bL Q.k (DF e kk) Q.x with
    | some y=>mG r fun R=>bif Nat.beq R.pR n && !R.fixed && clean R.h h (fI p' R.k) && (K.sl e kk).tys.all (fun t=>aA t R.own) && R.tags.all (fun t=>!Nat.beq t.1 q) then
      match aI p R.k R.x with
      | some dd=>match bL dd.1 (.sl e kk) dd.2 with
       | some xs=>match dL p R.k R.x ⟨.sl e kk,(show List (El kk) from xs)++[(show El kk from y.1)]⟩ with
        | some z=>k [.r q none, .r r (some { R with k:=z.1,x:=z.2,w:=dS R p :: e :: R.w,h:=(K.sl e kk).tys++R.h })]
        | none=>.fail
       | none=>.fail
      | none=>.fail
     else .fail
    | none=>.fail
   else .fail
  else .fail
 | _,_=>.fail
def xe (k0:K) (a:AV) (r:Nat) (p:List Stp) (n m:Nat) (k:List Wr→Prog α):Prog α:=match k0,a with
 | .sl e kk, .ptr r' p' h=>bif Nat.beq r r' && pz p p' then .nY (Er p=Er p') inferInstance (mG r fun R=>bif Nat.beq R.pR n && !R.fixed && clean R.h h (fI p' R.k) && (K.sl e kk).tys.all (fun t=>aA t R.own) then
      match aI p R.k R.x with
      | some dd=>match bL dd.1 (.sl e kk) dd.2 with
       | some xs=>match dL p R.k R.x ⟨.sl e kk,(show List (El kk) from xs).take m⟩ with
        | some z=>k [.r r (some { R with k:=z.1,x:=z.2,w:=dS R p :: (K.sl e kk).tys++R.w,h:=(K.sl e kk).tys++R.h })]
        | none=>.fail
       | none=>.fail
      | none=>.fail
     else .fail)
  else .fail
 | _,_=>.fail
end
end
section
open Go
def Cont.fst:(ks ls:List K)→Cont (ks++ls)→Cont ks
 | [],_,_=>()
 | _ :: ks,ls,c=>(c.1,Cont.fst ks ls c.2)
def Cont.snd:(ks ls:List K)→Cont (ks++ls)→Cont ls
 | [],_,c=>c
 | _ :: ks,ls,c=>Cont.snd ks ls c.2
abbrev SENT:Nat:=4294967295
structure bW where
 ids:List Tag
 wb:Option (Nat×List Stp×List TypeId×List TypeId)
 ws:List Wr
 bt:List TypeId:=[]
def idxOf:(p:List (Option Nat))→List Stp→Option (Cont (fG.into 0 p).kin)
 | [],[]=>some ()
 | some n :: p, .fu m :: q=>bif Nat.beq n m then idxOf p q else none
 | none :: p, .idx i :: q=>match idxOf p q with
  | some c=>some (i,c)
  | none=>none
 | _,_=>none
def pathOf:(p:List (Option Nat))→Cont (fG.into 0 p).kin→List Stp
 | [],_=>[]
 | some n :: p,c=>.fu n :: pathOf p c
 | none :: p,c=>.idx c.1 :: pathOf p c.2
section
variable {α:Type}
def kC (k:K) (own ow:List TypeId):Bool:=k.tys.all fun t=>aA t own == aA t ow
def Hz:(ks:List K)→List (TypeId×Dat×List Tag)→(Cont ks→List Tag→Prog α)→Prog α
 | [],[],k=>k () []
 | kk :: ks,(t,d,tags) :: l,k=>jX tags (t :: d.1.tys) (match bL d.1 kk d.2 with
  | some x=>Hz ks l fun c ts=>k (x,c) (gH tags ts)
  | none=>.fail)
 | _,_,_=>.fail
def iJ:(ps:List fG)→List AV→(Cont (kin ps)→List bW→Prog α)→Prog α
 | [],[],k=>k () []
 | .val kk _ :: ps,a :: l,k=>
  let go (x:El kk) (tags:List Tag):Prog α:=iJ ps l fun c is=>k (x,c) (⟨tags,none,[],[]⟩ :: is)
  match a with
  | .gK=>match kk,go with
   | .sl _ _,go=>go [] []
   | _,_=>.fail
  | a=>nW a fun k' x tags=>match bL k' kk x with
   | some y=>go y (bif kk.flat then [] else tags)
   | none=>.fail
 | .ro kk :: ps,a :: l,k=>
  let go (d:Dat) (tags:List Tag):Prog α:=match bL d.1 kk d.2 with
   | some y=>iJ ps l fun c is=>k (y,c) (⟨tags,none,[],[]⟩ :: is)
   | none=>.fail
  addrOf a (fun R r _ d=>go d ((r,fF R.w) :: R.tags)) (fun _ d tags=>go d tags)
 | .rw kk ow wt ht :: ps,a :: l,k=>match a with
  | .ptr r p h=>mG r fun R=>bif clean R.h h (fI p R.k) && yL p R then
    match aI p R.k R.x with
    | some d=>match bL d.1 kk d.2 with
     | some y=>bif kC kk R.own ow then iJ ps l fun c is=>k (y,c) (⟨R.tags,some (r,p,wt,ht),[],[dS R p]⟩ :: is) else .fail
     | none=>.fail
    | none=>.fail
   else .fail
  | _=>.fail
 | .oV kk ow wt :: ps,a :: l,k=>
  let go (R:Root) (r:Nat) (p:List Stp) (d:Dat):Prog α:=match bL d.1 kk d.2 with
   | some y=>bif kC kk R.own ow then iJ ps l fun c is=>k (y,c) (⟨R.tags,some (r,p,wt,kk.tys),[],[]⟩ :: is) else .fail
   | none=>.fail
  match a with
  | .mU r p h=>mG r fun R=>bif Nat.beq R.pR h then
    match aI p R.k R.x with
    | some d=>go R r p d
    | none=>.fail
   else .fail
  | .ref r g=>mG r fun R=>bif Nat.beq R.g g then go R r [] ⟨R.k,R.x⟩ else .fail
  | _=>.fail
 | .own kk ow :: ps,a :: l,k=>qm kk a fun tk=>match bL tk.k kk tk.x with
  | some y=>bif kC kk tk.own ow then iJ ps l fun c is=>k (y,c) (⟨tk.tags,none,tk.ws,[]⟩ :: is) else .fail
  | none=>.fail
 | .fn f ks :: ps,a :: l,k=>match a with
  | .fn f' caps=>bif Nat.beq f f' then Hz ks caps fun c tags=>iJ ps l fun c' is=>k (Cont.app ks (kin ps) c c') (⟨tags,none,[],[]⟩ :: is) else .fail
  | _=>.fail
 | .into _ [] :: ps,a :: l,k=>match a with
  | .gK=>iJ ps l fun c is=>k c (⟨[],none,[],[]⟩ :: is)
  | _=>.fail
 | _,_,_=>.fail
def bW.touched (i:bW):List Nat:=(match i.wb with | some (r,_)=>[r] | none=>[])++i.ws.flatMap Wr.nG
def wI:List bW→Bool
 | []=>true
 | i :: l=>match i.wb with
  | some _=>l.all fun j=>j.wb.isNone
  | none=>wI l
def sD (r:Nat):List bW→Nat→Option Nat
 | [],_=>none
 | i :: is,n=>match i.wb with
  | some (r',_)=>bif Nat.beq r r' then some n else sD r is (n+1)
  | none=>sD r is (n+1)
def qw (is:List bW):List fG→List bW→Bool
 | .val k fU :: ps,i :: l=>(fU.all fun j=>match is[j]? with | some q=>q.wb.isSome | none=>false) && i.ids.all (fun t=>match sD t.1 is 0 with
   | some n=>aA n fU && (match is[n]? with
     | some j=>j.bt.all fun b=>!aA b k.tys
     | none=>false)
   | none=>!aA t.1 (is.flatMap fun j=>j.ws.flatMap Wr.nG)) && qw is ps l
 | _ :: ps,i :: l=>i.ids.all (fun t=>!aA t.1 (is.flatMap bW.touched)) && qw is ps l
 | [],[]=>true
 | _,_=>false
def y7:(ps:List fG)→List bW→Cont (kR ps)→(List Wr→Prog α)→Prog α
 | [],[],_,k=>k []
 | .rw kk _ _ _ :: ps,⟨_,some (r,p,wt,ht),_,_⟩ :: is,c,k=>.root r fun
  | some R=>match dL p R.k R.x ⟨kk,c.1⟩ with
   | some z=>y7 ps is c.2 fun ws=>k (.r r (some { R with k:=z.1,x:=z.2,w:=(dS R p :: wt)++R.w,h:=ht++R.h }) :: ws)
   | none=>.fail
  | none=>.fail
 | .oV kk _ _ :: ps,⟨_,some (r,p,wt,ht),_,_⟩ :: is,c,k=>.root r fun
  | some R=>match dL p R.k R.x ⟨kk,c.1⟩ with
   | some z=>y7 ps is c.2 fun ws=>k (.r r (some { R with k:=z.1,x:=z.2,w:=(SENT :: (kk.tys++wt))++R.w,h:=ht++R.h }) :: ws)
   | none=>.fail
  | none=>.fail
 | .val _ _ :: ps,_ :: is,c,k | .ro _ :: ps,_ :: is,c,k | .own _ _ :: ps,_ :: is,c,k | .fn _ _ :: ps,_ :: is,c,k | .into _ _ :: ps,_ :: is,c,k=>y7 ps is c k
 | _,_,_,_=>.fail
def EI (ws:List Wr):List Nat→(List Tag→Prog α)→Prog α
 | [],k=>k []
 | r :: l,k=>bif eH r then EI ws l fun ts=>k ((r,0) :: ts) else
  match ws.find? (fun w=>w.loc.beq (.r r)) with
  | some (.r _ (some R))=>EI ws l fun ts=>k ((r,fF R.w) :: ts)
  | some _=>.fail
  | none=>.root r fun
   | some R=>EI ws l fun ts=>k ((r,fF R.w) :: ts)
   | none=>.fail
def wD (is:List bW) (exts fU:List Nat):List Nat:=
 exts.flatMap (fun j=>match is[j]? with | some i=>i.ids.map (·.1) | none=>[])++
 fU.flatMap (fun j=>match is[j]? with
  | some i=>match i.wb with
   | some q=>[q.1]
   | none=>[]
  | none=>[])
def qB:List Nat→List Nat
 | []=>[]
 | n :: l=>bif aA n l then qB l else n :: qB l
def Bc (d:Nat) (is:List bW) (ws:List Wr):(rs:List wU)→(c:Nat)→Cont (kK rs)→(List AV→List Wr→Prog α)→Prog α
 | [],_,_,k=>k [] []
 | .val kk exts fU :: rs,c,x,k=>EI ws (bif kk.flat then [] else qB (wD is exts fU)) fun tags=>
   Bc d is ws rs (c+1) x.2 fun as ws'=>k (.val kk x.1 tags :: as) ws'
 | .own kk ow exts fU :: rs,c,x,k=>EI ws (bif kk.tys.all (fun t=>aA t ow) then [] else qB (wD is exts fU)) fun tags=>
   gG (aS d c) (Bc d is ws rs (c+1) x.2 fun as ws'=>k (.ref (aS d c) 0 :: as) (.r (aS d c) (some (aD kk x.1 ow tags .anon)) :: ws'))
 | .ptr t kk ow exts :: rs,c,x,k=>EI ws (bif kk.tys.all (fun t=>aA t ow) then [] else qB (wD is exts [])) fun tags=>
   gG (aS d c) (Bc d is ws rs (c+1) x.2 fun as ws'=>k (.ptr (aS d c) [] 0 :: as) (.r (aS d c) (some (aD kk x.1 ow tags (.var t))) :: ws'))
 | .into j p :: rs,c,x,k=>bif Nat.beq c 0 && p.isEmpty && rs.isEmpty then match is[j]? with
   | some i=>match i.wb with
    | some (r,q,_,ht)=>match ws.find? (fun w=>w.loc.beq (.r r)) with
     | some (.r _ (some R))=>bif aA mI ht then .fail else k [.qE r q (fF R.w+fF R.h) (show Int from x.1).toNat] []
     | _=>.fail
    | none=>.fail
   | none=>.fail
  else .fail
def Ku:List AV→qH
 | [a]=>.one a
 | l=>.Cb l
def Ky (n:Nat) (E:Entry) (dst:Option Nat) (Br:List AV) (k:List Wr→Prog α):Prog α:=
 iJ E.ps Br fun c is=>bif wV (is.flatMap bW.touched) && wI is && qw is E.ps is then
  .opt _ (E.F n c) fun out=>y7 E.ps is (Cont.snd (kK E.rs) (kR E.ps) out) fun ws=>
   match dst with
   | some d=>Bc d is ws E.rs 0 (Cont.fst (kK E.rs) (kR E.ps) out) fun as ws'=>k (is.flatMap bW.ws++ws++ws'++[.s d (Ku as)])
   | none=>k (is.flatMap bW.ws++ws)
 else .fail
def nI (f d:Nat):List (Nat×Option Nat×Entry)→Option Entry
 | []=>none
 | (g,none,E) :: l=>bif Nat.beq f g then some E else nI f d l
 | (g,some e,E) :: l=>bif Nat.beq f g && Nat.beq d e then some E else nI f d l
def JJ (mx:Bool):IntKind→Int→List AV→(Int→Prog α)→Prog α
 | _,x,[],k=>k x
 | ik,x, .val (.int jk) y _ :: l,k=>bif su ik jk then JJ mx ik (if mx then (if y>x then y else x) else (if y<x then y else x)) l k else .fail
 | _,_,_,_=>.fail
def KA (T:gL) (d:Nat) (src dst:TypeId) (a:AV) (k:List Wr→Prog α):Prog α:=match T.ty src,T.ty dst with
 | some _,some (.int ik)=>match a with
  | .val (.int _) n _=>k [.s d (v1 (.int ik) (ik.wrap n))]
  | _=>.fail
 | some .str,some .str=>match a with
  | .val .str s _=>k [.s d (v1 .str s)]
  | _=>.fail
 | some (.sl _ (.int .u8)),some .str=>match a with
  | .gK=>k [.s d (v1 .str [])]
  | a=>nW a fun kk x _=>match kk,x with
   | .sl _ (.int .u8),xs=>k [.s d (v1 .str xs)]
   | _,_=>.fail
 | some .str,some (.sl e (.int .u8))=>match a with
  | .val .str s _=>gG (aS d 0) (k [.r (aS d 0) (some (aD (.sl e (.int .u8)) s [e] [] .anon)), .s d (.one (.ref (aS d 0) 0))])
  | _=>.fail
 | _,_=>.fail
def IY:List AV→(List (TypeId×Dat×List Tag)→Prog α)→Prog α
 | [],k=>k []
 | a :: l,k=>addrOf a
   (fun R r p d=>bif Nat.beq (dS R p) SENT then .fail else IY l fun cs=>k ((dS R p,d,(r,fF R.w) :: R.tags) :: cs))
   (fun bt d tags=>IY l fun cs=>k ((bt,d,tags) :: cs))
def GJ (k0:K) (a:AV) (lo hi:Option Int) (k:AV→Prog α):Prog α:=match a with
 | .val .str s _=>bif !k0.beq .str then .fail else
  let n:=(show List Int from s).length
  match lo,hi with
  | none,none=>k (.val .str s [])
  | some l,none=>.nY (0≤l∧l≤(n:Int)) inferInstance (k (.val .str ((show List Int from s).drop l.toNat) []))
  | none,some h=>.nY (0≤h∧h≤(n:Int)) inferInstance (k (.val .str ((show List Int from s).take h.toNat) []))
  | some l,some h=>.nY (0≤l∧l≤h∧h≤(n:Int)) inferInstance (k (.val .str (((show List Int from s).take h.toNat).drop l.toNat) []))
 | a=>nW a fun kk x tags=>match kk,x with
  | .sl e kk,xs=>bif !k0.beq (.sl e kk) then .fail else
   let xs:=(show List (El kk) from xs)
   match lo,hi with
   | none,none=>k (.val (.sl e kk) xs tags)
   | some l,none=>.nY (0≤l∧l≤(xs.length:Int)) inferInstance (k (.val (.sl e kk) (xs.drop l.toNat) tags))
   | none,some h=>.nY (0≤h∧h≤(xs.length:Int)) inferInstance (k (.val (.sl e kk) (xs.take h.toNat) tags))
   | some l,some h=>.nY (0≤l∧l≤h∧h≤(xs.length:Int)) inferInstance (k (.val (.sl e kk) ((xs.take h.toNat).drop l.toNat) tags))
  | _,_=>.fail
def yw (x:Option Operand) (k:Option Int→Prog α):Prog α:=match x with
 | none=>k none
 | some y=>dz y fun a=>asInt a fun _ i=>k (some i)
def isZero:Option Operand→Bool
 | some (.const (.int _ 0))=>true
 | _=>false
def Hy (hi:Hint) (n:Nat) (dst:Option Nat) (c:Call) (k:List Wr→Prog α):Prog α:=match c.callee with
 | .value f=>dz f fun
  | .fn f caps=>iI c.args.toList fun l=>match nI f (dst.getD 0) hi.calls with
   | some E=>bif Nat.beq E.f f then Ky n E dst (l++caps.map fun (t,dd,tags)=>.gV t dd.1 dd.2 tags) k else .fail
   | none=>.fail
  | _=>.fail
 | _=>.fail
def o7 (d:Nat):List (Nat×List TypeId)→List TypeId
 | []=>[]
 | (e,l) :: m=>bif Nat.beq d e then l else o7 d m
def Ik (hi:Hint) (d:Nat) (k:K):List TypeId:=match o7 d hi.less with
 | []=>k.tys
 | l=>aZ k.tys l
def vF {A:Type}:Nat→List A→List (Nat×A)
 | _,[]=>[]
 | i,a :: l=>(i,a) :: vF (i+1) l
def LJ:K→List (Nat×AV)→Nat→Prog α→Prog α
 | .pair kk r,(n,a) :: l,i,p=>bif Nat.beq n i then qm kk a fun tk=>bif tk.k.beq kk then LJ r l (i+1) p else .fail else .fail
 | .unit,[],_,p=>p
 | _,_,_,_=>.fail
def FK (e:TypeId) (d:Nat) (a:AV) (k:List Wr→Prog α):Prog α:=match a with
 | .ref r g=>ownRow r g fun R e' kk xs=>bif (K.sl e' kk).beq (.sl e (.int .u8)) then .nY (0<xs.length) inferInstance (k [.r r (some { R with k:=.sl e' kk,x:=xs,w:=e' :: R.w }), .s d (.one (.ref r g))]) else .fail
 | _=>.fail
def Aw (T:gL) (o:Oper) (d:Nat) (k:List Wr→Prog α):Prog α:=match o.op with
 | .slice t x lo hi mx=>match T.ty t with
  | some kk=>dz x fun a=>yw lo fun lo=>yw hi fun hi=>yw mx fun mx=>Iy kk a lo hi mx fun u=>k [.s d (.one u)]
  | none=>.fail
 | .call c=>match c.callee with
  | .builtin .len=>iI c.args.toList fun
   | [.part _ _ lo hi _]=>match (c.argTypes[0]?).bind T.ty with
    | some (.sl _ _)=>k [.s d (.one (.val (.int .i64) ((hi - lo:Nat):Int) []))]
    | _=>.fail
   | _=>.fail
  | .builtin .append=>iI c.args.toList fun
   | [a,b]=>match (c.argTypes[0]?).bind T.ty,(c.argTypes[1]?).bind T.ty with
    | some (.sl e0 k0),some (.sl _ _)=>FU (.sl e0 k0) d a b k
    | _,_=>.fail
   | _=>.fail
  | .builtin .copy=>iI c.args.toList fun
   | [a,b]=>match (c.argTypes[0]?).bind T.ty,(c.argTypes[1]?).bind T.ty with
    | some (.sl e0 k0),some (.sl _ _)=>KC (.sl e0 k0) d a b k
    | _,_=>.fail
   | _=>.fail
  | _=>.fail
 | .build t ps=>match T.ty t with
  | some (.st c)=>uN ps.toList fun l=>LJ c l 0 (k [.s d (.lit t c (l.map (·.2)))])
  | _=>.fail
 | .convert s t x=>match T.ty t with
  | some (.sl e (.int .u8))=>bif Nat.beq s t then dz x fun a=>FK e d a k else .fail
  | _=>.fail
 | _=>.fail
def QU (T:gL) (s:Nat) (k:List Wr→Prog α):Prog α:=.slot s fun
 | .lit t c l=>bif (match T.ty t with | some kk=>kk.beq (.st c) | none=>false) then uX (vF 0 l) ⟨.st c,(K.st c).zero,[],[],[],false,[]⟩ fun b=>
   bif !wN b.ws b.all then .fail else gG (aS s 1) (k (b.ws++[.r (aS s 1) (some (aD b.k b.x (aZ b.k.tys b.bad) b.tags .anon b.keep)), .s s (.one (.ref (aS s 1) 0))]))
  else .fail
 | _=>.fail
def tZ:List Stp→List Stp→Bool
 | [.fu i],[.fu j]=>!Nat.beq i j
 | _,_=>false
def freshen (r:Nat) (p:List Stp) (v v':Nat):AV→AV
 | .mU q p' n=>bif Nat.beq r q && Nat.beq n v && tZ p p' then .mU q p' v' else .mU q p' n
 | a=>a
def Gc (r:Nat) (p:List Stp) (v:Nat):List Wr→AV→AV
 | [.r _ (some R)]=>freshen r p v R.pR
 | _=>fun a=>a
def GK (s s2:Nat) (k:List Wr→Prog α):Prog α:=.slot s fun
 | .one (.mU r p v)=>qm .unit (.mU r p v) fun tk=>bif Nat.beq s s2 || tk.ws.isEmpty then .fail else gG (aS s 1) (.slot s2 fun
  | .lit t c l=>k (tk.ws++[.r (aS s 1) (some (aD tk.k tk.x tk.own tk.fH .anon tk.keep)), .s s (.one (.ref (aS s 1) 0)), .s s2 (.lit t c (l.map (Gc r p v tk.ws)))])
  | _=>.fail)
 | _=>.fail
def shares (r:Nat) (l:List AV):Bool:=l.any fun
 | .mU q _ _=>Nat.beq r q
 | _=>false
def splits (s2:Nat):List (Nat×Operand)→Prog (List Wr)
 | []=>.ret []
 | (_, .tmp s) :: l=>.slot s fun
  | .one (.mU r _ _)=>.slot s2 fun
   | .lit _ _ m=>bif shares r m then Oc (GK s s2 .ret) (splits s2 l) else splits s2 l
   | _=>.fail
  | _=>splits s2 l
 | _ :: l=>splits s2 l
def uy:List (Nat×Operand)→(Nat→Prog α)→Prog α
 | [],_=>.fail
 | (_, .tmp s) :: l,k=>.slot s fun
  | .lit _ _ _=>k s
  | _=>uy l k
 | _ :: l,k=>uy l k
def P9 (T:gL) (d:Nat) (t:TypeId) (ps:Array (Nat×Operand)):Prog (List Wr):=match T.ty t with
 | some (.st c)=>uN ps.toList fun l=>uX l ⟨.st c,(K.st c).zero,[],[],[],false,[]⟩ fun b=>bif !wN b.ws b.all then .fail else bif b.k.tys.all fun t=>aA t b.bad then
   .ret (b.ws++[.s d (.one (.val b.k b.x b.tags))])
  else gG (aS d 0) (.ret (b.ws++[.r (aS d 0) (some (aD b.k b.x (aZ b.k.tys b.bad) b.tags .anon b.keep)), .s d (.one (.ref (aS d 0) 0))]))
 | _=>.fail
def BZ (T:gL) (d:Nat) (t:TypeId) (ps:Array (Nat×Operand)):Prog (List Wr):=
 uy ps.toList fun s=>Oc (splits s ps.toList) (Oc (QU T s .ret) (P9 T d t ps))
def Df (T:gL) (o:Oper) (d:Nat) (k:List Wr→Prog α):Prog α:=match o.op with
 | .build t ps=>(BZ T d t ps).bind k
 | .call c=>match c.callee with
  | .builtin .append=>iI c.args.toList fun
   | [a,b]=>match c.argTypes[0]?,(c.argTypes[1]?).bind T.ty with
    | some t,some (.sl _ _)=>P5 T d t a b k
    | _,_=>.fail
   | _=>.fail
  | _=>.fail
 | .load t x=>dz x fun a=>wF T true t a fun u=>match T.ty t with
  | some kk=>qm kk u fun tk=>gG (aS d 0) (k (tk.ws++[Wr.r (aS d 0) (some (aD tk.k tk.x tk.own tk.fH .anon tk.keep)),Wr.s d (.one (.ref (aS d 0) 0))]))
  | none=>.fail
 | _=>.fail
def GN (T:gL) (t:TypeId) (a v:AV) (k:List Wr→Prog α):Prog α:=match v with
 | .qE r p n m=>match T.ty t with
  | some k0=>xe k0 a r p n m k
  | none=>.fail
 | .app r p n q=>match T.ty t with
  | some k0=>wW k0 a r p n q k
  | none=>.fail
 | v=>GM T t a v k
def Pq (T:gL) (hi:Hint) (n:Nat) (o:Oper) (k:List Wr→Prog α):Prog α:=match o.op with
 | .store t x v=>dz x fun a=>dz v fun v=>GN T t a v k
 | .call c=>match c.callee with
  | .builtin .clear=>iI c.args.toList fun
   | [a]=>match (c.argTypes[0]?).bind T.ty with
    | some (.sl e0 k0)=>FT (.sl e0 k0) a k
    | _=>.fail
   | _=>.fail
  | _=>Hy hi n none c k
 | _=>.fail
def Pp (T:gL) (hi:Hint) (n:Nat) (o:Oper) (d:Nat) (k:List Wr→Prog α):Prog α:=
 let put (a:AV):Prog α:=k [.s d (.one a)]
 match o.op with
 | .move x=>nS x fun a=>k [.s d a]
 | .assign x=>nS x fun
  | .one .gK=>match T.ty o.type with
   | some (.sl e kk)=>.root (aS d 0) fun
    | none=>k [.r (aS d 0) (some (aD (.sl e kk) [] (e :: Ik hi d kk) [] .anon)), .s d (.one (.ref (aS d 0) 0))]
    | some _=>k [.s d (.one .gK)]
   | _=>.fail
  | a=>k [.s d a]
 | .pick c a b=>dz c fun c=>asBool c fun c=>nS a fun a=>nS b fun b=>.br c (k [.s d a]) (k [.s d b])
 | .alloc t=>match T.ty t with
  | some kk=>gG (aS d 0) (k [.r (aS d 0) (some (aD kk kk.zero kk.tys [] (.var t))), .s d (.one (.ptr (aS d 0) [] 0))])
  | none=>.fail
 | .box t x=>match T.ty t with
  | some kk=>dz x fun a=>Nb a kk (fun r g=>put (.zo r g kk [])) <| qm kk a fun tk=>bif tk.k.beq kk && !aA t tk.bad then
    gG (aS d 0) (k (tk.ws++[.r (aS d 0) (some (aD tk.k tk.x tk.own tk.fH (.var t) tk.keep)), .s d (.one (.ptr (aS d 0) [] 0))]))
   else .fail
  | none=>.fail
 | .load t x=>dz x fun a=>wF T (aA d hi.Xy) t a put
 | .nilCheck x=>dz x fun
  | .ptr r p h=>put (.ptr r p h)
  | .gV bt kk y tags=>put (.gV bt kk y tags)
  | _=>.fail
 | .binOp op t x y _=>FH T t op x y fun v=>k [.s d v]
 | .unOp op _ x=>dz x fun a=>YV op a fun v=>k [.s d v]
 | .convert s t x=>dz x fun a=>KA T d s t a k
 | .field t x f=>match T.ty t with
  | some kk=>dz x fun a=>zG kk a f put
  | none=>.fail
 | .fieldAddr t x f=>match T.ty t with
  | some kk=>dz x fun a=>oZ kk a f put
  | none=>.fail
 | .indexAddr t x i=>match T.ty t with
  | some kk=>dz x fun a=>dz i fun i=>asInt i fun _ i=>o9 kk a i put
  | none=>.fail
 | .index t x i=>dz x fun a=>dz i fun i=>asInt i fun _ i=>match T.ty t,a with
  | some .str, .val .str s _=>.nY (aN i (show List Int from s).length) inferInstance (put (.val (.int .u8) ((show List Int from s).getD i.toNat 0) []))
  | _,_=>.fail
 | .extract x i=>nS x fun
  | .Cb l=>match l[i]? with
   | some a=>put a
   | none=>.fail
  | _=>.fail
 | .build t ps=>match T.ty t with
  | some (.st c)=>uN ps.toList fun l=>uX l ⟨.st c,(K.st c).zero,[],[],[],false,[]⟩ fun b=>bif !wN b.ws b.all then .fail else bif b.k.tys.all fun t=>aA t b.bad then
    k (b.ws++[.s d (.one (.val b.k b.x b.tags))])
   else gG (aS d 0) (k (b.ws++[.r (aS d 0) (some (aD b.k b.x (aZ b.k.tys b.bad) b.tags .anon b.keep)), .s d (.one (.ref (aS d 0) 0))]))
  | _=>.fail
 | .buildSlice t len ps=>match T.ty t with
  | some (.sl e kk)=>uN ps.toList fun l=>zB kk l ⟨[],[],[],[],false,[]⟩ fun b=>bif !(wN b.ws b.all && Nat.ble (len * kk.size) 16777216) then .fail else bif Nat.beq (fF b.xs) len && !aA e b.bad then
    gG (aS d 0) (k (b.ws++[.r (aS d 0) (some (aD (.sl e kk) b.xs (e :: aZ (Ik hi d kk) b.bad) b.tags .anon b.keep)), .s d (.one (.ref (aS d 0) 0))]))
   else bif Nat.beq (fF b.xs) 0 then
    gG (aS d 0) (k [.r (aS d 0) (some (aD (.sl e kk) (List.replicate len kk.zero) (e :: kk.tys) [] .anon)), .s d (.one (.ref (aS d 0) 0))])
   else .fail
  | _=>.fail
 | .makeSlice t x y=>match T.ty t with
  | some (.sl e kk)=>dz x fun a=>dz y fun b=>asInt a fun ik i=>asInt b fun jk j=>bif su ik .i64 && su jk .i64 then
    .nY (i=j∧0≤i∧i * T.bytes e≤140737488355328) inferInstance (gG (aS d 0)
     (k [.r (aS d 0) (some (aD (.sl e kk) (List.replicate i.toNat kk.zero) (e :: kk.tys) [] .anon)), .s d (.one (.ref (aS d 0) 0))]))
   else .fail
  | _=>.fail
 | .makeFunc (.func f) first caps=>bif first.isEmpty then iI caps.toList fun l=>IY l fun cs=>put (.fn f cs) else .fail
 | .slice t x lo hi mx=>match T.ty t with
  | some kk=>bif isZero lo && isZero hi && isZero mx then match kk with
    | .sl _ _=>dz x fun
     | .gK=>put .gK
     | a=>nW a fun k' _ _=>bif k'.beq kk then put .gK else .fail
    | _=>.fail
   else match mx with
    | none=>dz x fun a=>yw lo fun lo=>yw hi fun hi=>GJ kk a lo hi put
    | some _=>.fail
  | none=>.fail
 | .call c=>match c.callee with
  | .builtin .len=>iI c.args.toList fun
   | [.gK]=>match (c.argTypes[0]?).bind T.ty with
    | some (.sl _ _)=>put (.val (.int .i64) 0 [])
    | _=>.fail
   | [.val .str s _]=>match (c.argTypes[0]?).bind T.ty with
    | some .str=>put (.val (.int .i64) ((show List Int from s).length:Int) [])
    | _=>.fail
   | [a]=>match (c.argTypes[0]?).bind T.ty with
    | some (.sl _ _)=>nW a fun kk x _=>match kk,x with
     | .sl _ kk,xs=>put (.val (.int .i64) ((show List (El kk) from xs).length:Int) [])
     | _,_=>.fail
    | _=>.fail
   | _=>.fail
  | .builtin .append=>iI c.args.toList fun
   | [a,b]=>match c.argTypes[0]?,(c.argTypes[1]?).bind T.ty with
    | some t,some (.sl _ _)=>uw T d t a b k
    | some t,some .str=>uw T d t a b k
    | _,_=>.fail
   | _=>.fail
  | .builtin .min=>iI c.args.toList fun
   | .val (.int ik) x _ :: l=>JJ false ik x l fun z=>put (.val (.int ik) z [])
   | _=>.fail
  | .builtin .max=>iI c.args.toList fun
   | .val (.int ik) x _ :: l=>JJ true ik x l fun z=>put (.val (.int ik) z [])
   | _=>.fail
  | .value _=>Hy hi n (some d) c k
  | _=>.fail
 | _=>.fail
def yh (T:gL) (hi:Hint) (n:Nat) (o:Oper) (k:List Wr→Prog α):Prog α:=match o.dst with
 | some d=>bif Nat.blt d hi.nt then (bif aA d hi.parts then Aw T o d k else bif aA d hi.apps then Df T o d k else Pp T hi n o d k) else .fail
 | none=>Pq T hi n o k
end
variable {R:Type}
def refine (σ:St) (s:Nat) (b:Bool) (T:List Tag):St:={ σ with slots:=upd σ.slots s (.one (.val .bool b T)) }
def guardOf (ops:Array Oper) (o:Oper):Option (Option Nat×Bool):=match o.guard with
 | none=>none
 | some (g,want)=>some ((ops[g]?).bind (·.dst),want)
def guarded (σ:St) (ops:Array Oper) (o:Oper) (go:List Loc→St→Option R) (skip:List Loc→St→Option R):Option R:=match guardOf ops o with
 | none=>go [] σ
 | some (some s,want)=>match σ.slots s with
  | .one (.val .bool b T)=>if b=true then (bif want then go [.s s] (refine σ s true T) else skip [.s s] (refine σ s true T))
    else (bif want then skip [.s s] (refine σ s false T) else go [.s s] (refine σ s false T))
  | .Cb []=>skip [.s s] σ
  | _=>none
 | some (none,_)=>none
def zw (hi:Hint) (o:Oper):Bool:=match o.dst with
 | some d=>Nat.blt d hi.nt
 | none=>true
def yg (o:Oper):List Wr:=match o.dst with
 | some d=>[.s d (.Cb [])]
 | none=>[]
def vX (T:gL) (hi:Hint) (n:Nat) (ops:Array Oper):List Oper→St→(St→Option R)→Option R
 | [],σ,K=>K σ
 | o :: l,σ,K=>guarded σ ops o
   (fun _ σ=>(yh T hi n o .ret).run σ fun ws=>vX T hi n ops l (aj ws σ) K)
   (fun _ σ=>bif zw hi o then vX T hi n ops l (aj (yg o) σ) K else none)
structure Eff where
 i:Nat
 rd:List Loc
 wr:List Loc
def JH (x:Loc):List Loc→Bool
 | []=>false
 | y :: l=>bif x.beq y then true else JH x l
def Cn (a b:List Loc):Bool:=a.all fun x=>!JH x b
def binders (ops:Array Oper) (i:Nat):List Nat:=((((ops[i]?).getD default).after.toList.filter (Region.binds .any)).map (·.on))
def leads (ops:Array Oper):Nat→Nat→Nat→Bool
 | 0,_,_=>false
 | f+1,j,i=>aA j (binders ops i) || (binders ops i).any fun b=>Nat.blt j b && leads ops f j b
def xM (ops:Array Oper) (e:Eff) (l:List Eff):Bool:=
 (binders ops e.i).all (fun b=>Nat.blt b e.i) && l.all fun b=>aA b.i (binders ops e.i) || ((Cn b.wr (e.rd++e.wr) && Cn b.rd e.wr) || leads ops 6 b.i e.i)
def zF (T:gL) (hi:Hint) (n:Nat) (ops:Array Oper):List Oper→Nat→List Eff→St→(St→Option R)→Option R
 | [],_,_,σ,K=>K σ
 | o :: l,i,es,σ,K=>guarded σ ops o
   (fun g σ=>(yh T hi n o .ret).yA σ g fun ws rd=>
    bif xM ops ⟨i,rd,ws.map Wr.loc⟩ es then zF T hi n ops l (i+1) (⟨i,rd,ws.map Wr.loc⟩ :: es) (aj ws σ) K else none)
   (fun g σ=>bif zw hi o && xM ops ⟨i,g,(yg o).map Wr.loc⟩ es then zF T hi n ops l (i+1) (⟨i,g,(yg o).map Wr.loc⟩ :: es) (aj (yg o) σ) K else none)
inductive Dk where
 | undef
 | val (k:K) (ids:List Nat)
 | gK
 | ref (r:Nat)
 | ptr (r:Nat) (p:List (Option Nat))
 | gV (bt:TypeId) (k:K) (ids:List Nat)
 | mE
 | fn (f:Nat) (caps:List (TypeId×K×List Nat))
def FL:List (TypeId×K×List Nat)→List K
 | []=>[]
 | c :: l=>c.2.1 :: FL l
def Dk.ks:Dk→List K
 | .val k _ | .gV _ k _=>[k]
 | .ptr _ p=>(fG.into 0 p).kin
 | .fn _ caps=>FL caps
 | _=>[]
structure Dx where
 k:K
 own:List TypeId
 ids:List Nat
 kind:xJ
 fixed:Bool
 keep:Bool
 log:Option (K×List TypeId×List TypeId)
def aU (σ:St) (tys:List TypeId):List Tag→Bool
 | []=>true
 | (r,n) :: l=>(bif eH r then true else match σ.roots r with
  | some R=>!R.aT && clean R.w n tys
  | none=>false) && aU σ tys l
def kr (rs:List Nat):List Tag→List Nat
 | []=>[]
 | (r,_) :: l=>bif (eH r || aA r rs) && !aA r (kr rs l) then r :: kr rs l else kr rs l
def YS:List Stp→List (Option Nat)
 | []=>[]
 | .fu n :: p=>some n :: YS p
 | .idx _ :: p=>none :: YS p
def Au (rs:List Nat):List (TypeId×Dat×List Tag)→List (TypeId×K×List Nat)
 | []=>[]
 | (t,d,tags) :: l=>(t,d.1,kr rs tags) :: Au rs l
def KP (rs ex:List Nat):List Nat:=ex.filter fun i=>eH i || aA i rs
def YR (rs ex:List Nat):AV→Dk
 | .undef=>.undef
 | .val k _ tags=>.val k (kr rs tags++KP rs ex)
 | .gK=>.gK
 | .ref r _=>.ref r
 | .mU _ _ _=>.undef
 | .ptr r p _=>.ptr r (YS p)
 | .gV bt k _ tags=>.gV bt k (kr rs tags)
 | .mE=>.mE
 | .zo _ _ _ _=>.undef
 | .sI _=>.undef
 | .part _ _ _ _ _=>.undef
 | .qE _ _ _ _=>.undef
 | .app _ _ _ _=>.undef
 | .fn f caps=>.fn f (Au rs caps)
def BC (t:TypeId) (ids:List Nat):Bool:=!Nat.beq t SENT || ids.all eH
def rO (σ:St) (rs:List Nat):(cs:List (TypeId×K×List Nat))→List (TypeId×Dat×List Tag)→Option (Cont (FL cs))
 | [],[]=>some ()
 | (t,k,ids) :: cs,(t',d,tags) :: l=>bif Nat.beq t t' && aU σ (t :: k.tys) tags && qY (kr rs tags) ids && BC t ids then
   match bL d.1 k d.2,rO σ rs cs l with
   | some x,some c=>some (x,c)
   | _,_=>none
  else none
 | _,_=>none
def I5 (σ:St) (rs:List Nat):(sh:Dk)→AV→Option (Cont sh.ks)
 | .undef,_=>some ()
 | .val k ids, .val k' x tags=>bif aU σ k.tys tags && qY (kr rs tags) ids then
   match bL k' k x with
   | some y=>some (y,())
   | none=>none
  else none
 | .gK, .gK=>some ()
 | .ref r, .ref r' g=>bif Nat.beq r r' && aA r rs && (match σ.roots r with | some R=>Nat.beq R.g g | none=>false) then some () else none
 | .ptr r p, .ptr r' q h=>bif Nat.beq r r' && aA r rs && (match σ.roots r with | some R=>clean R.h h (fI q R.k) | none=>false) then idxOf p q else none
 | .gV bt k ids, .gV Xz k' x tags=>bif Nat.beq bt Xz && aU σ (bt :: k.tys) tags && qY (kr rs tags) ids && BC bt ids then
   match bL k' k x with
   | some y=>some (y,())
   | none=>none
  else none
 | .mE, .mE=>some ()
 | .fn f cs, .fn f' caps=>bif Nat.beq f f' then rO σ rs cs caps else none
 | _,_=>none
def z8:(cs:List (TypeId×K×List Nat))→Cont (FL cs)→List (TypeId×Dat×List Tag)
 | [],_=>[]
 | (t,k,ids) :: cs,c=>(t,⟨k,c.1⟩,ids.map fun r=>(r,0)) :: z8 cs c.2
def U3:(sh:Dk)→Cont sh.ks→AV
 | .undef,_=>.undef
 | .val k ids,c=>.val k c.1 (ids.map fun r=>(r,0))
 | .gK,_=>.gK
 | .ref r,_=>.ref r 0
 | .ptr r p,c=>.ptr r (pathOf p c) 0
 | .gV bt k ids,c=>.gV bt k c.1 (ids.map fun r=>(r,0))
 | .mE,_=>.mE
 | .fn f cs,c=>.fn f (z8 cs c)
def Vh (wd:List (Nat×List Nat)) (rs:List Nat) (σ:St):List Nat→List (Nat×Dk)
 | []=>[]
 | s :: l=>(match σ.slots s with
  | .one a=>(s,YR rs (o7 (2 * s) wd) a)
  | _=>(s, .undef)) :: Vh wd rs σ l
def JA:List (Nat×Dk)→List K
 | []=>[]
 | (_,sh) :: l=>sh.ks++JA l
def gT (r:Nat):List (Nat×K×List TypeId×List TypeId)→Option (K×List TypeId×List TypeId)
 | []=>none
 | (q,l) :: ls=>bif Nat.beq r q then some l else gT r ls
def Vg (wd:List (Nat×List Nat)) (gU:List (Nat×K×List TypeId×List TypeId)) (rs:List Nat) (σ:St):List Nat→Option (List (Nat×Dx))
 | []=>some []
 | r :: l=>match σ.roots r,Vg wd gU rs σ l with
  | some R,some q=>some ((r,⟨R.k,R.own,kr rs R.tags++(KP rs (o7 (2 * r+1) wd)).filter (fun q=>!Nat.beq q r),R.kind,R.fixed,R.keep,gT r gU⟩) :: q)
  | _,_=>none
def MK:List (Nat×Dx)→List K
 | []=>[]
 | (_,sh) :: l=>sh.k :: MK l
def TK (σ:St) (rs:List Nat):(l:List (Nat×Dk))→Option (Cont (JA l))
 | []=>some ()
 | (s,sh) :: l=>match σ.slots s with
  | .one a=>match I5 σ rs sh a,TK σ rs l with
   | some c,some d=>some (Cont.app sh.ks (JA l) c d)
   | _,_=>none
  | _=>match sh with
   | .undef=>match TK σ rs l with
    | some d=>some d
    | none=>none
   | _=>none
def Mk:xJ→xJ→Bool
 | .anon, .anon | .par, .par | .dead, .dead=>true
 | .var a, .var b=>Nat.beq a b
 | _,_=>false
def BL (R:Root):Option (List TypeId×List TypeId)→Bool
 | some (wt,ht)=>qY R.w wt && qY R.ew wt && qY R.h ht && qY R.eh ht && Nat.beq R.g 0
 | none=>true
def QS (R:Root):Option (K×List TypeId×List TypeId)→Bool
 | some (k,l)=>R.k.beq k && BL R (some l)
 | none=>true
def pq (R:Root) (l:List TypeId):Root:={ R with own:=aZ R.own l,w:=l++R.w }
def LP (l:List TypeId) (r:Nat) (σ:St):St:=match l with
 | []=>σ
 | l=>match σ.roots r with
  | some R=>bif R.aT || !aU σ R.uK R.tags || !R.own.any (fun t=>aA t l) then σ else { σ with roots:=upd σ.roots r (some (pq R l)) }
  | none=>σ
def vo (hi:Hint):List Nat→St→St
 | [],σ=>σ
 | r :: rs,σ=>vo hi rs (LP (o7 (1000000+r) hi.less) r σ)
def Vp (σ:St) (rs:List Nat):(l:List (Nat×Dx))→Option (Cont (MK l))
 | []=>some ()
 | (r,sh) :: l=>match σ.roots r with
  | some R=>bif aU σ R.uK R.tags && qY (kr rs R.tags) sh.ids && kC sh.k R.own sh.own && Mk R.kind sh.kind && (R.fixed == sh.fixed) && (R.keep == sh.keep) && !R.aT && QS R sh.log then
    match bL R.k sh.k R.x,Vp σ rs l with
    | some x,some d=>some (x,d)
    | _,_=>none
   else none
  | none=>none
def mkS:(l:List (Nat×Dk))→Cont (JA l)→Nat→qH
 | [],_,_=>.one .undef
 | (s,sh) :: l,c,n=>bif Nat.beq n s then .one (U3 sh (Cont.fst sh.ks (JA l) c)) else mkS l (Cont.snd sh.ks (JA l) c) n
def U2:Option (K×List TypeId×List TypeId)→List TypeId
 | some (_,l,_)=>l
 | none=>[]
def U1:Option (K×List TypeId×List TypeId)→List TypeId
 | some (_,_,l)=>l
 | none=>[]
def Pj:(l:List (Nat×Dx))→Cont (MK l)→Nat→Option Root
 | [],_,_=>none
 | (r,sh) :: l,c,n=>bif Nat.beq n r then some { k:=sh.k,x:=c.1,own:=sh.own,tags:=sh.ids.map fun r=>(r,0),w:=[],h:=[],g:=0,kind:=sh.kind,fixed:=sh.fixed,keep:=sh.keep,ew:=U2 sh.log,eh:=U1 sh.log } else Pj l c.2 n
structure OH where
 ss:List (Nat×Dk)
 rs:List (Nat×Dx)
abbrev OH.V (s:OH):Type:=Cont (JA s.ss++MK s.rs)
def Ri (wd:List (Nat×List Nat)) (gU:List (Nat×K×List TypeId×List TypeId)) (ss rs:List Nat) (σ:St):Option OH:=match Vg wd gU rs σ rs with
 | some q=>bif gU.all (fun p=>aA p.1 rs) then some ⟨Vh wd rs σ ss,q⟩ else none
 | none=>none
def I6 (rs:List Nat) (s:OH) (σ:St):Option s.V:=match TK σ rs s.ss,Vp σ rs s.rs with
 | some a,some b=>some (Cont.app (JA s.ss) (MK s.rs) a b)
 | _,_=>none
def CW (s:OH) (c:s.V):St:=⟨mkS s.ss (Cont.fst _ _ c),Pj s.rs (Cont.snd _ _ c)⟩
inductive Ex where
 | normal
 | exit (id:Nat)
 | ret
def rounds {V:Type} (B:(V→Option R)→V→Option R):Nat→V→Option R
 | 0=>fun _=>none
 | n+1=>B (rounds B n)
def Ec (b:Nat):List (Nat×List Nat×List Nat)→Option (List Nat×List Nat)
 | []=>none
 | (c,h) :: l=>bif Nat.beq b c then some h else Ec b l
def xZ {A:Type} (f:A→A→Bool):List A→List A→Bool
 | [],[]=>true
 | a :: l,b :: m=>f a b && xZ f l m
 | _,_=>false
def vW:(k:K)→El k→El k→Bool
 | .int _,x,y=>decide ((show Int from x)=y)
 | .bool,x,y=>(show Bool from x) == y
 | .str,x,y=>decide ((show List Int from x)=y)
 | .sl _ k,xs,ys=>xZ (vW k) xs ys
 | .unit,_,_=>true
 | .pair a b,x,y=>vW a x.1 y.1 && vW b x.2 y.2
 | .st f,x,y=>vW f x y
 | .gap _,_,_=>true
 | .id _,x,y=>Nat.beq x y
def rM:(ks:List K)→Cont ks→Cont ks→Bool
 | [],_,_=>true
 | k :: ks,c,d=>vW k c.1 d.1 && rM ks c.2 d.2
def OL (ks:List K):Option (Cont ks)→Option (Cont ks)→Option (Cont ks)
 | some a,some b=>bif rM ks a b then some a else none
 | _,_=>none
theorem EC {A:Type} {f:A→A→Bool} (hf:∀x y,f x y=true→x=y):∀{l m:List A},xZ f l m=true→l=m
 | [],[],_=>rfl
 | a :: l,b :: m,h=>by
  simp only [xZ,aby] at h
  rw [hf a b h.1,EC hf h.2]
 | [],_ :: _,h=>by simp [xZ] at h
 | _ :: _,[],h=>by simp [xZ] at h
theorem zY {A:Type} {f:A→A→Bool} (hf:∀x,f x x=true):∀{l:List A},xZ f l l=true
 | []=>rfl
 | a :: l=>by simp [xZ,hf a,zY hf]
theorem KN:∀{k:K} {x y:El k},vW k x y=true→x=y:=by
 intro k
 induction k with
 | int ik=>intro x y h; exact of_decide_eq_true h
 | bool=>intro x y h; exact eq_of_beq h
 | str=>intro x y h; exact of_decide_eq_true h
 | sl e k ih=>intro x y h; exact EC (fun x y h=>ih h) h
 | unit=>intro x y _; rfl
 | pair a b iha ihb=>
  intro x y h
  simp only [vW,aby] at h
  exact Prod.ext (iha h.1) (ihb h.2)
 | st f ih=>intro x y h; exact ih (x:=x) (y:=y) h
 | gap n=>intro x y _; rfl
 | id e=>intro x y h; exact abw h
theorem F5:∀{k:K} {x:El k},vW k x x=true:=by
 intro k
 induction k with
 | int ik=>intro x; exact decide_eq_true rfl
 | bool=>intro x; exact beq_self_eq_true (α:=Bool) x
 | str=>intro x; exact decide_eq_true rfl
 | sl e k ih=>intro x; exact zY fun x=>ih
 | unit=>intro x; rfl
 | pair a b iha ihb=>intro x; simp [vW,iha,ihb]
 | st f ih=>intro x; exact ih (x:=x)
 | gap n=>intro x; rfl
 | id e=>intro x; exact Nat.beq_refl x
theorem zn:∀{ks:List K} {c d:Cont ks},rM ks c d=true→c=d
 | [],_,_,_=>rfl
 | k :: ks,c,d,h=>by
  simp only [rM,aby] at h
  exact Prod.ext (KN h.1) (zn h.2)
theorem vV:∀{ks:List K} {c:Cont ks},rM ks c c=true
 | [],_=>rfl
 | k :: ks,c=>by simp [rM,F5,vV]
theorem Kq {ks:List K} (a:Option (Cont ks)):OL ks a a=a:=by
 cases a with
 | none=>rfl
 | some a=>simp [OL,vV]
theorem Kr {ks:List K} {a b:Option (Cont ks)} {z:Cont ks} (h:OL ks a b=some z):a=some z∧b=some z:=by
 cases a with
 | none=>simp [OL] at h
 | some a=>
  cases b with
  | none=>simp [OL] at h
  | some b=>
   simp only [OL] at h
   cases hb:rM ks a b with
   | false=>rw [hb] at h; simp at h
   | true=>
    rw [hb] at h
    simp only [cond_true,abr] at h
    have:=zn hb
    subst h
    exact ⟨rfl,by rw [this]⟩
def den (T:gL) (hi:Hint) (n:Nat) (ag:Option R→Option R→Option R):Nat→Code→St→(Ex→St→Option R)→Option R
 | _, .skip,σ,K=>K .normal σ
 | _, .region _ ops draw,σ,K=>bif draw then zF T hi n ops ops.toList 0 [] σ (K .normal) else vX T hi n ops ops.toList σ (K .normal)
 | b, .seq x y,σ,K=>den T hi n ag b x σ fun
  | .normal,σ'=>den T hi n ag b y σ' K
  | e,σ'=>K e σ'
 | b, .cond c x y,σ,K=>(dz c fun a=>.ret a).run σ fun
  | .sI e=>if e=true then ag (den T hi n ag b x σ K) (den T hi n ag b y σ K) else den T hi n ag b y σ K
  | a=>(asBool a .ret).run σ fun t=>if t=true then den T hi n ag b x σ K else den T hi n ag b y σ K
 | _, .block id x,σ,K=>den T hi n ag id x σ fun
  | .exit i,σ'=>bif Nat.beq i id then K .normal σ' else K (.exit i) σ'
  | e,σ'=>K e σ'
 | b, .loop x,σ,K=>match Ec b hi.loops with
  | some (ss,rs)=>match Ri hi.wide hi.gU ss rs (vo hi rs σ) with
   | some s=>match I6 rs s (vo hi rs σ) with
    | some c=>rounds (fun L v=>den T hi n ag b x (CW s v) fun
     | .normal,σ'=>match I6 rs s (vo hi rs σ') with
      | some v'=>L v'
      | none=>none
     | e,σ'=>K e σ') n c
    | none=>none
   | none=>none
  | none=>none
 | _, .exit id,σ,K=>K (.exit id) σ
 | _, .ret,σ,K=>K .ret σ
 | _,_,_,_=>none
def jo:(ps:List fG)→(i:Nat)→Cont (kin ps)→List (Nat×AV)
 | [],_,_=>[]
 | .val k fU :: ps,i,c=>(i, .val k c.1 (bif k.flat then [] else (j4 i,0) :: fU.map fun j=>(aL j,0))) :: jo ps (i+1) c.2
 | .ro k :: ps,i,c=>(i, .gV SENT k c.1 [(j4 i,0)]) :: jo ps (i+1) c.2
 | .rw _ _ _ _ :: ps,i,c=>(i, .ptr (aL i) [] 0) :: jo ps (i+1) c.2
 | .oV _ _ _ :: ps,i,c=>(i, .ref (aL i) 0) :: jo ps (i+1) c.2
 | .own _ _ :: ps,i,c=>(i, .ref (aL i) 0) :: jo ps (i+1) c.2
 | .fn f ks :: ps,i,c=>(i, .fn f (wZ i ks (Cont.fst ks (kin ps) c))) :: jo ps (i+1) (Cont.snd ks (kin ps) c)
 | .into _ p :: ps,i,c=>(i, .gK) :: jo ps (i+1) (Cont.snd (fG.into 0 p).kin (kin ps) c)
where wZ (i:Nat):(ks:List K)→Cont ks→List (TypeId×Dat×List Tag)
 | [],_=>[]
 | k :: ks,c=>(SENT,⟨k,c.1⟩,[(j4 i,0)]) :: wZ i ks c.2
def iL:(ps:List fG)→(i:Nat)→Cont (kin ps)→List (Nat×Root)
 | [],_,_=>[]
 | .val _ _ :: ps,i,c=>iL ps (i+1) c.2
 | .ro _ :: ps,i,c=>iL ps (i+1) c.2
 | .rw k ow _ _ :: ps,i,c=>(aL i,aD k c.1 ow (bif k.tys.all (fun t=>aA t ow) then [] else [(j4 i,0)]) .par true) :: iL ps (i+1) c.2
 | .oV k ow _ :: ps,i,c=>(aL i,{ aD k c.1 ow (bif k.tys.all (fun t=>aA t ow) then [] else [(j4 i,0)]) .anon true with fixed:=true }) :: iL ps (i+1) c.2
 | .own k ow :: ps,i,c=>(aL i,aD k c.1 ow (bif k.tys.all (fun t=>aA t ow) then [] else [(j4 i,0)]) .anon) :: iL ps (i+1) c.2
 | .fn _ ks :: ps,i,c=>iL ps (i+1) (Cont.snd ks (kin ps) c)
 | .into _ p :: ps,i,c=>iL ps (i+1) (Cont.snd (fG.into 0 p).kin (kin ps) c)
def mM:List (Nat×AV)→Nat→qH
 | [],_=>.one .undef
 | (s,a) :: l,n=>bif Nat.beq n s then .one a else mM l n
def iF:List (Nat×Root)→Nat→Option Root
 | [],_=>none
 | (s,a) :: l,n=>bif Nat.beq n s then some a else iF l n
def dN (ps:List fG) (c:Cont (kin ps)):St:=⟨mM (jo ps 0 c),iF (iL ps 0 c)⟩
def lI (exts fU:List Nat) (tags:List Tag):Bool:=tags.all fun t=>
 bif eH t.1 then aA (t.1 / 4) exts else bif Nat.beq (t.1 % 4) 0 then aA (t.1 / 4) fU else true
def Gy {α:Type} (T:gL) (own:Bool) (rv:ResultVar) (k:AV→Prog α):Prog α:=match rv with
 | .tmp t=>dz (.tmp t) k
 | .cell t ty=>dz (.tmp t) fun a=>wF T own ty a k
def Ea {α:Type} (T:gL):(rs:List wU)→List ResultVar→(Cont (kK rs)→List gp→List (List Tag)→Prog α)→Prog α
 | [],[],k=>k () [] []
 | .val kk exts fU :: rs,v :: vs,k=>
  let go (x:El kk) (tags:List Tag):Prog α:=bif kk.flat || lI exts fU tags then Ea T rs vs fun c ts tg=>k (x,c) ts (tags :: tg) else .fail
  Gy T false v fun a=>match a with
  | .gK=>match kk,go with
   | .sl _ _,go=>go [] []
   | _,_=>.fail
  | a=>nW a fun k' x tags=>match bL k' kk x with
   | some y=>go y (bif kk.flat then [] else tags)
   | none=>.fail
 | .own kk ow exts fU :: rs,v :: vs,k=>Gy T true v fun a=>qm kk a fun tk=>match bL tk.k kk tk.x with
  | some y=>bif qY (kk.tys.filter fun t=>aA t ow) tk.own && (kk.tys.all (fun t=>aA t ow) || lI exts fU tk.tags) then Ea T rs vs fun c ts tg=>k (y,c) (tk :: ts) tg else .fail
  | none=>.fail
 | _,_,_=>.fail
def yJ (σ:St) (i:Nat):Option Root:=match σ.roots (aL i) with
 | some R=>bif R.aT || !aU σ R.uK R.tags then none else some R
 | none=>none
def jl (σ:St):(ps:List fG)→Nat→Option (Cont (kR ps))
 | [],_=>some ()
 | .rw k ow wt ht :: ps,i=>match yJ σ i,jl σ ps (i+1) with
  | some R,some d=>bif kC k R.own ow && BL R (some (wt,ht)) && (k.tys.all (fun t=>aA t ow) || lI [i] [] R.tags) then
    match bL R.k k R.x with
    | some x=>some (x,d)
    | none=>none
   else none
  | _,_=>none
 | .oV k ow wt :: ps,i=>match yJ σ i,jl σ ps (i+1) with
  | some R,some d=>bif kC k R.own ow && BL R (some (wt,k.tys)) && (k.tys.all (fun t=>aA t ow) || lI [i] [] R.tags) then
    match bL R.k k R.x with
    | some x=>some (x,d)
    | none=>none
   else none
  | _,_=>none
 | .val _ _ :: ps,i=>jl σ ps (i+1)
 | .ro _ :: ps,i=>jl σ ps (i+1)
 | .own _ _ :: ps,i=>jl σ ps (i+1)
 | .fn _ _ :: ps,i=>jl σ ps (i+1)
 | .into _ _ :: ps,i=>jl σ ps (i+1)
def fin (T:gL) (ps:List fG) (rs:List wU) (rv:List ResultVar) (σ:St):Option (Cont (kK rs++kR ps)):=
 (Ea T rs rv fun c ts tg=>bif wN (ts.flatMap (·.ws)) (ts.flatMap (·.tags)++tg.flatten) then .ret (c,ts.flatMap (·.ws)) else .fail:Prog (Cont (kK rs)×List Wr)).run σ fun q=>
  match jl (aj q.2 σ) ps 0 with
  | some d=>some (Cont.app (kK rs) (kR ps) q.1 d)
  | none=>none
def Root.LA (R:Root) (t:TypeId):Bool:=match R.kind with
 | .var u=>Nat.beq t u
 | _=>false
def NZ {α:Type} (t:TypeId) (kk:K) (ow:List TypeId) (exts:List Nat) (a:AV) (k:El kk→Nat→Prog α):Prog α:=match a with
 | .ptr r [] _=>mG r fun R=>bif R.LA t && qY (kk.tys.filter fun t=>aA t ow) R.own && (kk.tys.all (fun t=>aA t ow) || lI exts [] R.tags) then
   match bL R.k kk R.x with
   | some y=>k y r
   | none=>.fail
  else .fail
 | _=>.fail
def cutV {α:Type} (j:Nat) (a:AV) (k:Int→Prog α):Prog α:=match a with
 | .ref r g=>bif Nat.beq r (aL j) && Nat.beq g 0 then mG r fun R=>bif Nat.beq R.g 0 then match R.k,R.x with
   | .sl _ kk,xs=>k ((show List (El kk) from xs).length:Int)
   | _,_=>.fail
  else .fail
  else .fail
 | .part r g lo hi _=>bif Nat.beq r (aL j) && Nat.beq g 0 && Nat.beq lo 0 then k (hi:Int) else .fail
 | _=>.fail
def Nr (T:gL) (ps:List fG):(rs:List wU)→List ResultVar→St→Option (Cont (kK rs++kR ps))
 | [.ptr t kk ow exts],[rv],σ=>(Gy T false rv fun a=>NZ t kk ow exts a fun y r=>.ret (y,r):Prog (El kk×Nat)).run σ fun q=>
   match jl (aj [.r q.2 none] σ) ps 0 with
   | some d=>some (q.1,d)
   | none=>none
 | [.into j []],[rv],σ=>(Gy T false rv fun a=>cutV j a fun m=>.ret m:Prog Int).run σ fun m=>
   match jl σ ps 0 with
   | some d=>some (m,d)
   | none=>none
 | rs,ql,σ=>fin T ps rs ql σ
def pI:List fG→Nat→List (Nat×K×List TypeId×List TypeId)
 | [],_=>[]
 | .rw k _ wt ht :: ps,i=>(aL i,k,wt,ht) :: pI ps (i+1)
 | .oV k _ wt :: ps,i=>(aL i,k,wt,k.tys) :: pI ps (i+1)
 | _ :: ps,i=>pI ps (i+1)
def Ni (T:gL) (hi:Hint) (fn:Func) (ps:List fG) (rs:List wU) (n:Nat) (c:Cont (kin ps)):Option (Cont (kK rs++kR ps)):=
 match fn.body with
 | some code=>den T { hi with nt:=fn.ntmps,gU:=pI ps 0 } n (OL (kK rs++kR ps)) 0 code (dN ps c) fun
  | .ret,σ=>Nr T ps rs fn.results.toList σ
  | .normal,σ=>Nr T ps rs fn.results.toList σ
  | _,_=>none
 | none=>none
end
section
open Go
class Fr where
 free:Nat→Prop
 obj:Nat→Option Obj
 Rv:Nat→Value
 UW:Rv 0=.slice none 0 0
 UX:∀i,∃a n c,Rv i=.slice a n c
abbrev YM:Fr:=⟨fun _=>False,fun _=>none,fun _=>.slice none 0 0,rfl,fun _=>⟨none,0,0,rfl⟩⟩
variable [Fr]
structure wQ (n lo hi:Nat):Prop where
 le:lo≤hi
 out:∀i,i<n→¬(lo≤i∧i<hi)
instance {n lo hi:Nat}:CoeFun (wQ n lo hi) (fun _=>∀i,i<n→¬(lo≤i∧i<hi)):=⟨wQ.out⟩
theorem wQ.zero {n:Nat}:wQ n 0 0:=⟨abI _,fun _ _=>by omega⟩
abbrev Heap:=Nat→Option Obj
def hp (w:World):Heap:=fun b=>w.heap[b]?
def cellAt (h:Heap) (b o:Nat):Option Value:=match h b with
 | some (.cells c _ _)=>c[o]?
 | _=>none
def lH (h:Heap) (b:Nat):Option TypeId:=match h b with
 | some (.cells _ e _)=>some e
 | _=>none
def Cells (h:Heap) (b o:Nat) (cs:List Value):Prop:=∀i,i<cs.length→cellAt h b (o+i)=cs[i]?
theorem qg (w:World) (b o:Nat):w.cell? ⟨b,o,none⟩=cellAt (hp w) b o:=by
 unfold World.cell? cellAt hp
 cases w.heap[b]? with
 | none=>rfl
 | some x=>cases x <;> rfl
theorem oq {h h':Heap} {b:Nat} (e:h' b=h b) (o:Nat):cellAt h' b o=cellAt h b o:=by unfold cellAt; rw [e]
def oW (h:Heap) (b:Nat) (e:TypeId):Prop:=lH h b=some e∨Fr.free b
theorem zA {h h':Heap} {b:Nat} (e:h' b=h b):lH h' b=lH h b:=by unfold lH; rw [e]
theorem zy {h h':Heap} {b:Nat} {t:TypeId} (e:h' b=h b) (H:oW h b t):oW h' b t:=H.imp (fun H=>(zA e).trans H) id
theorem Cells.congr {h h':Heap} {b o:Nat} {cs:List Value} (e:h' b=h b) (H:Cells h b o cs):Cells h' b o cs:=fun i hi=>(oq e _).trans (H i hi)
def Al:IntKind→Int→Prop
 | .u8,n=>0≤n∧n<256
 | _,_=>True
def Vw (h:Heap) (ok:Nat→Prop):(k:K)→El k→List Value→Prop
 | .int ik,n,cs=>cs=[.int ik n]∧Al ik n
 | .bool,b,cs=>cs=[.bool b]
 | .str,s,cs=>∃B:ByteArray,cs=[.string B]∧(show List Int from s)=bytesOf B
 | .sl e k,xs,cs=>∃a n c,cs=[.slice a n c]∧n=(show List (El k) from xs).length∧n≤c∧
   (0<n→∃b o,a=some ⟨b,o,none⟩∧ok b∧oW h b e∧
    ∀(i:Nat) (hi:i<(show List (El k) from xs).length),∃ds,Cells h b (o+i * k.size) ds∧Vw h ok k ((show List (El k) from xs)[i]) ds)
 | .unit,_,cs=>cs=[]
 | .pair a b,x,cs=>∃c1 c2,cs=c1++c2∧Vw h ok a x.1 c1∧Vw h ok b x.2 c2
 | .st f,x,cs=>Vw h ok f x cs
 | .gap n,_,cs=>cs.length=n
 | .id _,i,cs=>cs=[Fr.Rv (show Nat from i)]
def Ow (h:Heap) (own:List TypeId) (ok:Nat→Prop):(k:K)→El k→List Value→List Nat→Prop
 | .sl e k,xs,cs,fo=>if aA e own=true then
   ∃a n c,cs=[.slice a n c]∧n=(show List (El k) from xs).length∧n≤c∧
    ((c=0∧fo=[])∨∃b o arr lo hi,a=some ⟨b,o,none⟩∧h b=some (.cells arr e (lo,hi))∧wQ arr.size lo hi∧o+c * k.size≤arr.size∧
     ∃bE:List (List Nat),bE.length=(show List (El k) from xs).length∧fo.Perm (b :: bE.flatten)∧
      ∀(i:Nat) (hi:i<(show List (El k) from xs).length),∃ds,Cells h b (o+i * k.size) ds∧Ow h own ok k ((show List (El k) from xs)[i]) ds (bE.getD i []))
  else fo=[]∧Vw h ok (.sl e k) xs cs
 | .pair a b,x,cs,fo=>∃c1 c2 f1 f2,cs=c1++c2∧fo.Perm (f1++f2)∧Ow h own ok a x.1 c1 f1∧Ow h own ok b x.2 c2 f2
 | .st f,x,cs,fo=>Ow h own ok f x cs fo
 | .int ik,n,cs,fo=>fo=[]∧Vw h ok (.int ik) n cs
 | .bool,n,cs,fo=>fo=[]∧Vw h ok .bool n cs
 | .str,n,cs,fo=>fo=[]∧Vw h ok .str n cs
 | .unit,_,cs,fo=>fo=[]∧cs=[]
 | .gap n,_,cs,fo=>fo=[]∧cs.length=n
 | .id e,i,cs,fo=>fo=[]∧Vw h ok (.id e) i cs
theorem jh {h:Heap} {ok:Nat→Prop}:∀{k:K} {x:El k} {cs:List Value},Vw h ok k x cs→cs.length=k.size:=by
 intro k
 induction k with
 | int ik=>intro x cs H; rw [H.1]; rfl
 | bool=>intro x cs H; rw [show cs=_ from H]; rfl
 | id e=>intro x cs H; rw [show cs=_ from H]; rfl
 | str=>intro x cs H; obtain ⟨B,rfl,_⟩:=H; rfl
 | sl e k ih=>intro x cs H; obtain ⟨a,n,c,rfl,_⟩:=H; rfl
 | unit=>intro x cs H; rw [show cs=_ from H]; rfl
 | pair a b iha ihb=>intro x cs H; obtain ⟨c1,c2,rfl,h1,h2⟩:=H; simp [K.size,iha h1,ihb h2]
 | st f ih=>intro x cs H; exact ih (x:=x) H
 | gap n=>intro x cs H; exact H
theorem eT {h h':Heap} {ok ok':Nat→Prop} (hh:∀b,ok b→h' b=h b) (hk:∀b,ok b→ok' b):∀{k:K} {x:El k} {cs:List Value},Vw h ok k x cs→Vw h' ok' k x cs:=by
 intro k
 induction k with
 | int ik=>intro x cs H; exact H
 | bool=>intro x cs H; exact H
 | id e=>intro x cs H; exact H
 | str=>intro x cs H; exact H
 | sl e k ih=>
  intro x cs H
  obtain ⟨a,n,c,e1,e2,e3,H⟩:=H
  refine ⟨a,n,c,e1,e2,e3,fun hn=>?_⟩
  obtain ⟨b,o,ea,hb,ht,H⟩:=H hn
  refine ⟨b,o,ea,hk b hb,zy (hh b hb) ht,fun i hi=>?_⟩
  obtain ⟨ds,h1,h2⟩:=H i hi
  exact ⟨ds,h1.congr (hh b hb),ih h2⟩
 | unit=>intro x cs H; exact H
 | pair a b iha ihb=>intro x cs H; obtain ⟨c1,c2,e,h1,h2⟩:=H; exact ⟨c1,c2,e,iha h1,ihb h2⟩
 | st f ih=>intro x cs H; exact ih (x:=x) H
 | gap n=>intro x cs H; exact H
theorem gN {h h':Heap} {ok ok':Nat→Prop}:∀{k:K} {x:El k} {cs:List Value},k.flat=true→Vw h ok k x cs→Vw h' ok' k x cs:=by
 intro k
 induction k with
 | sl e k ih=>intro x cs h; simp [K.flat] at h
 | gap n=>intro x cs h; simp [K.flat] at h
 | pair a b iha ihb=>
  intro x cs h H
  simp only [K.flat,aby] at h
  obtain ⟨c1,c2,e,h1,h2⟩:=H
  exact ⟨c1,c2,e,iha h.1 h1,ihb h.2 h2⟩
 | st f ih=>intro x cs h H; exact ih (x:=x) h H
 | _=>intro x cs _ H; exact H
theorem yS {h:Heap} {ok:Nat→Prop}:∀{k:K} {x:El k} {cs:List Value} (ts:List TypeId),(∀t∈k.tys,t∈ts)→Vw h ok k x cs→Vw h (fun b=>ok b∧∃t∈ts,oW h b t) k x cs:=by
 intro k
 induction k with
 | int ik=>intro x cs ts _ H; exact H
 | bool=>intro x cs ts _ H; exact H
 | id e=>intro x cs ts _ H; exact H
 | str=>intro x cs ts _ H; exact H
 | sl e k ih=>
  intro x cs ts hts H
  obtain ⟨a,n,c,e1,e2,e3,H⟩:=H
  refine ⟨a,n,c,e1,e2,e3,fun hn=>?_⟩
  obtain ⟨b,o,ea,hb,ht,H⟩:=H hn
  refine ⟨b,o,ea,⟨hb,e,hts e (by simp [K.tys]),ht⟩,ht,fun i hi=>?_⟩
  obtain ⟨ds,h1,h2⟩:=H i hi
  exact ⟨ds,h1,ih ts (fun t h=>hts t (by simp [K.tys,h])) h2⟩
 | unit=>intro x cs ts _ H; exact H
 | pair a b iha ihb=>
  intro x cs ts hts H
  obtain ⟨c1,c2,e,h1,h2⟩:=H
  exact ⟨c1,c2,e,iha ts (fun t h=>hts t (by simp [K.tys,h])) h1,ihb ts (fun t h=>hts t (by simp [K.tys,h])) h2⟩
 | st f ih=>intro x cs ts hts H; exact ih (x:=x) ts hts H
 | gap n=>intro x cs ts _ H; exact H
theorem cz {h:Heap} {own:List TypeId} {ok:Nat→Prop}:∀{k:K} {x:El k} {cs:List Value} {fo:List Nat},Ow h own ok k x cs fo→cs.length=k.size:=by
 intro k
 induction k with
 | int ik=>intro x cs fo H; exact jh H.2
 | bool=>intro x cs fo H; exact jh H.2
 | id e=>intro x cs fo H; exact jh H.2
 | str=>intro x cs fo H; exact jh H.2
 | sl e k ih=>
  intro x cs fo H
  unfold Ow at H
  split at H
  ·obtain ⟨a,n,c,rfl,_⟩:=H; rfl
  ·exact jh H.2
 | unit=>intro x cs fo H; rw [H.2]; rfl
 | pair a b iha ihb=>intro x cs fo H; obtain ⟨c1,c2,f1,f2,rfl,_,h1,h2⟩:=H; simp [K.size,iha h1,ihb h2]
 | st f ih=>intro x cs fo H; exact ih (x:=x) H
 | gap n=>intro x cs fo H; exact H.2
theorem mD {bE:List (List Nat)} {i:Nat} {b:Nat} (h:b∈bE.getD i []):b∈bE.flatten:=by
 rw [abF] at h
 cases hi:bE[i]? with
 | none=>rw [hi] at h; simp at h
 | some l=>rw [hi] at h; exact List.mem_flatten.2 ⟨l,List.mem_of_getElem? hi,by simpa using h⟩
theorem aY {h h':Heap} {own:List TypeId} {ok ok':Nat→Prop} (hh:∀b,ok b→h' b=h b) (hk:∀b,ok b→ok' b) :
  ∀{k:K} {x:El k} {cs:List Value} {fo:List Nat},(∀b∈fo,h' b=h b)→Ow h own ok k x cs fo→Ow h' own ok' k x cs fo:=by
 intro k
 induction k with
 | int ik=>intro x cs fo _ H; exact ⟨H.1,eT hh hk H.2⟩
 | bool=>intro x cs fo _ H; exact ⟨H.1,eT hh hk H.2⟩
 | id e=>intro x cs fo _ H; exact ⟨H.1,eT hh hk H.2⟩
 | str=>intro x cs fo _ H; exact ⟨H.1,eT hh hk H.2⟩
 | sl e k ih=>
  intro x cs fo hfo H
  unfold Ow at H ⊢
  split
  ·rename_i hm
   rw [if_pos hm] at H
   obtain ⟨a,n,c,e1,e2,e3,H⟩:=H
   refine ⟨a,n,c,e1,e2,e3, ?_⟩
   rcases H with H | ⟨b,o,arr,lo,hi,ea,hb,hf,hs,bE,hl,hp,H⟩
   ·exact .inl H
   ·have hbb:h' b=h b:=hfo b (hp.mem_iff.2 (by simp))
    refine .inr ⟨b,o,arr,lo,hi,ea,hbb.trans hb,hf,hs,bE,hl,hp,fun i hi=>?_⟩
    obtain ⟨ds,h1,h2⟩:=H i hi
    exact ⟨ds,h1.congr hbb,ih (fun b' hb'=>hfo b' (hp.mem_iff.2 (by simp [mD hb']))) h2⟩
  ·rename_i hm
   rw [if_neg hm] at H
   exact ⟨H.1,eT hh hk H.2⟩
 | unit=>intro x cs fo _ H; exact H
 | pair a b iha ihb=>
  intro x cs fo hfo H
  obtain ⟨c1,c2,f1,f2,e,hp,h1,h2⟩:=H
  exact ⟨c1,c2,f1,f2,e,hp,iha (fun b hb=>hfo b (hp.mem_iff.2 (by simp [hb]))) h1,ihb (fun b hb=>hfo b (hp.mem_iff.2 (by simp [hb]))) h2⟩
 | st f ih=>intro x cs fo hfo H; exact ih (x:=x) hfo H
 | gap n=>intro x cs fo _ H; exact H
theorem mQ {h:Heap} {own:List TypeId} {ok:Nat→Prop}:∀{k:K} {x:El k} {cs:List Value} {fo:List Nat} (ts:List TypeId),(∀t∈aK own k,t∈ts)→Ow h own ok k x cs fo→Ow h own (fun b=>ok b∧∃t∈ts,oW h b t) k x cs fo:=by
 intro k
 induction k with
 | int ik=>intro x cs fo ts _ H; exact H
 | bool=>intro x cs fo ts _ H; exact H
 | id e=>intro x cs fo ts _ H; exact H
 | str=>intro x cs fo ts _ H; exact H
 | sl e k ih=>
  intro x cs fo ts hts H
  unfold Ow at H ⊢
  split
  ·rename_i hm
   rw [if_pos hm] at H
   obtain ⟨a,n,c,e1,e2,e3,H⟩:=H
   refine ⟨a,n,c,e1,e2,e3, ?_⟩
   rcases H with H | ⟨b,o,arr,lo,hi,ea,hb,hf,hs,bE,hl,hp,H⟩
   ·exact .inl H
   ·refine .inr ⟨b,o,arr,lo,hi,ea,hb,hf,hs,bE,hl,hp,fun i hi=>?_⟩
    obtain ⟨ds,h1,h2⟩:=H i hi
    exact ⟨ds,h1,ih ts (fun t ht=>hts t (by simp [aK,hm,ht])) h2⟩
  ·rename_i hm
   rw [if_neg hm] at H
   exact ⟨H.1,yS ts (fun t ht=>hts t (by simpa [aK,hm,K.tys] using ht)) H.2⟩
 | unit=>intro x cs fo ts _ H; exact H
 | pair a b iha ihb=>
  intro x cs fo ts hts H
  obtain ⟨c1,c2,f1,f2,e,hp,h1,h2⟩:=H
  exact ⟨c1,c2,f1,f2,e,hp,iha ts (fun t h=>hts t (by simp [aK,h])) h1,ihb ts (fun t h=>hts t (by simp [aK,h])) h2⟩
 | st f ih=>intro x cs fo ts hts H; exact ih (x:=x) ts hts H
 | gap n=>intro x cs fo ts _ H; exact H
theorem iY {h:Heap} {own:List TypeId} {ok:Nat→Prop} (ok':Nat→Prop) (hk:∀b,ok b→ok' b) :
  ∀{k:K} {x:El k} {cs:List Value} {fo:List Nat},(∀b∈fo,ok' b)→Ow h own ok k x cs fo→Vw h ok' k x cs:=by
 intro k
 induction k with
 | int ik=>intro x cs fo _ H; exact eT (fun _ _=>rfl) hk H.2
 | bool=>intro x cs fo _ H; exact eT (fun _ _=>rfl) hk H.2
 | id e=>intro x cs fo _ H; exact eT (fun _ _=>rfl) hk H.2
 | str=>intro x cs fo _ H; exact eT (fun _ _=>rfl) hk H.2
 | sl e k ih=>
  intro x cs fo hfo H
  unfold Ow at H
  split at H
  ·obtain ⟨a,n,c,e1,e2,e3,H⟩:=H
   refine ⟨a,n,c,e1,e2,e3,fun hn=>?_⟩
   rcases H with H | ⟨b,o,arr,lo,hi,ea,hb,hf,hs,bE,hl,hp,H⟩
   ·omega
   ·refine ⟨b,o,ea,hfo b (hp.mem_iff.2 (by simp)),by refine .inl ?_; unfold lH; rw [hb],fun i hi=>?_⟩
    obtain ⟨ds,h1,h2⟩:=H i hi
    exact ⟨ds,h1,ih (fun b' hb'=>hfo b' (hp.mem_iff.2 (by simp [mD hb']))) h2⟩
  ·exact eT (fun _ _=>rfl) hk H.2
 | unit=>intro x cs fo _ H; exact H.2
 | pair a b iha ihb=>
  intro x cs fo hfo H
  obtain ⟨c1,c2,f1,f2,e,hp,h1,h2⟩:=H
  exact ⟨c1,c2,e,iha (fun b hb=>hfo b (hp.mem_iff.2 (by simp [hb]))) h1,ihb (fun b hb=>hfo b (hp.mem_iff.2 (by simp [hb]))) h2⟩
 | st f ih=>intro x cs fo hfo H; exact ih (x:=x) hfo H
 | gap n=>intro x cs fo _ H; exact H.2
theorem om {h:Heap} {own own':List TypeId} {ok:Nat→Prop} :
  ∀{k:K} {x:El k} {cs:List Value} {fo:List Nat},(∀t∈k.tys,aA t own'=true→aA t own=true)→Ow h own ok k x cs fo→
   ∃gu fd,fo.Perm (gu++fd)∧Ow h own' (fun b=>ok b∨b∈fd) k x cs gu:=by
 intro k
 induction k with
 | int ik=>intro x cs fo _ H; exact ⟨[],[],by rw [H.1]; exact .refl _,rfl,eT (fun _ _=>rfl) (fun _ h=>.inl h) H.2⟩
 | bool=>intro x cs fo _ H; exact ⟨[],[],by rw [H.1]; exact .refl _,rfl,eT (fun _ _=>rfl) (fun _ h=>.inl h) H.2⟩
 | id e=>intro x cs fo _ H; exact ⟨[],[],by rw [H.1]; exact .refl _,rfl,eT (fun _ _=>rfl) (fun _ h=>.inl h) H.2⟩
 | str=>intro x cs fo _ H; exact ⟨[],[],by rw [H.1]; exact .refl _,rfl,eT (fun _ _=>rfl) (fun _ h=>.inl h) H.2⟩
 | sl e k ih=>
  intro x cs fo ht H
  by_cases hm':aA e own'=true
  ·have hm:=ht e (by simp [K.tys]) hm'
   unfold Ow at H
   rw [if_pos hm] at H
   obtain ⟨a,n,c,e1,e2,e3,H⟩:=H
   rcases H with ⟨h0,h1⟩ | ⟨b,o,arr,lo,hi,ea,hb,hf,hs,bE,hl,hp,H⟩
   ·refine ⟨[],[],by rw [h1]; exact .refl _, ?_⟩
    unfold Ow
    rw [if_pos hm']
    exact ⟨a,n,c,e1,e2,e3, .inl ⟨h0,rfl⟩⟩
   ·
    have step:∀i:Nat,∃p:List Nat×List Nat,(hi:i<(show List (El k) from x).length)→((bE.getD i []).Perm (p.1++p.2)∧∃ds,Cells h b (o+i * k.size) ds∧Ow h own' (fun b=>ok b∨b∈p.2) k ((show List (El k) from x)[i]) ds p.1):=by
     intro i
     by_cases hi:i<(show List (El k) from x).length
     ·obtain ⟨ds,h1,h2⟩:=H i hi
      obtain ⟨gu,fd,hp',h3⟩:=ih (fun t ht'=>ht t (by simp [K.tys,ht'])) h2
      exact ⟨(gu,fd),fun _=>⟨hp',ds,h1,h3⟩⟩
     ·exact ⟨([],[]),fun h=>absurd h hi⟩
    have ⟨q,hq⟩:∃q:Nat→List Nat×List Nat,∀i,(hi:i<(show List (El k) from x).length)→((bE.getD i []).Perm ((q i).1++(q i).2)∧∃ds,Cells h b (o+i * k.size) ds∧Ow h own' (fun b=>ok b∨b∈(q i).2) k ((show List (El k) from x)[i]) ds (q i).1):=
     ⟨fun i=>Classical.choose (step i),fun i=>Classical.choose_spec (step i)⟩
    let N:=(show List (El k) from x).length
    refine ⟨b :: (List.range N).flatMap (fun i=>(q i).1),(List.range N).flatMap (fun i=>(q i).2), ?_, ?_⟩
    ·refine hp.trans ?_
     rw [List.cons_append]
     refine .cons b ?_
     have Ul:bE.flatten=(List.range N).flatMap (fun i=>bE.getD i []):=by
      rw [List.flatMap_def]
      congr 1
      apply List.ext_getElem
      ·simp [N,hl]
      ·intro i h1 h2
       simp [abF,abG h1]
     rw [Ul]
     have gen:∀l:List Nat,(∀i∈l,i<N)→(l.flatMap (fun i=>bE.getD i [])).Perm (l.flatMap (fun i=>(q i).1)++l.flatMap (fun i=>(q i).2)):=by
      intro l
      induction l with
      | nil=>intro _; exact .refl _
      | cons i l ihl=>
       intro hl'
       simp only [List.flatMap_cons]
       have h1:=(hq i (hl' i (by simp))).1
       have h2:=ihl (fun j hj=>hl' j (by simp [hj]))
       refine (h1.append h2).trans ?_
       simp only [abN]
       refine List.Perm.append_left _ ?_
       rw [←abN, ←abN]
       exact List.Perm.append_right _ List.perm_append_comm
     exact gen _ (fun i hi=>List.mem_range.1 hi)
    ·unfold Ow
     rw [if_pos hm']
     refine ⟨a,n,c,e1,e2,e3, .inr ⟨b,o,arr,lo,hi,ea,hb,hf,hs,(List.range N).map (fun i=>(q i).1),by simp [N],by rw [List.flatMap_def],fun i hi=>?_⟩⟩
     obtain ⟨ds,h1,h2⟩:=(hq i hi).2
     refine ⟨ds,h1, ?_⟩
     have:(List.map (fun i=>(q i).1) (List.range N)).getD i []=(q i).1:=by
      rw [abF,List.getElem?_map,List.getElem?_range hi]; rfl
     rw [this]
     exact aY (fun _ _=>rfl) (fun b' hb'=>hb'.imp id (fun h=>ab3.2 ⟨i,List.mem_range.2 hi,h⟩)) (fun _ _=>rfl) h2
  ·refine ⟨[],fo,by simp, ?_⟩
   unfold Ow
   rw [if_neg hm']
   exact ⟨rfl,iY _ (fun _ h=>.inl h) (fun _ h=>.inr h) H⟩
 | unit=>intro x cs fo _ H; exact ⟨[],[],by rw [H.1]; exact .refl _,rfl,H.2⟩
 | pair a b iha ihb=>
  intro x cs fo ht H
  obtain ⟨c1,c2,f1,f2,e,hp,h1,h2⟩:=H
  obtain ⟨g1,d1,p1,r1⟩:=iha (fun t h=>ht t (by simp [K.tys,h])) h1
  obtain ⟨g2,d2,p2,r2⟩:=ihb (fun t h=>ht t (by simp [K.tys,h])) h2
  refine ⟨g1++g2,d1++d2,(hp.trans (p1.append p2)).trans ?_,c1,c2,g1,g2,e, .refl _, ?_, ?_⟩
  ·simp only [abN]
   refine List.Perm.append_left _ ?_
   rw [←abN, ←abN]
   exact List.Perm.append_right _ List.perm_append_comm
  ·exact aY (fun _ _=>rfl) (fun b' hb'=>hb'.imp id (fun h=>by simp [h])) (fun _ _=>rfl) r1
  ·exact aY (fun _ _=>rfl) (fun b' hb'=>hb'.imp id (fun h=>by simp [h])) (fun _ _=>rfl) r2
 | st f ih=>intro x cs fo ht H; exact ih (x:=x) ht H
 | gap n=>intro x cs fo _ H; exact ⟨[],[],by rw [H.1]; exact .refl _,rfl,H.2⟩
theorem lZ {h:Heap} {own own':List TypeId} {ok:Nat→Prop} :
  ∀{k:K} {x:El k} {cs:List Value} {fo:List Nat},(∀t∈k.tys,aA t own'=aA t own)→Ow h own ok k x cs fo→Ow h own' ok k x cs fo:=by
 intro k
 induction k with
 | int ik=>intro x cs fo _ H; exact H
 | bool=>intro x cs fo _ H; exact H
 | id e=>intro x cs fo _ H; exact H
 | str=>intro x cs fo _ H; exact H
 | sl e k ih=>
  intro x cs fo ht H
  unfold Ow at H ⊢
  rw [ht e (by simp [K.tys])]
  split
  ·rename_i hm
   rw [if_pos hm] at H
   obtain ⟨a,n,c,e1,e2,e3,H⟩:=H
   refine ⟨a,n,c,e1,e2,e3, ?_⟩
   rcases H with H | ⟨b,o,arr,lo,hi,ea,hb,hf,hs,bE,hl,hp,H⟩
   ·exact .inl H
   ·refine .inr ⟨b,o,arr,lo,hi,ea,hb,hf,hs,bE,hl,hp,fun i hi=>?_⟩
    obtain ⟨ds,h1,h2⟩:=H i hi
    exact ⟨ds,h1,ih (fun t ht'=>ht t (by simp [K.tys,ht'])) h2⟩
  ·rename_i hm
   rw [if_neg hm] at H
   exact H
 | unit=>intro x cs fo _ H; exact H
 | pair a b iha ihb=>
  intro x cs fo ht H
  obtain ⟨c1,c2,f1,f2,e,hp,h1,h2⟩:=H
  exact ⟨c1,c2,f1,f2,e,hp,iha (fun t h=>ht t (by simp [K.tys,h])) h1,ihb (fun t h=>ht t (by simp [K.tys,h])) h2⟩
 | st f ih=>intro x cs fo ht H; exact ih (x:=x) ht H
 | gap n=>intro x cs fo _ H; exact H
theorem lD {h:Heap} {own:List TypeId} {ok:Nat→Prop}:∀{k:K} {x:El k} {cs:List Value},(∀t∈k.tys,aA t own=false)→Vw h ok k x cs→Ow h own ok k x cs []:=by
 intro k
 induction k with
 | int ik=>intro x cs _ H; exact ⟨rfl,H⟩
 | bool=>intro x cs _ H; exact ⟨rfl,H⟩
 | id e=>intro x cs _ H; exact ⟨rfl,H⟩
 | str=>intro x cs _ H; exact ⟨rfl,H⟩
 | sl e k ih=>
  intro x cs ht H
  unfold Ow
  rw [if_neg (by rw [ht e (by simp [K.tys])]; simp)]
  exact ⟨rfl,H⟩
 | unit=>intro x cs _ H; exact ⟨rfl,H⟩
 | pair a b iha ihb=>
  intro x cs ht H
  obtain ⟨c1,c2,e,h1,h2⟩:=H
  exact ⟨c1,c2,[],[],e, .refl _,iha (fun t h=>ht t (by simp [K.tys,h])) h1,ihb (fun t h=>ht t (by simp [K.tys,h])) h2⟩
 | st f ih=>intro x cs ht H; exact ih (x:=x) ht H
 | gap n=>intro x cs _ H; exact ⟨rfl,H⟩
end
section
open Go
variable [Fr]
def aV:Nat→K→Option (Nat×K)
 | 0, .pair a _=>some (0,a)
 | n+1, .pair a b=>match aV n b with
  | some (o,k)=>some (a.size+o,k)
  | none=>none
 | _,_=>none
def kW (h:Heap) (b o n:Nat):List Value:=(List.range n).map fun j=>(cellAt h b (o+j)).getD undef
theorem fV {h:Heap} {b o:Nat} {cs:List Value} (H:Cells h b o cs):kW h b o cs.length=cs:=by
 unfold kW
 apply List.ext_getElem
 ·simp
 ·intro i h1 h2
  simp [H i h2,abG h2]
def bn (h:Heap):List Stp→(k:K)→List Value→Option (Nat×Nat)→Option (List Value×Option (Nat×Nat))
 | [],_,cs,wh=>some (cs,wh)
 | .fu n :: p, .st c,cs,wh=>match aV n c with
  | some (off,k')=>bn h p k' ((cs.drop off).take k'.size) (wh.map fun q=>(q.1,q.2+off))
  | none=>none
 | .idx i :: p, .sl _ k,cs,_=>match cs with
  | [.slice (some a) _ _]=>bn h p k (kW h a.block (a.off+i.toNat * k.size) k.size) (some (a.block,a.off+i.toNat * k.size))
  | _=>none
 | _,_,_,_=>none
def jM:List Stp→(k:K)→El k→Prop
 | [],_,_=>True
 | .fu n :: p, .st c,x=>match aC n c x with
  | some d=>jM p d.1 d.2
  | none=>False
 | .idx i :: p, .sl _ k,xs=>0≤i∧i<((show List (El k) from xs).length:Int)∧jM p k ((show List (El k) from xs).getD i.toNat k.zero)
 | _,_,_=>False
def fJ (h h':Heap) (b o n:Nat):Prop:=
 ∃arr iW e fr,h b=some (.cells arr e fr)∧h' b=some (.cells iW e fr)∧iW.size=arr.size∧∀i,¬(o≤i∧i<o+n)→iW[i]?=arr[i]?
theorem fJ.of_same {h h':Heap} {b:Nat} (o n:Nat) {arr:Array Value} {e:TypeId} {fr:Nat×Nat} (e1:h b=some (.cells arr e fr)) (e2:h' b=h b):fJ h h' b o n:=
 ⟨arr,arr,e,fr,e1,e2.trans e1,rfl,fun _ _=>rfl⟩
theorem fJ.cells {h h':Heap} {b o n o':Nat} {cs:List Value} (H:fJ h h' b o n) (hc:Cells h b o' cs) (hd:o'+cs.length≤o∨o+n≤o'):Cells h' b o' cs:=by
 obtain ⟨arr,iW,e,fr,h1,h2,_,h3⟩:=H
 intro i hi
 have:=hc i hi
 unfold cellAt at this ⊢
 rw [h1] at this
 rw [h2]
 simp only at this ⊢
 rw [h3 _ (by omega)]
 exact this
theorem fJ.cellAt {h h':Heap} {b o n:Nat} (H:fJ h h' b o n) {i:Nat} (hi:¬(o≤i∧i<o+n)):cellAt h' b i=cellAt h b i:=by
 obtain ⟨arr,iW,e,fr,h1,h2,_,h3⟩:=H
 unfold Ow.cellAt
 rw [h1,h2]
 exact h3 i hi
theorem Cells.append {h:Heap} {b o:Nat} {c1 c2:List Value}:Cells h b o (c1++c2)↔Cells h b o c1∧Cells h b (o+c1.length) c2:=by
 constructor
 ·intro H
  refine ⟨fun i hi=>?_,fun i hi=>?_⟩
  ·rw [H i (by simp; omega),List.getElem?_append_left hi]
  ·have:=H (c1.length+i) (by simp; omega)
   rw [List.getElem?_append_right (by omega)] at this
   rw [Nat.add_assoc,this]
   congr 1
   omega
 ·rintro ⟨H1,H2⟩ i hi
  by_cases h1:i<c1.length
  ·rw [H1 i h1,List.getElem?_append_left h1]
  ·have:=H2 (i - c1.length) (by simp at hi; omega)
   rw [List.getElem?_append_right (by omega), ←this]
   congr 1
   omega
theorem qX {a b c:List Nat}:(a++(b++c)).Perm (b++(a++c)):=by
 rw [←abN, ←abN]
 exact List.Perm.append_right _ List.perm_append_comm
theorem qQ:∀(n:Nat) {c:K} {x:El c} {t z:Dat},bT n c x t=some z→aC n z.1 z.2=some t:=by
 intro n
 induction n with
 | zero=>
  intro c x t z h
  cases c with
  | pair a b=>simp only [bT,abr] at h; subst h; rfl
  | _=>simp [bT] at h
 | succ n ih=>
  intro c x t z h
  cases c with
  | pair a b=>
   simp only [bT] at h
   cases h2:bT n b x.2 t with
   | none=>rw [h2] at h; simp at h
   | some y=>rw [h2] at h; simp only [abr] at h; subst h; exact ih h2
  | _=>simp [bT] at h
theorem zl:∀(n:Nat) {c:K} {x:El c} {s t z:Dat},aC n c x=some s→bT n c x t=some z→t.1=s.1→z.1=c:=by
 intro n
 induction n with
 | zero=>
  intro c x s t z hg h e
  cases c with
  | pair a b=>
   simp only [aC,abr] at hg
   simp only [bT,abr] at h
   subst hg; subst h
   simp only at e
   simp [e]
  | _=>simp [bT] at h
 | succ n ih=>
  intro c x s t z hg h e
  cases c with
  | pair a b=>
   simp only [aC] at hg
   simp only [bT] at h
   cases h2:bT n b x.2 t with
   | none=>rw [h2] at h; simp at h
   | some y=>rw [h2] at h; simp only [abr] at h; subst h; simp [ih hg h2 e]
  | _=>simp [bT] at h
theorem rJ:∀(n:Nat) {c:K} {x:El c} {t z:Dat} {off:Nat} {k':K},aV n c=some (off,k')→bT n c x t=some z→aV n z.1=some (off,t.1):=by
 intro n
 induction n with
 | zero=>
  intro c x t z off k' ho h
  cases c with
  | pair a b=>
   simp only [bT,abr] at h
   subst h
   simp only [aV,abr,abD] at ho ⊢
   exact ⟨ho.1,trivial⟩
  | _=>simp [bT] at h
 | succ n ih=>
  intro c x t z off k' ho h
  cases c with
  | pair a b=>
   simp only [bT] at h
   cases h2:bT n b x.2 t with
   | none=>rw [h2] at h; simp at h
   | some y=>
    rw [h2] at h
    simp only [abr] at h
    subst h
    simp only [aV] at ho ⊢
    cases h3:aV n b with
    | none=>rw [h3] at ho; simp at ho
    | some q=>
     rw [h3] at ho
     simp only [Option.map_some,abr,abD] at ho
     rw [ih (k':=q.2) (off:=q.1) (by rw [h3]) h2]
     simp [←ho.1]
  | _=>simp [bT] at h
theorem yH {h:Heap} {own:List TypeId} {ok:Nat→Prop}:∀(n:Nat) {c:K} {x:El c} {cs:List Value} {fo:List Nat} {d:Dat},
  Ow h own ok c x cs fo→aC n c x=some d→
   ∃off pre cs1 post eX fr,aV n c=some (off,d.1)∧cs=pre++(cs1++post)∧pre.length=off∧fo.Perm (eX++fr)∧Ow h own ok d.1 d.2 cs1 eX∧
    (∀(h':Heap) (ok':Nat→Prop) (t:Dat) (kQ:List Value) (ou:List Nat) (z:Dat),bT n c x t=some z→Ow h' own ok' t.1 t.2 kQ ou→
     (∀b,ok b→ok' b∧h' b=h b)→(∀b∈fr,h' b=h b)→Ow h' own ok' z.1 z.2 (pre++(kQ++post)) (ou++fr))∧
    ∀m s2,m≠n→aC m c x=some s2→∃off2 cs2 OQ,aV m c=some (off2,s2.1)∧(cs.drop off2).take s2.1.size=cs2∧Ow h own ok s2.1 s2.2 cs2 OQ∧(∀b∈OQ,b∈fr)∧
     (∀kQ:List Value,kQ.length=d.1.size→((pre++(kQ++post)).drop off2).take s2.1.size=cs2)∧∀t z,bT n c x t=some z→aC m z.1 z.2=some s2:=by
 intro n
 induction n with
 | zero=>
  intro c x cs fo d H hg
  cases c with
  | pair a b=>
   simp only [aC,abr] at hg
   subst hg
   obtain ⟨c1,c2,f1,f2,e,hp,h1,h2⟩:=H
   refine ⟨0,[],c1,c2,f1,f2,rfl,by simpa using e,rfl,hp,h1, ?_, ?_⟩
   ·intro h' ok' t kQ ou z hz ht hok hfr
    simp only [bT,abr] at hz
    subst hz
    exact ⟨kQ,c2,ou,f2,by simp, .refl _,ht,aY (fun b hb=>(hok b hb).2) (fun b hb=>(hok b hb).1) hfr h2⟩
   ·intro m s2 hm hg2
    cases m with
    | zero=>exact absurd rfl hm
    | succ m=>
     simp only [aC] at hg2
     have key:∀(m:Nat) {c:K} {x:El c} {cs:List Value} {fo:List Nat} {d:Dat},Ow h own ok c x cs fo→aC m c x=some d→
       ∃off cs1 eX,aV m c=some (off,d.1)∧(cs.drop off).take d.1.size=cs1∧(∀b∈eX,b∈fo)∧Ow h own ok d.1 d.2 cs1 eX:=by
      intro m
      induction m with
      | zero=>
       intro c x cs fo d H hg
       cases c with
       | pair a b=>
        simp only [aC,abr] at hg
        subst hg
        obtain ⟨c1,c2,f1,f2,rfl,hp,h1,h2⟩:=H
        exact ⟨0,c1,f1,rfl,by simp [←cz h1],fun b hb=>hp.mem_iff.2 (by simp [hb]),h1⟩
       | _=>simp [aC] at hg
      | succ m ih=>
       intro c x cs fo d H hg
       cases c with
       | pair a b=>
        simp only [aC] at hg
        obtain ⟨c1,c2,f1,f2,rfl,hp,h1,h2⟩:=H
        obtain ⟨off,cs1,eX,g1,g2,g3,g4⟩:=ih h2 hg
        refine ⟨a.size+off,cs1,eX,by simp [aV,g1], ?_,fun b hb=>hp.mem_iff.2 (by simp [g3 b hb]),g4⟩
        rw [←g2, ←cz h1, ←List.drop_drop]
        simp
       | _=>simp [aC] at hg
     obtain ⟨off2,cs2,OQ,g1,g2,g3,g4⟩:=key m h2 hg2
     refine ⟨a.size+off2,cs2,OQ,by simp [aV,g1], ?_,g4,g3, ?_, ?_⟩
     ·rw [e, ←g2, ←cz h1, ←List.drop_drop]; simp
     ·intro kQ hl
      simp only at hl
      rw [←g2, ←hl, ←List.drop_drop]; simp
     ·intro t z hz
      simp only [bT,abr] at hz
      subst hz
      exact hg2
  | _=>simp [aC] at hg
 | succ n ih=>
  intro c x cs fo d H hg
  cases c with
  | pair a b=>
   simp only [aC] at hg
   obtain ⟨c1,c2,f1,f2,e,hp,h1,h2⟩:=H
   obtain ⟨off,pre,cs1,post,eX,fr,ho,ec,hl,hp',hd,hu,hoth⟩:=ih h2 hg
   refine ⟨a.size+off,c1++pre,cs1,post,eX,f1++fr, ?_,by rw [e,ec]; simp,by simp [cz h1,hl], ?_,hd, ?_, ?_⟩
   ·simp [aV,ho]
   ·exact (hp.trans (List.Perm.append_left _ hp')).trans qX
   ·intro h' ok' t kQ ou z hz ht hok hfr
    simp only [bT] at hz
    cases hz2:bT n b x.2 t with
    | none=>rw [hz2] at hz; simp at hz
    | some z2=>
     rw [hz2] at hz
     simp only [abr] at hz
     subst hz
     have r2:=hu h' ok' t kQ ou z2 hz2 ht hok (fun b hb=>hfr b (by simp [hb]))
     exact ⟨c1,pre++(kQ++post),f1,ou++fr,by simp,qX,aY (fun b hb=>(hok b hb).2) (fun b hb=>(hok b hb).1) (fun b hb=>hfr b (by simp [hb])) h1,r2⟩
   ·intro m s2 hm hg2
    cases m with
    | zero=>
     simp only [aC,abr] at hg2
     subst hg2
     refine ⟨0,c1,f1,rfl,by rw [e, ←cz h1]; simp,h1,fun b hb=>by simp [hb],fun kQ _=>by rw [←cz h1]; simp, ?_⟩
     intro t z hz
     simp only [bT] at hz
     cases hz2:bT n b x.2 t with
     | none=>rw [hz2] at hz; simp at hz
     | some z2=>rw [hz2] at hz; simp only [abr] at hz; subst hz; rfl
    | succ m=>
     simp only [aC] at hg2
     obtain ⟨off2,cs2,OQ,g1,g2,g3,g4,g5,g6⟩:=hoth m s2 (by omega) hg2
     refine ⟨a.size+off2,cs2,OQ,by simp [aV,g1], ?_,g3,fun b hb=>by simp [g4 b hb], ?_, ?_⟩
     ·rw [e, ←g2, ←cz h1, ←List.drop_drop]; simp
     ·intro kQ hl'
      rw [←g5 kQ hl', ←cz h1, ←List.drop_drop]; simp
     ·intro t z hz
      simp only [bT] at hz
      cases hz2:bT n b x.2 t with
      | none=>rw [hz2] at hz; simp at hz
      | some z2=>rw [hz2] at hz; simp only [abr] at hz; subst hz; exact g6 t z2 hz2
  | _=>simp [aC] at hg
theorem FP:∀(n:Nat) {c:K} {x:El c} {s u y:Dat},aC n c x=some s→bT n c x u=some y→u.1.size=s.1.size→y.1.size=c.size:=by
 intro n
 induction n with
 | zero=>
  intro c x s u y h1 h2 e
  cases c with
  | pair a b=>simp only [aC,bT,abr] at h1 h2; subst h1; subst h2; simp only at e; simp [K.size,e]
  | _=>simp [aC] at h1
 | succ n ih=>
  intro c x s u y h1 h2 e
  cases c with
  | pair a b=>
   simp only [aC,bT] at h1 h2
   cases h3:bT n b x.2 u with
   | none=>rw [h3] at h2; simp at h2
   | some y2=>rw [h3] at h2; simp only [abr] at h2; subst h2; simp [K.size,ih h1 h3 e]
  | _=>simp [aC] at h1
theorem vU:∀(n m:Nat) {c:K} {x:El c} {s u y:Dat} {off2:Nat} {k2:K},m≠n→aC n c x=some s→bT n c x u=some y→u.1.size=s.1.size→aV m c=some (off2,k2)→aV m y.1=some (off2,k2):=by
 intro n
 induction n with
 | zero=>
  intro m c x s u y off2 k2 hm h1 h2 e h3
  cases c with
  | pair a b=>
   simp only [aC,bT,abr] at h1 h2
   subst h1; subst h2
   cases m with
   | zero=>exact absurd rfl hm
   | succ m=>simp only [aV] at h3 ⊢; simp only at e; rw [e]; exact h3
  | _=>simp [aC] at h1
 | succ n ih=>
  intro m c x s u y off2 k2 hm h1 h2 e h3
  cases c with
  | pair a b=>
   simp only [aC,bT] at h1 h2
   cases h4:bT n b x.2 u with
   | none=>rw [h4] at h2; simp at h2
   | some y2=>
    rw [h4] at h2
    simp only [abr] at h2
    subst h2
    cases m with
    | zero=>simp only [aV] at h3 ⊢; exact h3
    | succ m=>
     simp only [aV] at h3 ⊢
     cases h5:aV m b with
     | none=>rw [h5] at h3; simp at h3
     | some q=>
      rw [h5] at h3
      rw [ih m (off2:=q.1) (k2:=q.2) (by omega) h1 h4 e (by rw [h5])]
      exact h3
  | _=>simp [aC] at h1
theorem kY {pre cs1 post:List Value} {off n:Nat} (h1:pre.length=off) (h2:cs1.length=n):((pre++(cs1++post)).drop off).take n=cs1:=by
 subst h1; subst h2; simp
theorem bR {A:Type} {l:List A} {d:A} {i:Nat} (h:i<l.length):l.getD i d=l[i]:=by
 rw [abF,abG h]; rfl
theorem BQ {bE:List (List Nat)} {i:Nat} (h:i<bE.length):bE.flatten.Perm (bE.getD i []++((bE.take i).flatten++(bE.drop (i+1)).flatten)):=by
 have e:bE=bE.take i++(bE.getD i [] :: bE.drop (i+1)):=by
  rw [bR h, ←List.drop_eq_getElem_cons h,List.take_append_drop]
 have:bE.flatten=(bE.take i).flatten++(bE.getD i []++(bE.drop (i+1)).flatten):=by
  rw [congrArg List.flatten e]; simp
 rw [this]
 exact qX
theorem Md {bE:List (List Nat)} {i:Nat} (h:i<bE.length) (q:List Nat):(bE.set i q).flatten.Perm (q++((bE.take i).flatten++(bE.drop (i+1)).flatten)):=by
 have h':i<(bE.set i q).length:=by simpa using h
 have:=BQ h'
 rw [bR h',List.getElem_set_self] at this
 simpa [List.take_set_of_le,List.drop_set_of_lt] using this
theorem bP:∀(n:Nat) {c:K} {x:El c} {s:Dat},aC n c x=some s→aa.yl n c=some s.1:=by
 intro n
 induction n with
 | zero=>
  intro c x s e
  cases c with
  | pair a b=>simp only [aC,abr] at e; subst e; rfl
  | _=>simp [aC] at e
 | succ n ih=>
  intro c x s e
  cases c with
  | pair a b=>simp only [aC] at e; exact ih e
  | _=>simp [aC] at e
theorem Aa {h h':Heap} {own:List TypeId} {ok:Nat→Prop}:∀(p:List Stp) {k:K} {x:El k} {cs:List Value} {fo:List Nat} {wh:Option (Nat×Nat)},
  Ow h own ok k x cs fo→jM p k x→(∀t∈aa p k,aA t own=true)→(∀b∈fo,h' b=h b)→bn h' p k cs wh=bn h p k cs wh:=by
 intro p
 induction p with
 | nil=>intro k x cs fo wh _ _ _ _; rfl
 | cons s p ih=>
  intro k x cs fo wh H hin CP hfo
  cases s with
  | fu n=>
   cases k with
   | st c=>
    simp only [jM] at hin
    cases hcg:aC n c x with
    | none=>rw [hcg] at hin; exact hin.elim
    | some s=>
     rw [hcg] at hin
     obtain ⟨off,pre,cs0,post,qC,fr,ho,ec,hl,hp,hd,_⟩:=yH n (show Ow h own ok c x cs fo from H) hcg
     have hpt:aa (.fu n :: p) (.st c)=aa p s.1:=by simp [aa,bP n hcg]
     rw [hpt] at CP
     simp only [bn]
     rw [ho]
     simp only
     rw [ec,kY hl (cz hd)]
     exact ih hd hin CP (fun b hb=>hfo b (hp.mem_iff.2 (abx _ hb)))
   | _=>simp [jM] at hin
  | idx i=>
   cases k with
   | sl e k=>
    simp only [jM] at hin
    obtain ⟨hi0,hi1,hin⟩:=hin
    have Yj:i<((@List.length (El k) x:Nat):Int):=hi1
    have hlt:i.toNat < @List.length (El k) x:=by omega
    have eg:(show List (El k) from x).getD i.toNat k.zero=(show List (El k) from x)[i.toNat]'hlt:=bR hlt
    rw [eg] at hin
    unfold Ow at H
    rw [if_pos (CP e (by simp [aa]))] at H
    obtain ⟨a,n,c,e1,e2,e3,H⟩:=H
    have e2':n=@List.length (El k) x:=e2
    rcases H with ⟨h0,_⟩ | ⟨b,o,arr,lo,hi,ea,hb,hf,hs,bE,hfl,hp,H⟩
    ·omega
    ·obtain ⟨ds,hcd,hod⟩:=H i.toNat hlt
     have hbb:h' b=h b:=hfo b (hp.mem_iff.2 (by simp))
     have r1:=fV hcd
     have r2:=fV (hcd.congr hbb)
     rw [cz hod] at r1 r2
     subst e1
     subst ea
     simp only [bn]
     rw [r1,r2]
     exact ih hod hin (fun t ht=>CP t (by simp [aa,ht])) (fun b' hb'=>hfo b' (hp.mem_iff.2 (by simp [mD hb'])))
   | _=>simp [jM] at hin
def yE (h h':Heap) (own:List TypeId) (k:K) (x:El k) (cs:List Value) (wh:Option (Nat×Nat)) (z:Dat) (cs':List Value) (bad:List TypeId):Prop:=
 ∀q c0 w0,jM q k x→(∀t∈aa q k,aA t own=true∧t∉bad)→bn h q k cs wh=some (c0,w0)→(aI q z.1 z.2).isSome=true→jM q z.1 z.2∧∃c1,bn h' q z.1 cs' wh=some (c1,w0)
structure ZL (h:Heap) (own:List TypeId) (ok:Nat→Prop) (p:List Stp) (k:K) (x:El k) (cs:List Value) (wh:Option (Nat×Nat)) (d:Dat) (rest:List Nat) (cs1:List Value) (jS:Option (Nat×Nat)):Prop where
 go:∀(h':Heap) (ok':Nat→Prop) (t:Dat) (kQ:List Value) (ou:List Nat) (z:Dat),dL p k x t=some z→kQ.length=d.1.size→Ow h' own ok' t.1 t.2 kQ ou→
  (∀b,ok b→ok' b∧h' b=h b)→(∀b∈rest,jS.map (·.1)≠some b→h' b=h b)→
  (∀b o,jS=some (b,o)→Cells h' b o kQ∧fJ h h' b o d.1.size)→
  (jS=none→kQ=cs1)→(∀b o,wh=some (b,o)→jS.map (·.1)≠some b→h' b=h b)→
  ∃cs',cs'.length=cs.length∧Ow h' own ok' z.1 z.2 cs' (ou++rest)∧(∀b o,wh=some (b,o)→Cells h' b o cs')∧(wh=none→cs'=cs)∧
   ∀bad,t.1.size=d.1.size→yE h h' own d.1 d.2 cs1 jS t kQ bad→(t.1=d.1→z.1=k)∧z.1.size=k.size∧yE h h' own k x cs wh z cs' bad∧bn h' p z.1 cs' wh=some (kQ,jS)
def Sq (h:Heap) (own:List TypeId) (ok:Nat→Prop) (p:List Stp) (k:K) (x:El k) (cs:List Value) (fo:List Nat) (wh:Option (Nat×Nat)) (d:Dat):Prop:=
 ∃cs1 eX rest jS,bn h p k cs wh=some (cs1,jS)∧fo.Perm (eX++rest)∧Ow h own ok d.1 d.2 cs1 eX∧(∀b o,jS=some (b,o)→Cells h b o cs1)∧
  (∀b o,jS=some (b,o)→(aa p k=[]∧∃o0,wh=some (b,o0)∧o0≤o∧o+d.1.size≤o0+k.size)∨
   (b∈rest∧∃arr e lo hi,h b=some (.cells arr e (lo,hi))∧wQ arr.size lo hi∧(aa p k).getLast?=some e∧o+d.1.size≤arr.size))∧
  (jS=none→wh=none)∧ZL h own ok p k x cs wh d rest cs1 jS
theorem mq {wh:Option (Nat×Nat)} {off b o:Nat} (e:wh.map (fun q=>(q.1,q.2+off))=some (b,o)):∃o0,wh=some (b,o0)∧o=o0+off:=by
 cases wh with
 | none=>simp at e
 | some q=>
  simp only [Option.map_some,abr,abD] at e
  exact ⟨q.2,by rw [←e.1],e.2.symm⟩
theorem Nt {h:Heap} {own:List TypeId} {ok:Nat→Prop} {p:List Stp} {n:Nat} {c:K} {x:El c} {cs:List Value} {fo:List Nat} {wh:Option (Nat×Nat)} {s d:Dat}
  (H:Ow h own ok c x cs fo) (hc:∀b o,wh=some (b,o)→Cells h b o cs) (hcg:aC n c x=some s) (hnd:fo.Nodup) (hbase:∀b o,wh=some (b,o)→b∉fo)
  (ih:∀{cs0:List Value} {qC:List Nat} {MO:Option (Nat×Nat)},Ow h own ok s.1 s.2 cs0 qC→(∀b o,MO=some (b,o)→Cells h b o cs0)→qC.Nodup→(∀b o,MO=some (b,o)→b∉qC)→Sq h own ok p s.1 s.2 cs0 qC MO d) :
  Sq h own ok (.fu n :: p) (.st c) x cs fo wh d:=by
 obtain ⟨off,pre,cs0,post,qC,fr,ho,ec,hl,hp,hd,hu,hoth⟩:=yH n H hcg
 have hsz:=cz hd
 have hpt:aa (.fu n :: p) (.st c)=aa p s.1:=by simp [aa,bP n hcg]
 have hnd':(qC++fr).Nodup:=hp.nodup hnd
 have hsub:(cs.drop off).take s.1.size=cs0:=by rw [ec]; exact kY hl hsz
 have hlen:cs.length=c.size:=cz H
 have Zl:off+s.1.size+post.length=c.size:=by rw [←hlen,ec]; simp [hl,hsz]; omega
 obtain ⟨cs1,eX,rest,jS,hn,hp1,hd1,hc1,hin1,hnone,hup⟩:=ih (MO:=wh.map fun q=>(q.1,q.2+off)) hd
  (fun b o e=>by
   obtain ⟨o0,e1,rfl⟩:=mq e
   have:=hc b o0 e1
   rw [ec,Cells.append,Cells.append] at this
   rw [←hl]
   exact this.2.1) (abz.1 hnd').1
  (fun b o e hb=>by
   obtain ⟨o0,e1,rfl⟩:=mq e
   exact hbase b o0 e1 (hp.mem_iff.2 (abx _ hb)))
 have Yc:∀b o,jS=some (b,o)→b∉fr:=by
  intro b o e hb
  rcases hin1 b o e with ⟨_,o0,ew,_⟩ | ⟨h1,_⟩
  ·obtain ⟨o1,e1,_⟩:=mq ew
   exact hbase b o1 e1 (hp.mem_iff.2 (abu _ hb))
  ·exact (abz.1 hnd').2.2 b (hp1.mem_iff.2 (abu _ h1)) b hb rfl
 refine ⟨cs1,eX,rest++fr,jS, ?_, ?_,hd1,hc1, ?_, ?_,⟨?_⟩⟩
 ·simp only [bn]
  rw [ho]
  simp only
  rw [hsub]
  exact hn
 ·rw [←abN]
  exact hp.trans (List.Perm.append_right _ hp1)
 ·intro b o e
  rw [hpt]
  rcases hin1 b o e with ⟨h0,o0,ew,h1,h2⟩ | ⟨h1,h2⟩
  ·obtain ⟨o1,e1,rfl⟩:=mq ew
   refine .inl ⟨h0,o1,e1,by omega, ?_⟩
   show o+d.1.size≤o1+c.size
   omega
  ·exact .inr ⟨abx _ h1,h2⟩
 ·intro e
  have:=hnone e
  cases wh with
  | none=>rfl
  | some q=>simp at this
 ·intro h' ok' t kQ ou z hz hl' ht hok hrest hw hcs hb0
  simp only [dL,hcg] at hz
  cases hs:dL p s.1 s.2 t with
  | none=>rw [hs] at hz; simp at hz
  | some u=>
   rw [hs] at hz
   simp only at hz
   cases hcp:bT n c x u with
   | none=>rw [hcp] at hz; simp at hz
   | some y=>
    rw [hcp] at hz
    simp only [abr] at hz
    subst hz
    obtain ⟨Nc,hl0,ho0,hc0,hn0,hnk⟩:=hup.go h' ok' t kQ ou u hs hl' ht hok (fun b hb=>hrest b (abx _ hb)) hw hcs
     (fun b o e=>by
      obtain ⟨o0,e1,_⟩:=mq e
      exact hb0 b o0 e1)
    have hfr:∀b∈fr,h' b=h b:=by
     intro b hb
     refine hrest b (abu _ hb) ?_
     intro e
     cases sH:jS with
     | none=>rw [sH] at e; simp at e
     | some q=>
      rw [sH] at e
      simp only [Option.map_some,abr] at e
      exact Yc q.1 q.2 sH (e▸hb)
    have r:=hu h' ok' u Nc (ou++rest) y hcp ho0 hok hfr
    refine ⟨pre++(Nc++post),by rw [ec]; simp [hl0], ?_, ?_, ?_, ?_⟩
    ·have r':Ow h' own ok' y.1 y.2 (pre++(Nc++post)) (ou++(rest++fr)):=by
      rw [show ou++(rest++fr)=ou++rest++fr from (abN ..).symm]; exact r
     exact r'
    ·intro b o e
     have hwc:=hc b o e
     rw [ec,Cells.append,Cells.append] at hwc
     have hc0':=hc0 b (o+off) (by rw [e]; rfl)
     rw [Cells.append,Cells.append,hl0,hsz,hl]
     have QH:=hwc.2.2
     rw [hsz,hl] at QH
     by_cases hbw:jS.map (·.1)=some b
     ·cases sH:jS with
      | none=>rw [sH] at hbw; simp at hbw
      | some q=>
       rw [sH] at hbw
       simp only [Option.map_some,abr] at hbw
       subst hbw
       have hsb:=(hw q.1 q.2 sH).2
       rcases hin1 q.1 q.2 sH with ⟨_,o0,ew,g1,g2⟩ | ⟨h1,_⟩
       ·rw [e] at ew
        simp only [Option.map_some,abr,abD,true_and] at ew
        exact ⟨hsb.cells hwc.1 (.inl (by omega)),hc0',hsb.cells QH (.inr (by omega))⟩
       ·exact absurd (hp.mem_iff.2 (abx _ (hp1.mem_iff.2 (abu _ h1)))) (hbase q.1 o e)
     ·have hbb:=hb0 b o e hbw
      exact ⟨hwc.1.congr hbb,hc0',QH.congr hbb⟩
    ·intro e
     have:=hn0 (by rw [e]; rfl)
     rw [this,ec]
    ·intro bad hkind uI
     obtain ⟨n1,n3,n2,n4⟩:=hnk bad hkind uI
     refine ⟨fun e=>congrArg K.st (zl n hcg hcp (n1 e)),(show y.1.size=c.size from FP n hcg hcp n3), ?_,by
      show bn h' (.fu n :: p) (.st y.1) _ _=_
      simp only [bn]
      rw [rJ n ho hcp]
      simp only
      rw [kY hl (cz ho0)]
      exact n4⟩
     intro q c0 w0 hq UC CO Rt
     cases q with
     | nil=>
      simp only [bn,abr,abD] at CO ⊢
      exact ⟨trivial,_,rfl,CO.2⟩
     | cons sq q=>
      cases sq with
      | idx i=>simp [jM] at hq
      | fu m=>
       simp only [jM] at hq
       cases hg2:aC m c x with
       | none=>rw [hg2] at hq; exact hq.elim
       | some s2=>
        rw [hg2] at hq
        have Yy:aa (.fu m :: q) (.st c)=aa q s2.1:=by simp [aa,bP m hg2]
        rw [Yy] at UC
        by_cases hmn:m=n
        ·subst hmn
         rw [hcg] at hg2
         simp only [abr] at hg2
         subst hg2
         simp only [bn] at CO
         rw [ho] at CO
         simp only at CO
         rw [hsub] at CO
         obtain ⟨r1,c1,r2⟩:=n2 q c0 w0 hq UC CO (by
          have:(aI (.fu m :: q) (.st y.1) y.2).isSome=true:=Rt
          simpa only [aI,qQ m hcp] using this)
         refine ⟨?_,c1, ?_⟩
         ·show jM (.fu m :: q) (.st y.1) y.2
          simp only [jM,qQ m hcp]
          exact r1
         ·show bn h' (.fu m :: q) (.st y.1) _ _=_
          simp only [bn]
          rw [rJ m ho hcp]
          simp only
          rw [kY hl (cz ho0)]
          exact r2
        ·obtain ⟨off2,cs2,OQ,g1,g2,g3,g4,g5,g6⟩:=hoth m s2 hmn hg2
         simp only [bn] at CO
         rw [g1] at CO
         simp only at CO
         rw [g2] at CO
         have g7:=g6 u y hcp
         refine ⟨?_,c0, ?_⟩
         ·show jM (.fu m :: q) (.st y.1) y.2
          simp only [jM,g7]
          exact hq
         ·show bn h' (.fu m :: q) (.st y.1) _ _=_
          simp only [bn]
          rw [vU n m hmn hcg hcp n3 g1]
          simp only
          rw [g5 Nc (by rw [hl0,hsz]), ←CO]
          exact Aa q g3 hq (fun t ht=>(UC t ht).1) (fun b hb=>hfr b (g4 b hb))
theorem Nu {h:Heap} {own:List TypeId} {ok:Nat→Prop} {p:List Stp} {i:Int} {e:TypeId} {k:K} {xs:List (El k)} {cs:List Value} {fo:List Nat} {wh:Option (Nat×Nat)} {d:Dat}
  (H:Ow h own ok (.sl e k) xs cs fo) (hc:∀b o,wh=some (b,o)→Cells h b o cs) (hnd:fo.Nodup) (hbase:∀b o,wh=some (b,o)→b∉fo) (hmem:aA e own=true) (hlt:i.toNat<xs.length)
  (ih:∀{cs0:List Value} {qC:List Nat} {MO:Option (Nat×Nat)},Ow h own ok k xs[i.toNat] cs0 qC→(∀b o,MO=some (b,o)→Cells h b o cs0)→qC.Nodup→(∀b o,MO=some (b,o)→b∉qC)→Sq h own ok p k xs[i.toNat] cs0 qC MO d) :
  Sq h own ok (.idx i :: p) (.sl e k) xs cs fo wh d:=by
 unfold Ow at H
 rw [if_pos hmem] at H
 obtain ⟨a,n,c,e1,e2,e3,H⟩:=H
 have e2':n=xs.length:=e2
 rcases H with ⟨h0,_⟩ | ⟨b,o,arr,lo,hi,ea,hb,hf,X0,bE,hfl,hp,H⟩
 ·omega
 have X3:bE.length=xs.length:=hfl
 obtain ⟨ds,hcd,hod⟩:=H i.toNat hlt
 have hnd':(b :: bE.flatten).Nodup:=hp.nodup hnd
 have hnb:b∉bE.flatten:=(abZ.1 hnd').1
 have hpk:=BQ (bE:=bE) (i:=i.toNat) (by omega)
 have qU:=hpk.nodup (abZ.1 hnd').2
 obtain ⟨cs1,eX,rest,jS,hn,hp1,hd1,hc1,hin1,hnone,hup⟩:=ih (MO:=some (b,o+i.toNat * k.size)) hod
  (fun b' o' e'=>by
   simp only [abr,abD] at e'
   obtain ⟨rfl,rfl⟩:=e'
   exact hcd) (abz.1 qU).1
  (fun b' o' e' hb'=>by
   simp only [abr,abD] at e'
   obtain ⟨rfl,rfl⟩:=e'
   exact hnb (mD hb'))
 have hdl:ds.length=k.size:=cz hod
 have hwn:jS≠none:=fun e'=>by have:=hnone e'; simp at this
 generalize hR:(bE.take i.toNat).flatten++(bE.drop (i.toNat+1)).flatten=R at *
 have hcap:i.toNat * k.size+k.size≤c * k.size:=by
  have:(i.toNat+1) * k.size≤c * k.size:=abX _ (by omega)
  rw [Nat.add_mul,Nat.one_mul] at this
  exact this
 refine ⟨cs1,eX,b :: (rest++R),jS, ?_, ?_,hd1,hc1, ?_,fun e'=>absurd e' hwn,⟨?_⟩⟩
 ·subst e1
  subst ea
  simp only [bn]
  have:kW h b (o+i.toNat * k.size) k.size=ds:=by
   have:=fV hcd
   rwa [hdl] at this
  rw [this]
  exact hn
 ·refine (hp.trans (.cons b (hpk.trans (List.Perm.append_right _ hp1)))).trans ?_
  rw [abN]
  exact List.perm_middle.symm
 ·intro b' o' e'
  rcases hin1 b' o' e' with ⟨hz,o0,ew,h1,h2⟩ | ⟨h1,iW,e'',lo',hi',g1,g2,g3,g4⟩
  ·simp only [abr,abD] at ew
   obtain ⟨rfl,rfl⟩:=ew
   exact .inr ⟨abY,arr,e,lo,hi,hb,hf,by simp [aa,hz],by omega⟩
  ·refine .inr ⟨by simp [h1],iW,e'',lo',hi',g1,g2, ?_,g4⟩
   simp only [aa,List.getLast?_cons,g3,Option.getD_some]
 ·intro h' ok' t kQ ou z hz hl' ht hok hrest hw hcs hb0
  simp only [dL] at hz
  rw [bR hlt] at hz
  cases hs:dL p k xs[i.toNat] t with
  | none=>rw [hs] at hz; simp at hz
  | some u=>
   rw [hs] at hz
   simp only at hz
   cases hck:bL u.1 k u.2 with
   | none=>rw [hck] at hz; simp at hz
   | some y=>
    rw [hck] at hz
    simp only [abr] at hz
    subst hz
    obtain ⟨uk,ux⟩:=u
    unfold bL at hck
    split at hck
    case isFalse=>simp at hck
    rename_i hbq
    have hk:=K.eq_of_beq hbq
    simp only at hk
    subst hk
    simp only [abr] at hck
    subst hck
    have hwb:∀q,jS=some q→q.1∉R:=by
     intro q hq Zo
     rcases hin1 q.1 q.2 hq with ⟨_,o0,ew,_⟩ | ⟨h1,_⟩
     ·simp only [abr,abD] at ew
      exact hnb (hpk.mem_iff.2 (abu _ (ew.1▸Zo)))
     ·exact (abz.1 qU).2.2 q.1 (hp1.mem_iff.2 (abu _ h1)) q.1 Zo rfl
    obtain ⟨ds',hl0,ho0,hc0,_,hnk⟩:=hup.go h' ok' t kQ ou ⟨uk,ux⟩ hs hl' ht hok (fun b' hb'=>hrest b' (by simp [hb'])) hw hcs
     (fun b' o' e' hne=>by
      simp only [abr,abD] at e'
      obtain ⟨rfl,rfl⟩:=e'
      exact hrest b abY hne)
    have Qh:∀b'∈R,h' b'=h b':=by
     intro b' hb'
     refine hrest b' (by simp [hb']) ?_
     intro e'
     cases sH:jS with
     | none=>exact absurd sH hwn
     | some q=>
      rw [sH] at e'
      simp only [Option.map_some,abr] at e'
      exact hwb q sH (e'▸hb')
    have hblk:∃iW,h' b=some (.cells iW e (lo,hi))∧iW.size=arr.size∧∀j,¬(o+i.toNat * uk.size≤j∧j<o+i.toNat * uk.size+uk.size)→iW[j]?=arr[j]?:=by
     by_cases hbw:jS.map (·.1)=some b
     ·cases sH:jS with
      | none=>exact absurd sH hwn
      | some q=>
       rw [sH] at hbw
       simp only [Option.map_some,abr] at hbw
       obtain ⟨a1,a2,te,fr,g1,g2,g3,g4⟩:=(hw q.1 q.2 sH).2
       rw [hbw] at g1 g2
       rw [hb] at g1
       simp only [abr,Obj.cells.injEq] at g1
       obtain ⟨rfl,rfl,rfl⟩:=g1
       rcases hin1 q.1 q.2 sH with ⟨_,o0,ew,h1,h2⟩ | ⟨h1,_⟩
       ·simp only [abr,abD] at ew
        refine ⟨a2,g2,g3,fun j hj=>g4 j ?_⟩
        intro hj2
        exact hj (by omega)
       ·exact absurd (hpk.mem_iff.2 (abx _ (hp1.mem_iff.2 (abu _ (hbw▸h1))))) hnb
     ·have:=hrest b abY hbw
      exact ⟨arr,this.trans hb,rfl,fun _ _=>rfl⟩
    obtain ⟨iW,hb',hsz',hsame⟩:=hblk
    have hmul:∀a b:Nat,a<b→a * uk.size+uk.size≤b * uk.size:=by
     intro a b hab
     have:(a+1) * uk.size≤b * uk.size:=abX _ (by omega)
     rwa [Nat.add_mul,Nat.one_mul] at this
    have H7:∀(j:Nat) (dj:List Value),j≠i.toNat→dj.length=uk.size→Cells h b (o+j * uk.size) dj→Cells h' b (o+j * uk.size) dj:=by
     intro j dj hji hjl h1 q hq
     have:=h1 q hq
     unfold cellAt at this ⊢
     rw [hb] at this
     rw [hb']
     simp only at this ⊢
     rw [hsame _ (by
      rcases Nat.lt_or_gt_of_ne hji with hlt' | Ur
      ·have:=hmul j i.toNat hlt'; omega
      ·have:=hmul i.toNat j Ur; omega)]
     exact this
    have H8:∀j,j≠i.toNat→∀q∈bE.getD j [],h' q=h q:=by
     intro j hji q hq
     refine Qh q ?_
     rw [←hR]
     by_cases hjf:j<bE.length
     ·rw [abF,abG hjf] at hq
      simp only [Option.getD_some] at hq
      rcases Nat.lt_or_gt_of_ne hji with hlt' | Ur
      ·exact abx _ (List.mem_flatten.2 ⟨bE[j],List.mem_take_iff_getElem.2 ⟨j,by omega,rfl⟩,hq⟩)
      ·refine abu _ (List.mem_flatten.2 ⟨bE[j],List.mem_drop_iff_getElem.2 ⟨j - (i.toNat+1),by omega, ?_⟩,hq⟩)
       congr 1
       omega
     ·rw [abF,List.getElem?_eq_none (by omega)] at hq
      simp at hq
    refine ⟨cs,rfl, ?_, ?_,fun _=>rfl, ?_⟩
    ·unfold Ow
     rw [if_pos hmem]
     refine ⟨a,n,c,e1,by rw [e2']; simp,e3, .inr ⟨b,o,iW,lo,hi,ea,hb',by rw [hsz']; exact hf,by rw [hsz']; exact X0,bE.set i.toNat (ou++rest),by simp [X3], ?_, ?_⟩⟩
     ·have:=Md (bE:=bE) (i:=i.toNat) (by omega) (ou++rest)
      rw [hR,abN] at this
      exact (List.perm_middle.trans (.cons b this.symm))
     ·intro j hj
      have hj':j<xs.length:=by simpa using hj
      by_cases hji:j=i.toNat
      ·subst hji
       refine ⟨ds',hc0 b _ rfl, ?_⟩
       have e1:(xs.set i.toNat ux)[i.toNat]'(by simpa using hj')=ux:=by simp
       have e2:(bE.set i.toNat (ou++rest)).getD i.toNat []=ou++rest:=by
        rw [bR (by simp; omega)]; simp
       rw [e2]
       show Ow h' own ok' uk ((xs.set i.toNat ux)[i.toNat]'(by simpa using hj')) ds' _
       rw [e1]
       exact ho0
      ·obtain ⟨dj,h1,h2⟩:=H j hj'
       have hjl:dj.length=uk.size:=cz h2
       refine ⟨dj,H7 j dj hji hjl h1, ?_⟩
       have e1:(xs.set i.toNat ux)[j]'(by simpa using hj')=xs[j]:=by
        rw [List.getElem_set_ne (by omega)]
       have e2:(bE.set i.toNat (ou++rest)).getD j []=bE.getD j []:=by
        rw [abF,abF,List.getElem?_set_ne (by omega)]
       rw [e2]
       show Ow h' own ok' uk ((xs.set i.toNat ux)[j]'(by simpa using hj')) dj _
       rw [e1]
       exact aY (fun b hb=>(hok b hb).2) (fun b hb=>(hok b hb).1) (H8 j hji) h2
    ·intro b' o' e'
     have hcb:=hc b' o' e'
     by_cases hbw:jS.map (·.1)=some b'
     ·cases sH:jS with
      | none=>exact absurd sH hwn
      | some q=>
       rw [sH] at hbw
       simp only [Option.map_some,abr] at hbw
       have hbf:=hbase b' o' e'
       rcases hin1 q.1 q.2 sH with ⟨_,o0,ew,_⟩ | ⟨h1,_⟩
       ·simp only [abr,abD] at ew
        exact absurd (hp.mem_iff.2 (by rw [←hbw, ←ew.1]; exact abY)) hbf
       ·exact absurd (hp.mem_iff.2 (abQ _ (hpk.mem_iff.2 (abx _ (hp1.mem_iff.2 (abu _ (hbw▸h1))))))) hbf
     ·exact hcb.congr (hb0 b' o' e' hbw)
    ·intro bad hkind uI
     obtain ⟨_,_,n2,n4⟩:=hnk bad hkind uI
     refine ⟨fun _=>rfl,rfl, ?_,by
      subst e1
      subst ea
      simp only [bn]
      have hr':kW h' b (o+i.toNat * uk.size) uk.size=ds':=by
       have:=fV (hc0 b _ rfl)
       rwa [hl0,hdl] at this
      rw [hr']
      exact n4⟩
     intro q c0 w0 hq UC CO Rt
     cases q with
     | nil=>exact ⟨trivial,_,by rw [←(show (cs,wh)=(c0,w0) from by simpa [bn] using CO)]; rfl⟩
     | cons sq q=>
      cases sq with
      | fu m=>simp [jM] at hq
      | idx j=>
       simp only [jM] at hq
       obtain ⟨hj0,hj1,hq⟩:=hq
       have Yk:j<(xs.length:Int):=hj1
       have hjl:j.toNat<xs.length:=by omega
       have ZU:(show List (El uk) from xs).getD j.toNat uk.zero=xs[j.toNat]:=bR hjl
       rw [ZU] at hq
       subst e1
       subst ea
       simp only [bn] at CO
       have UD:∀t∈aa q uk,aA t own=true∧t∉bad:=fun t ht=>UC t (by simp [aa,ht])
       have hln:j<((xs.set i.toNat ux).length:Int):=by simpa using Yk
       by_cases hji:j.toNat=i.toNat
       ·have hr:kW h b (o+j.toNat * uk.size) uk.size=ds:=by
         rw [hji]
         have:=fV hcd
         rwa [hdl] at this
        rw [hr,hji] at CO
        have hq':jM q uk xs[i.toNat]:=by
         have:xs[j.toNat]=xs[i.toNat]:=by congr 1
         rw [←this]; exact hq
        obtain ⟨r1,c1,r2⟩:=n2 q c0 w0 hq' UD CO (by
         have:(aI (.idx j :: q) (.sl e uk) (xs.set i.toNat ux)).isSome=true:=Rt
         simp only [aI] at this
         have e3:(show List (El uk) from xs.set i.toNat ux).getD j.toNat uk.zero=ux:=by
          rw [hji,bR (by simpa using hlt)]; simp
         rw [e3] at this
         exact this)
        refine ⟨⟨hj0,hln, ?_⟩,c1, ?_⟩
        ·have:(show List (El uk) from xs.set i.toNat ux).getD j.toNat uk.zero=ux:=by
          rw [hji,bR (by simpa using hlt)]; simp
         rw [this]
         exact r1
        ·simp only [bn]
         have hr':kW h' b (o+j.toNat * uk.size) uk.size=ds':=by
          rw [hji]
          have:=fV (hc0 b _ rfl)
          rwa [hl0,hdl] at this
         rw [hr',hji]
         exact r2
       ·obtain ⟨dj,h1,h2⟩:=H j.toNat hjl
        have Qs:dj.length=uk.size:=cz h2
        have hr:kW h b (o+j.toNat * uk.size) uk.size=dj:=by
         have:=fV h1
         rwa [Qs] at this
        have hr':kW h' b (o+j.toNat * uk.size) uk.size=dj:=by
         have:=fV (H7 j.toNat dj hji Qs h1)
         rwa [Qs] at this
        rw [hr] at CO
        refine ⟨⟨hj0,hln, ?_⟩,c0, ?_⟩
        ·have:(show List (El uk) from xs.set i.toNat ux).getD j.toNat uk.zero=xs[j.toNat]:=by
          rw [bR (by simpa using hjl),List.getElem_set_ne (by omega)]
         rw [this]
         exact hq
        ·simp only [bn]
         rw [hr', ←CO]
         exact Aa q h2 hq (fun t ht=>(UD t ht).1) (H8 j.toNat hji)
theorem focus {h:Heap} {own:List TypeId} {ok:Nat→Prop}:∀(p:List Stp) {k:K} {x:El k} {cs:List Value} {fo:List Nat} {wh:Option (Nat×Nat)} {d:Dat},
  Ow h own ok k x cs fo→(∀b o,wh=some (b,o)→Cells h b o cs)→aI p k x=some d→jM p k x→(∀t∈aa p k,aA t own=true)→fo.Nodup→(∀b o,wh=some (b,o)→b∉fo)→
   Sq h own ok p k x cs fo wh d:=by
 intro p
 induction p with
 | nil=>
  intro k x cs fo wh d H hc hg _ _ _ _
  simp only [aI,abr] at hg
  subst hg
  refine ⟨cs,fo,[],wh,rfl,by simp,H,hc,fun b o e=>.inl ⟨rfl,o,e,abI _,abI _⟩,id,⟨?_⟩⟩
  intro h' ok' t kQ ou z hz hl ht _ _ hw hn _
  simp only [dL,abr] at hz
  subst hz
  exact ⟨kQ,by rw [hl,cz H],by simpa using ht,fun b o e=>(hw b o e).1,hn,fun bad hk uI=>⟨id,hk,uI,rfl⟩⟩
 | cons s p ih=>
  intro k x cs fo wh d H hc hg hin CP hnd hbase
  cases s with
  | fu n=>
   cases k with
   | st c=>
    simp only [aI] at hg
    cases hcg:aC n c x with
    | none=>rw [hcg] at hg; simp at hg
    | some s=>
     rw [hcg] at hg
     simp only at hg
     simp only [jM,hcg] at hin
     have hpt:aa (.fu n :: p) (.st c)=aa p s.1:=by simp [aa,bP n hcg]
     rw [hpt] at CP
     exact Nt (show Ow h own ok c x cs fo from H) hc hcg hnd hbase (fun H0 hc0 uJ hb0=>ih H0 hc0 hg hin CP uJ hb0)
   | _=>simp [aI] at hg
  | idx i=>
   cases k with
   | sl e k=>
    simp only [aI] at hg
    simp only [jM] at hin
    obtain ⟨hi0,hi1,hin⟩:=hin
    have Yj:i<((@List.length (El k) x:Nat):Int):=hi1
    have hlt:i.toNat < @List.length (El k) x:=by omega
    have eg:(show List (El k) from x).getD i.toNat k.zero=(show List (El k) from x)[i.toNat]'hlt:=bR hlt
    rw [eg] at hin hg
    exact Nu (xs:=x) H hc hnd hbase (CP e (by simp [aa])) hlt (fun H0 hc0 uJ hb0=>ih H0 hc0 hg hin (fun t ht=>CP t (by simp [aa,ht])) uJ hb0)
   | _=>simp [aI] at hg
end
section
open Go
variable [Fr]
def Prog.ends {α:Type}:Prog α→St→α→Prop
 | .ret a,_,x=>x=a
 | .fail,_,_=>False
 | .slot n k,σ,x=>(k (σ.slots n)).ends σ x
 | .root r k,σ,x=>(k (σ.roots r)).ends σ x
 | .nY c _ k,σ,x=>c∧k.ends σ x
 | .br c t e,σ,x=>(c=true∧t.ends σ x)∨(c=false∧e.ends σ x)
 | .opt _ o k,σ,x=>∃b,o=some b∧(k b).ends σ x
theorem pK {α R:Type} (p:Prog α) {σ:St} {K:α→Option R} {r:R} (h:p.run σ K=some r):∃x,p.ends σ x∧K x=some r:=by
 induction p with
 | ret a=>exact ⟨a,rfl,h⟩
 | fail=>simp [Prog.run] at h
 | slot n k ih=>exact ih _ h
 | root n k ih=>exact ih _ h
 | nY c d k ih=>
  simp only [Prog.run] at h
  split at h
  ·rename_i hc
   obtain ⟨x,h1,h2⟩:=ih h
   exact ⟨x,⟨hc,h1⟩,h2⟩
  ·simp at h
 | br c t e Gi Gh=>
  simp only [Prog.run] at h
  split at h
  ·rename_i hc
   obtain ⟨x,h1,h2⟩:=Gi h
   exact ⟨x, .inl ⟨hc,h1⟩,h2⟩
  ·rename_i hc
   obtain ⟨x,h1,h2⟩:=Gh h
   exact ⟨x, .inr ⟨by simpa using hc,h1⟩,h2⟩
 | opt β o k ih=>
  simp only [Prog.run] at h
  cases ho:o with
  | none=>rw [ho] at h; simp at h
  | some b=>
   rw [ho] at h
   obtain ⟨x,h1,h2⟩:=ih b h
   exact ⟨x,⟨b,rfl,h1⟩,h2⟩
def bD:K→List Value
 | .int ik=>[.int ik 0]
 | .bool=>[.bool false]
 | .str=>[.string ByteArray.empty]
 | .sl _ _=>[.slice none 0 0]
 | .id _=>[.slice none 0 0]
 | .unit=>[]
 | .pair a b=>bD a++bD b
 | .st f=>bD f
 | .gap _=>[]
def mJ:K→Value
 | .st f=>.agg (bD f).toArray
 | .int ik=>.int ik 0
 | .bool=>.bool false
 | .str=>.string ByteArray.empty
 | .sl _ _=>.slice none 0 0
 | .id _=>.slice none 0 0
 | _=>undef
def mP (P:Program) (t:TypeId) (k:K):Prop:=∃i,P.info? t=some i∧i.size=k.size∧i.zero=some (mJ k)
def iC (P:Program) (T:gL):K→(TypeId→Prop)×(List Field→Nat→Prop)
 | .int ik=>(fun t=>P.underlying t=some (.int ik)∧mP P t (.int ik),fun _ _=>False)
 | .bool=>(fun t=>P.underlying t=some .bool∧mP P t .bool,fun _ _=>False)
 | .str=>(fun t=>P.underlying t=some .string∧mP P t .str,fun _ _=>False)
 | .sl e k=>(fun t=>P.underlying t=some (.slice e)∧mP P t (.sl e k)∧(iC P T k).1 e∧0<k.size∧∃i,P.info? e=some i∧i.bytes=T.bytes e∧0<i.bytes,fun _ _=>False)
 | .unit=>(fun _=>False,fun fs _=>fs=[])
 | .pair a b=>(fun _=>False,fun fs off=>match fs with
  | []=>False
  | f :: fs=>f.offset=off∧(iC P T a).1 f.type∧0<a.size∧(iC P T b).2 fs (off+a.size))
 | .st c=>(fun t=>(∃fs,P.underlying t=some (.struct fs)∧(iC P T c).2 fs.toList 0)∧mP P t (.st c),fun _ _=>False)
 | .gap _=>(fun _=>False,fun _ _=>False)
 | .id e=>(fun t=>P.underlying t=some (.slice e)∧mP P t (.id e)∧T.ids=true,fun _ _=>False)
def eP (P:Program) (T:gL) (t:TypeId) (k:K):Prop:=(iC P T k).1 t
structure dO (P:Program) (T:gL):Prop where
 ty:∀t k,T.ty t=some k→eP P T t k
 ptr:∀t,T.ptr t=true→∃e,P.underlying t=some (.pointer e)
theorem eP.info {P:Program} {T:gL} {t:TypeId} {k:K} (h:eP P T t k):mP P t k:=by
 unfold eP iC at h
 cases k with
 | int ik=>exact h.2
 | bool=>exact h.2
 | id e=>exact h.2.1
 | str=>exact h.2
 | sl e k=>exact h.2.1
 | unit=>exact h.elim
 | pair a b=>exact h.elim
 | st c=>exact h.2
 | gap n=>exact h.elim
def VC (k:K) (v:Value) (cs:List Value):Prop:=match k with
 | .st _=>v=.agg cs.toArray
 | _=>cs=[v]∧∀x,v≠.agg x
theorem VC.cells {k:K} {v:Value} {cs:List Value} (h:VC k v cs):v.cells.toList=cs:=by
 unfold VC at h
 split at h
 ·subst h; simp [Value.cells]
 ·obtain ⟨rfl,hn⟩:=h
  cases v <;> first | rfl | (exact absurd rfl (hn _))
def nM:K→Bool
 | .st _=>true
 | _=>false
theorem eP.isAgg {P:Program} {T:gL} {t:TypeId} {k:K} (h:eP P T t k) (w:World):(Go.isAgg t).run P w=.ok (nM k) w:=by
 unfold eP iC at h
 cases k with
 | int ik=>simp [Go.isAgg,run_underlying h.1,nM]
 | bool=>simp [Go.isAgg,run_underlying h.1,nM]
 | id e=>simp [Go.isAgg,run_underlying h.1,nM]
 | str=>simp [Go.isAgg,run_underlying h.1,nM]
 | sl e k=>simp [Go.isAgg,run_underlying h.1,nM]
 | unit=>exact h.elim
 | pair a b=>exact h.elim
 | st c=>obtain ⟨⟨fs,h1,_⟩,_⟩:=h; simp [Go.isAgg,run_underlying h1,nM]
 | gap n=>exact h.elim
theorem mP.sizeOf {P:Program} {t:TypeId} {k:K} (h:mP P t k) (w:World):(Go.sizeOf t).run P w=.ok k.size w:=by
 obtain ⟨i,h1,h2,_⟩:=h
 simp [Go.sizeOf,run_typeInfo w h1,h2]
theorem mP.zero {P:Program} {t:TypeId} {k:K} (h:mP P t k) (w:World):(Go.zeroValue t).run P w=.ok (mJ k) w:=by
 obtain ⟨i,h1,_,h3⟩:=h
 simp [Go.zeroValue,run_typeInfo w h1,h3]
theorem addr_add (b o n:Nat):(⟨b,o,none⟩:Addr).add n=⟨b,o+n,none⟩:=by unfold Addr.add; split <;> simp_all
theorem nu {P:Program} {T:gL} {t:TypeId} {k:K} {w:World} {b o:Nat} {cs:List Value} {v:Value} (h:eP P T t k) (hc:Cells (hp w) b o cs) (hl:cs.length=k.size) (hv:VC k v cs) :
  (Instr.loadAt t (.pointer (some ⟨b,o,none⟩))).run P w=.ok v w:=by
 have hcell:∀j u,cs[j]?=some u→w.cell? ((⟨b,o,none⟩:Addr).add j)=some u:=by
  intro j u hj
  rw [addr_add,qg,hc j (List.getElem?_eq_some_iff.1 hj).1]
  exact hj
 unfold Instr.loadAt Instr.sureAddr loadVar
 simp only [abR,abW,Result.andThen,h.isAgg w]
 cases k with
 | st c=>
  have e:v=.agg cs.toArray:=hv
  have h2:=run_loadCells_list (P:=P) w ⟨b,o,none⟩ cs hcell
  rw [hl] at h2
  simp [nM,h.info.sizeOf w,h2,Result.andThen,e]
 | unit=>exact (show False from h).elim
 | pair a b=>exact (show False from h).elim
 | gap n=>exact (show False from h).elim
 | int ik=>
  obtain ⟨e,_⟩:cs=[v]∧_:=hv
  have:=hcell 0 v (by rw [e]; rfl)
  rw [addr_add,Nat.add_zero] at this
  simp [nM,this]
 | bool=>
  obtain ⟨e,_⟩:cs=[v]∧_:=hv
  have:=hcell 0 v (by rw [e]; rfl)
  rw [addr_add,Nat.add_zero] at this
  simp [nM,this]
 | id e=>
  obtain ⟨e,_⟩:cs=[v]∧_:=hv
  have:=hcell 0 v (by rw [e]; rfl)
  rw [addr_add,Nat.add_zero] at this
  simp [nM,this]
 | str=>
  obtain ⟨e,_⟩:cs=[v]∧_:=hv
  have:=hcell 0 v (by rw [e]; rfl)
  rw [addr_add,Nat.add_zero] at this
  simp [nM,this]
 | sl e k=>
  obtain ⟨e,_⟩:cs=[v]∧_:=hv
  have:=hcell 0 v (by rw [e]; rfl)
  rw [addr_add,Nat.add_zero] at this
  simp [nM,this]
def dV:K→Bool
 | .gap _=>false
 | .pair a b=>dV a && dV b
 | .st f=>dV f
 | _=>true
theorem iC.dV {P:Program} {T:gL}:∀{k:K},(∀t,(iC P T k).1 t→Ow.dV k=true)∧(∀fs off,(iC P T k).2 fs off→Ow.dV k=true):=by
 intro k
 induction k with
 | int ik=>exact ⟨fun _ _=>rfl,fun _ _ h=>h.elim⟩
 | bool=>exact ⟨fun _ _=>rfl,fun _ _ h=>h.elim⟩
 | id e=>exact ⟨fun _ _=>rfl,fun _ _ h=>h.elim⟩
 | str=>exact ⟨fun _ _=>rfl,fun _ _ h=>h.elim⟩
 | sl e k ih=>exact ⟨fun _ _=>rfl,fun _ _ h=>h.elim⟩
 | unit=>exact ⟨fun _ h=>h.elim,fun _ _ _=>rfl⟩
 | pair a b iha ihb=>
  refine ⟨fun _ h=>h.elim,fun fs off h=>?_⟩
  cases fs with
  | nil=>exact h.elim
  | cons f fs=>simp [Ow.dV,iha.1 _ h.2.1,ihb.2 _ _ h.2.2.2]
 | st f ih=>exact ⟨fun t h=>by obtain ⟨⟨fs,_,h⟩,_⟩:=h; exact ih.2 _ _ h,fun _ _ h=>h.elim⟩
 | gap n=>exact ⟨fun _ h=>h.elim,fun _ _ h=>h.elim⟩
theorem eP.dV {P:Program} {T:gL} {t:TypeId} {k:K} (h:eP P T t k):Ow.dV k=true:=iC.dV.1 t h
theorem Cm {h:Heap} {ok:Nat→Prop}:∀{k:K} {x:El k} {cs:List Value},dV k=true→Vw h ok k x cs→∀v∈cs,v.oneCell'=true:=by
 intro k
 induction k with
 | int ik=>intro x cs _ H v hv; rw [H.1] at hv; simp at hv; subst hv; rfl
 | bool=>intro x cs _ H v hv; rw [show cs=_ from H] at hv; simp at hv; subst hv; rfl
 | id e=>intro x cs _ H v hv; rw [show cs=_ from H] at hv; simp only [abL] at hv; subst hv; obtain ⟨a,n,c,h⟩:=Fr.UX x; rw [h]; rfl
 | str=>intro x cs _ H v hv; obtain ⟨B,rfl,_⟩:=H; simp at hv; subst hv; rfl
 | sl e k ih=>intro x cs _ H v hv; obtain ⟨a,n,c,rfl,_⟩:=H; simp at hv; subst hv; rfl
 | unit=>intro x cs _ H v hv; rw [show cs=_ from H] at hv; simp at hv
 | pair a b iha ihb=>
  intro x cs hg H v hv
  simp [dV] at hg
  obtain ⟨c1,c2,rfl,h1,h2⟩:=H
  rcases abB.1 hv with h | h
  ·exact iha hg.1 h1 v h
  ·exact ihb hg.2 h2 v h
 | st f ih=>intro x cs hg H; exact ih (x:=x) hg H
 | gap n=>intro x cs hg; simp [dV] at hg
theorem Fx {h:Heap} {own:List TypeId} {ok:Nat→Prop} {k:K} {x:El k} {cs:List Value} {fo:List Nat} (hg:dV k=true) (H:Ow h own ok k x cs fo):∀v∈cs,v.oneCell'=true:=
 Cm hg (iY (fun _=>True) (fun _ _=>trivial) (fun _ _=>trivial) H)
theorem VC.mk {h:Heap} {ok:Nat→Prop} {k:K} {x:El k} {cs:List Value} (hk:∀a b,k≠.pair a b) (hu:k≠.unit) (hg:∀n,k≠.gap n) (H:Vw h ok k x cs):∃v,VC k v cs:=by
 cases k with
 | int ik=>exact ⟨.int ik x,H.1,by simp⟩
 | bool=>exact ⟨.bool x,H,by simp⟩
 | id e=>obtain ⟨a,n,c,h⟩:=Fr.UX x; exact ⟨Fr.Rv x,H,by rw [h]; simp⟩
 | str=>obtain ⟨B,e,_⟩:=H; exact ⟨.string B,e,by simp⟩
 | sl e k=>obtain ⟨a,n,c,e,_⟩:=H; exact ⟨.slice a n c,e,by simp⟩
 | unit=>exact absurd rfl hu
 | pair a b=>exact absurd rfl (hk a b)
 | st c=>exact ⟨.agg cs.toArray,rfl⟩
 | gap n=>exact absurd rfl (hg n)
theorem Em (w:World) (o:Obj) (b:Nat):hp (w.alloc o) b=if b=w.heap.size then some o else hp w b:=by
 show (w.heap.push o)[b]?=_
 rw [Array.getElem?_push]
 rfl
theorem kJ (w:World) (o:Obj) {b:Nat} (h:b<w.heap.size):hp (w.alloc o) b=hp w b:=by
 rw [Em,if_neg (by omega)]
theorem mo (w:World) (o:Obj):hp (w.alloc o) w.heap.size=some o:=by
 rw [Em,if_pos rfl]
theorem xC (w:World) (b o:Nat) (v:Value) {b':Nat} (h:b'≠b):hp (w.setCell ⟨b,o,none⟩ v) b'=hp w b':=by
 simp only [hp,World.setCell,Array.getElem?_modify]
 rw [if_neg (by omega)]
theorem yB (w:World) (b o:Nat) (v:Value) {arr:Array Value} {e:TypeId} {fr:Nat×Nat} (h:hp w b=some (.cells arr e fr)) :
  hp (w.setCell ⟨b,o,none⟩ v) b=some (.cells (arr.setIfInBounds o v) e fr):=by
 have h':w.heap[b]?=some (.cells arr e fr):=h
 simp [hp,World.setCell,Array.getElem?_modify,h']
theorem nN (b:Nat):∀(vs:List Value) (w:World) (arr:Array Value) (e:TypeId) (fr:Nat×Nat) (o:Nat),hp w b=some (.cells arr e fr)→o+vs.length≤arr.size→
  (∀b',b'≠b→hp (w.setCells b o vs) b'=hp w b')∧(w.setCells b o vs).heap.size=w.heap.size∧
  ∃iW,hp (w.setCells b o vs) b=some (.cells iW e fr)∧iW.size=arr.size∧(∀i,i<vs.length→iW[o+i]?=vs[i]?)∧∀i,¬(o≤i∧i<o+vs.length)→iW[i]?=arr[i]?:=by
 intro vs
 induction vs with
 | nil=>intro w arr e fr o hb _; exact ⟨fun _ _=>rfl,rfl,arr,hb,rfl,fun i hi=>by simp at hi,fun _ _=>rfl⟩
 | cons v vs ih=>
  intro w arr e fr o hb hl
  simp only [abP] at hl
  have h1:=yB w b o v hb
  obtain ⟨g1,g2,iW,g3,g4,g5,g6⟩:=ih (w.setCell ⟨b,o,none⟩ v) _ e fr (o+1) h1 (by simp; omega)
  refine ⟨fun b' hb'=>(g1 b' hb').trans (xC w b o v hb'),by rw [World.setCells,g2]; simp [World.setCell],iW,g3,by rw [g4]; simp, ?_, ?_⟩
  ·intro i hi
   simp only [abP] at hi
   cases i with
   | zero=>
    rw [g6 _ (by omega)]
    simp only [Nat.add_zero,List.getElem?_cons_zero]
    rw [Array.getElem?_setIfInBounds_self_of_lt (by omega)]
   | succ i=>
    rw [show o+(i+1)=o+1+i from by omega,g5 i (by omega)]
    simp
  ·intro i hi
   simp only [abP] at hi
   rw [g6 i (by omega),Array.getElem?_setIfInBounds_ne (by omega)]
theorem kX (b:Nat):∀(vs:List Value) (w:World) (o:Nat),(w.setCells b o vs).os=w.os∧(w.setCells b o vs).tape=w.tape∧(w.setCells b o vs).output=w.output:=by
 intro vs
 induction vs with
 | nil=>intro w o; exact ⟨rfl,rfl,rfl⟩
 | cons v vs ih=>intro w o; exact ih (w.setCell ⟨b,o,none⟩ v) (o+1)
theorem jI {P:Program} {w:World} {b o:Nat} {arr:Array Value} {e:TypeId} {lo hi:Nat} (vs:List Value) (hb:hp w b=some (.cells arr e (lo,hi))) (hf:wQ arr.size lo hi)
  (hl:o+vs.length≤arr.size) (h1:∀v∈vs,v.oneCell'=true):(storeCells ⟨b,o,none⟩ vs).run P w=.ok () (w.setCells b o vs):=by
 have:=run_storeCells_cells (P:=P) b o vs 0 w (fun j hj=>by
   rw [qg]
   unfold cellAt
   rw [hb]
   simp only [Nat.add_zero]
   rw [Array.getElem?_eq_getElem (by omega)]
   rfl) (fun j hj=>by
   unfold World.frozen?
   have hb':w.heap[b]?=some (.cells arr e (lo,hi)):=hb
   simp only [hb',Nat.add_zero]
   have:=hf (o+j) (by omega)
   simp
   omega) h1
 simpa using this
theorem yf {P:Program} {T:gL} {t:TypeId} {k:K} {w:World} {b o:Nat} {cs:List Value} {v:Value} {arr:Array Value} {e:TypeId} {lo hi:Nat} (h:eP P T t k) (hb:hp w b=some (.cells arr e (lo,hi)))
  (hf:wQ arr.size lo hi) (hl:cs.length=k.size) (hs:o+k.size≤arr.size) (hv:VC k v cs) (h1:∀v∈cs,v.oneCell'=true) :
  (Instr.storeAt t (.pointer (some ⟨b,o,none⟩)) v).run P w=.ok () (w.setCells b o cs):=by
 have hc:=hv.cells
 have hsz:v.cells.size=k.size:=by rw [←hl, ←hc]; simp
 unfold Instr.storeAt Instr.sureAddr storeVar
 simp only [abR,abW,Result.andThen,h.info.sizeOf w,Sem.run_ite]
 rw [if_neg (by rw [hsz]; simp)]
 rw [hc]
 exact jI cs hb hf (by omega) h1
theorem Aq {P:Program} (t:TypeId) (v:Value) (w:World):(newVar t v).run P w=.ok ⟨w.heap.size,0,none⟩ (w.alloc (.cells v.cells t)):=by
 simp [newVar,newRow]
theorem BV {P:Program} (t:TypeId) (v:Value) (w:World):(Instr.box t v).run P w=.ok (.pointer (some ⟨w.heap.size,0,none⟩)) (w.alloc (.cells v.cells t)):=by
 simp [Instr.box,Aq,Result.andThen]
theorem ET {P:Program} {T:gL} {t:TypeId} {k:K} (h:eP P T t k) (w:World):(Instr.alloc t true (.tuple #[])).run P w=.ok (.pointer (some ⟨w.heap.size,0,none⟩)) (w.alloc (.cells (mJ k).cells t)):=by
 simp [Instr.alloc,h.info.zero w,Aq,Result.andThen]
theorem IG:∀{k:K},(∀a b,k≠.pair a b)→k≠.unit→(∀n,k≠.gap n)→VC k (mJ k) (bD k):=by
 intro k h1 h2 h3
 cases k with
 | int ik=>exact ⟨rfl,by simp [mJ]⟩
 | bool=>exact ⟨rfl,by simp [mJ]⟩
 | id e=>exact ⟨rfl,by simp [mJ]⟩
 | str=>exact ⟨rfl,by simp [mJ]⟩
 | sl e k=>exact ⟨rfl,by simp [mJ]⟩
 | unit=>exact absurd rfl h2
 | pair a b=>exact absurd rfl (h1 a b)
 | st c=>rfl
 | gap n=>exact absurd rfl (h3 n)
theorem wO {h:Heap} {own:List TypeId} {ok:Nat→Prop}:∀{k:K},dV k=true→(∀t∈k.tys,aA t own=true)→Ow h own ok k k.zero (bD k) []:=by
 intro k
 induction k with
 | int ik=>intro _ _; exact ⟨rfl,rfl,by cases ik <;> simp [Al,K.zero]⟩
 | bool=>intro _ _; exact ⟨rfl,rfl⟩
 | id e=>intro _ _; exact ⟨rfl,by show _=[Fr.Rv 0]; rw [Fr.UW]; rfl⟩
 | str=>intro _ _; exact ⟨rfl,ByteArray.empty,rfl,rfl⟩
 | sl e k ih=>
  intro _ ht
  unfold Ow
  rw [if_pos (ht e (by simp [K.tys]))]
  exact ⟨none,0,0,rfl,rfl,abI _, .inl ⟨rfl,rfl⟩⟩
 | unit=>intro _ _; exact ⟨rfl,rfl⟩
 | pair a b iha ihb=>
  intro hg ht
  simp [dV] at hg
  exact ⟨bD a,bD b,[],[],rfl, .refl _,iha hg.1 (fun t h=>ht t (by simp [K.tys,h])),ihb hg.2 (fun t h=>ht t (by simp [K.tys,h]))⟩
 | st f ih=>intro hg ht; exact ih hg ht
 | gap n=>intro hg; simp [dV] at hg
end
section
open Go
variable [Fr]
structure M5 where
 base:Option (Nat×Nat×Nat)
 bl:List Nat
 kp:Bool
structure Cx where
 nt:Nat
 w0:World
 ext:Nat→Nat→Prop
 par:Nat→Option M5
 ptrs:Nat→List Stp→List TypeId→Value→Prop
 refs:Nat→Value→Prop
structure dA where
 loc:Nat→Nat×Nat
 hdr:Nat→List Value
 fo:Nat→List Nat
def dY (α:dA) (R:Root) (r:Nat):Option (Nat×Nat):=match R.kind with
 | .var _=>some (α.loc r)
 | .par=>some (α.loc r)
 | _=>none
def blk (α:dA) (R:Root) (r:Nat):List Nat:=(match dY α R r with
 | some q=>[q.1]
 | none=>[])++α.fo r
def aM (σ:St) (r:Nat) (R:Root):Prop:=σ.roots r=some R∧R.aT=false
def jq (cx:Cx) (b:Nat):Prop:=∃j pi o n,cx.par j=some pi∧pi.base=some (b,o,n)
def gy (cx:Cx) (σ:St) (α:dA) (F:List Nat) (w:World) (T:List Tag) (b:Nat):Prop:=
 b<w.heap.size∧b∉F∧¬jq cx b∧(∀r R,aM σ r R→b∈blk α R r→∃n,(r,n)∈T)∧
 (b<cx.w0.heap.size→(∃j n,(j4 j,n)∈T∧cx.ext j b)∨∃j pi,cx.par j=some pi∧b∈pi.bl)
def bg (σ:St) (R:Root):Prop:=R.aT=false∧aU σ R.uK R.tags=true
def Ad (σ:St) (α:dA) (F:List Nat) (w:World) (T:List Tag) (b:Nat):Prop:=
 b<w.heap.size∧b∉F∧∀r R,aM σ r R→b∈blk α R r→∃n,(r,n)∈T
def Am (cx:Cx) (σ:St) (α:dA) (F:List Nat) (w:World) (bt:TypeId) (k:K) (x:El k) (T:List Tag) (v:Value):Prop:=
 (∃b o,v=.pointer (some ⟨b,o,none⟩))∧(aU σ (bt :: k.tys) T=true→∃b o cs,v=.pointer (some ⟨b,o,none⟩)∧Cells (hp w) b o cs∧Vw (hp w) (gy cx σ α F w T) k x cs∧Ad σ α F w T b∧
  ((bt=SENT∧∀t∈T,eH t.1=true)∨(oW (hp w) b bt∧¬jq cx b)))
def jE (cx:Cx) (σ:St) (α:dA) (F:List Nat) (w:World):List (TypeId×Dat×List Tag)→List Value→Prop
 | [],[]=>True
 | c :: cs,v :: vs=>Am cx σ α F w c.1 c.2.1.1 c.2.1.2 c.2.2 v∧jE cx σ α F w cs vs
 | _,_=>False
def iU:List Stp→K→Option (Nat×K)
 | [],k=>some (0,k)
 | .fu n :: p, .st c=>match aV n c with
  | some q=>match iU p q.2 with
   | some r=>some (q.1+r.1,r.2)
   | none=>none
  | none=>none
 | _,_=>none
def RI (α:dA) (h:Heap) (r:Nat) (R:Root) (p:List Stp) (q:Nat) (Q:Root) (v:Value):Prop:=
 ∃(e:TypeId) (kk:K) (xs:List (El kk)) (wh:Option (Nat×Nat)) (b:Option Addr) (n c:Nat) (ce:List Value) (hq:Value) (b1 o1 c1:Nat) (arr:Array Value) (lo hi:Nat),
  aI p R.k R.x=some ⟨.sl e kk,xs⟩∧jM p R.k R.x∧(∀t∈aa p R.k,aA t R.own=true)∧bn h p R.k (α.hdr r) (dY α R r)=some ([.slice b n c],wh)∧
  (Q.k=DF e kk∧Q.kind=.anon)∧α.hdr q=ce++[hq]∧ce.length=kk.size∧v=.slice (some ⟨b1,o1,none⟩) (n+1) c1∧n+1≤c1∧
  h b1=some (.cells arr e (lo,hi))∧wQ arr.size lo hi∧o1+c1 * kk.size≤arr.size∧Cells h b1 (o1+n * kk.size) ce∧
  ((b=some ⟨b1,o1,none⟩∧b1∈α.fo r∧hq=.slice none 0 0∧c=c1)∨(hq=.slice (some ⟨b1,o1,none⟩) 0 c1∧b1∈α.fo q∧(0<n→∃b0 o0,b=some ⟨b0,o0,none⟩∧b0∈α.fo r∧∀i,i<n * kk.size→cellAt h b1 (o1+i)=cellAt h b0 (o0+i))))
def bz (cx:Cx) (σ:St) (α:dA) (F:List Nat) (w:World):AV→Value→Prop
 | .undef,_=>True
 | .val k x T,v=>(k.flat=true∨aU σ k.tys T=true)→∃cs,VC k v cs∧Vw (hp w) (gy cx σ α F w T) k x cs
 | .gK,v=>∃a,v=.slice a 0 0
 | .ref r g,v=>∀R,aM σ r R→R.g=g→R.kind=.anon∧VC R.k v (α.hdr r)
 | .mU r p n,v=>∀R,σ.roots r=some R→bg σ R→R.pR=n→∀d,aI p R.k R.x=some d→
   jM p R.k R.x∧(∀t∈aa p R.k,aA t R.own=true)∧∃cs wh,bn (hp w) p R.k (α.hdr r) (dY α R r)=some (cs,wh)∧VC d.1 v cs
 | .ptr r p n,v=>(∃b o,v=.pointer (some ⟨b,o,none⟩))∧∀R,σ.roots r=some R→bg σ R→clean R.h n (fI p R.k)=true→(∀t∈aa p R.k,aA t R.own=true)→(aI p R.k R.x).isSome=true→
   jM p R.k R.x∧∃cs b o,bn (hp w) p R.k (α.hdr r) (dY α R r)=some (cs,some (b,o))∧v=.pointer (some ⟨b,o,none⟩)
 | .gV bt k x T,v=>Am cx σ α F w bt k x T v
 | .mE,v=>v=.pointer none
 | .sI e,v=>∃b,v=.bool b∧(b=true→e=true)
 | .part r g lo hi sz,v=>∃b' b n c,v=.slice b' (hi - lo) (c - lo)∧(lo=0∨c≠lo→b'=b.map (·.add (lo * sz)))∧lo≤hi∧hi≤n∧n≤c∧∀R,aM σ r R→R.g=g→R.kind=.anon∧VC R.k (.slice b n c) (α.hdr r)
 | .zo r g k p,v=>∃u b off k1,v=.pointer (some ⟨b,off,none⟩)∧Ad σ α F w [] b∧Cells (hp w) b 0 u.cells.toList∧iU p k=some (off,k1)∧∀R,aM σ r R→R.g=g→R.kind=.anon∧VC R.k u (α.hdr r)
 | .qE r p n m,v=>∃b c,v=.slice b m c∧∀R,σ.roots r=some R→bg σ R→R.pR=n→∀d,aI p R.k R.x=some d→
   jM p R.k R.x∧(∀t∈aa p R.k,aA t R.own=true)∧∃q wh,bn (hp w) p R.k (α.hdr r) (dY α R r)=some ([.slice b q c],wh)∧m≤q
 | .app r p n q,v=>∀R,σ.roots r=some R→bg σ R→R.pR=n→∀Q,aM σ q Q→Q.pR=0→RI α (hp w) r R p q Q v
 | .fn f cs,v=>∃vs:List Value,v=.func (.func f) #[] vs.toArray∧jE cx σ α F w cs vs
def dJ (cx:Cx) (σ:St) (α:dA) (F:List Nat) (w:World):List AV→List Value→Prop
 | [],[]=>True
 | a :: l,v :: vs=>bz cx σ α F w a v∧dJ cx σ α F w l vs
 | _,_=>False
def JD:K→List Value→List Value→Prop
 | .pair k r,u :: us,cs=>∃c1 c2,cs=c1++c2∧VC k u c1∧c1.length=k.size∧JD r us c2
 | .unit,[],cs=>cs=[]
 | _,_,_=>False
def iK (cx:Cx) (σ:St) (α:dA) (F:List Nat) (w:World):qH→Value→Prop
 | .one a,v=>bz cx σ α F w a v
 | .Cb l,v=>∃vs:List Value,v=.tuple vs.toArray∧dJ cx σ α F w l vs
 | .lit _ c l,v=>∃vs cs:List Value,(v=.agg cs.toArray∧JD c vs cs)∧dJ cx σ α F w l vs
def wM (σ:St) (t:Tag):Prop:=eH t.1=true∨∃R,σ.roots t.1=some R∧(R.aT=true∨t.2≤fF R.w)
def dW (σ:St) (T:List Tag):Prop:=∀t∈T,wM σ t
def l9 (σ:St):AV→Prop
 | .val _ _ T=>dW σ T
 | .ref r g=>∃R,σ.roots r=some R∧(R.aT=true∨g≤R.g)
 | .mU r _ n=>∃R,σ.roots r=some R∧(R.aT=true∨n≤R.pR)
 | .zo r g _ _=>∃R,σ.roots r=some R∧(R.aT=true∨g≤R.g)
 | .part r g _ _ _=>∃R,σ.roots r=some R∧(R.aT=true∨g≤R.g)
 | .qE r _ n _=>∃R,σ.roots r=some R∧(R.aT=true∨n≤R.pR)
 | .app r _ n q=>(∃R,σ.roots r=some R∧(R.aT=true∨n≤R.pR))∧∃R,σ.roots q=some R
 | .ptr r _ n=>∃R,σ.roots r=some R∧(R.aT=true∨n≤fF R.h)
 | .gV _ _ _ T=>dW σ T
 | .fn _ cs=>∀c∈cs,dW σ c.2.2
 | _=>True
def rF (σ:St):qH→Prop
 | .one a=>l9 σ a
 | .Cb l=>∀a∈l,l9 σ a
 | .lit _ _ l=>∀a∈l,l9 σ a
def PI (cx:Cx) (w:World):Prop:=
 w.os=cx.w0.os∧w.tape=cx.w0.tape∧w.output=cx.w0.output∧cx.w0.heap.size≤w.heap.size∧
 (∀b,b<cx.w0.heap.size→(∀j pi,cx.par j=some pi→b∉pi.bl)→hp w b=hp cx.w0 b)∧
 (∀j pi b o n,cx.par j=some pi→pi.base=some (b,o,n)→fJ (hp cx.w0) (hp w) b o n)
def mine (cx:Cx) (w:World) (b:Nat):Prop:=b<w.heap.size∧(cx.w0.heap.size≤b∨∃j pi,cx.par j=some pi∧b∈pi.bl)
structure PV (cx:Cx) (σ:St) (α:dA) (F:List Nat) (w:World) (r:Nat) (R:Root):Prop where
 ow:bg σ R→Ow (hp w) R.own (gy cx σ α F w R.tags) R.k R.x (α.hdr r) (α.fo r)
 len:(α.hdr r).length=R.k.size
 mem:∀b o,dY α R r=some (b,o)→Cells (hp w) b o (α.hdr r)∧∃arr e lo hi,hp w b=some (.cells arr e (lo,hi))∧wQ arr.size lo hi∧o+R.k.size≤arr.size∧(∀t,R.kind=.var t→e=t)
 nd:(blk α R r).Nodup
 mine:∀b∈blk α R r,Ow.mine cx w b
structure Rel (cx:Cx) (σ:St) (α:dA) (F:List Nat) (a:Act) (w:World):Prop where
 defs:a.defers=[]
 sz:cx.nt≤a.tmps.size
 kP:∀j pi b o n,cx.par j=some pi→pi.base=some (b,o,n)→∃R,aM σ (aL j) R∧R.kind=.par∧α.loc (aL j)=(b,o)∧R.k.size=n
 yx:∀r R,aM σ r R→R.kind=.par→∃j pi n,r=aL j∧cx.par j=some pi∧pi.base=some ((α.loc r).1,(α.loc r).2,n)
 slots:∀s,iK cx σ α F w (σ.slots s) (a.tmps.getD s undef)
 mH:∀s,rF σ (σ.slots s)
 roots:∀r R,aM σ r R→PV cx σ α F w r R
 cB:∀r R,σ.roots r=some R→dW σ R.tags∧eH r=false∧(∀n,(r,n)∉R.tags)
 yI:∀r R r' R',aM σ r R→aM σ r' R'→r≠r'→∀b∈blk α R r,b∉blk α R' r'
 fl:∀b∈F,mine cx w b
 rZ:F.Nodup
 gQ:∀r R,aM σ r R→∀b∈blk α R r,b∉F
 frame:PI cx w
 tJ:∀j pi,cx.par j=some pi→pi.kp=true→∃R,σ.roots (aL j)=some R∧(R.aT=false→∀b∈pi.bl,¬jq cx b→
  (∃e,lH (hp cx.w0) b=some e∧(e∈R.w∨e∈R.ew))∨(hp w b=hp cx.w0 b∧b∉F∧∀q Q,aM σ q Q→b∈blk α Q q→q=aL j))
 pG:(∀j pi,cx.par j=some pi→∀b∈pi.bl,b<cx.w0.heap.size)∧(∀b,Fr.free b→b<cx.w0.heap.size∧∀j pi,cx.par j=some pi→b∉pi.bl)∧∀b,Fr.free b→hp cx.w0 b=Fr.obj b
 tK:∀j p ts v,cx.ptrs j p ts v→(∃b o,v=.pointer (some ⟨b,o,none⟩))∧∃R,σ.roots (aL j)=some R∧((∀t∈ts,t∉R.eh)→bz cx σ α F w (.ptr (aL j) p 0) v)
 tL:∀j v,cx.refs j v→(∃R,σ.roots (aL j)=some R)∧bz cx σ α F w (.ref (aL j) 0) v
theorem Rel.Iq {cx:Cx} {σ:St} {α:dA} {F:List Nat} {a:Act} {w:World} (H:Rel cx σ α F a w) {b:Nat} (hm:mine cx w b):¬Fr.free b:=by
 intro hf
 obtain ⟨h1,h2⟩:=H.pG.2.1 b hf
 rcases hm.2 with h | ⟨j,pi,h3,h4⟩
 ·omega
 ·exact h2 j pi h3 h4
theorem Rel.fixed {cx:Cx} {σ:St} {α:dA} {F:List Nat} {a:Act} {w:World} (H:Rel cx σ α F a w) {b:Nat} (hf:Fr.free b):hp w b=Fr.obj b:=by
 obtain ⟨h1,h2⟩:=H.pG.2.1 b hf
 rw [H.frame.2.2.2.2.1 b h1 h2]
 exact H.pG.2.2 b hf
theorem Rel.GQ {cx:Cx} {σ:St} {α:dA} {F:List Nat} {a:Act} {w:World} (H:Rel cx σ α F a w) {b:Nat} {t:TypeId} (hm:mine cx w b) (h:oW (hp w) b t):lH (hp w) b=some t:=h.resolve_right (H.Iq hm)
theorem kL {A:Type} (l:List A):fF l=l.length:=by induction l <;> simp_all [fF]
theorem bu {n:Nat} {l:List Nat}:aA n l=true↔n∈l:=by
 induction l with
 | nil=>simp [aA]
 | cons m l ih=>
  simp only [aA,abE]
  cases h:Nat.beq n m with
  | true=>simp [abw h]
  | false=>simp [ih,Nat.ne_of_beq_eq_false h]
theorem aO {n:Nat} {l:List Nat}:aA n l=false↔n∉l:=by rw [←bu]; simp
theorem De (a l:List Nat) {n:Nat} (h:n≤fF l):since (a++l) n=a++since l n:=by
 unfold since
 rw [kL] at h
 simp only [kL,abA]
 rw [List.take_append,List.take_of_length_le (by omega)]
 congr 2
 omega
theorem kH {a l:List Nat} {n:Nat} {tys:List Nat} (h:n≤fF l):clean (a++l) n tys=true↔(∀t∈a,t∉tys)∧clean l n tys=true:=by
 unfold clean
 rw [De a l h,List.all_append,aby,abH]
 simp [aO]
theorem DW {σ:St} {tys:List TypeId} {t:Tag} {T:List Tag}:aU σ tys (t :: T)=true↔(eH t.1=true∨∃R,σ.roots t.1=some R∧R.aT=false∧clean R.w t.2 tys=true)∧aU σ tys T=true:=by
 obtain ⟨r,n⟩:=t
 simp only [aU,aby]
 cases he:eH r with
 | true=>simp
 | false=>
  simp only [cond_false,abv,false_or]
  cases hr:σ.roots r with
  | none=>simp
  | some R=>simp
theorem jF {σ:St} {tys:List TypeId} {T:List Tag}:aU σ tys T=true↔∀t∈T,eH t.1=true∨∃R,σ.roots t.1=some R∧R.aT=false∧clean R.w t.2 tys=true:=by
 induction T with
 | nil=>simp [aU]
 | cons t T ih=>rw [DW,ih]; simp
def Views (cx:Cx) (σ:St) (α:dA) (F:List Nat) (w:World) (σ':St) (α':dA) (F':List Nat) (w':World):Prop:=
 ∀T tys,dW σ T→aU σ' tys T=true→aU σ tys T=true∧
  (∀b,gy cx σ α F w T b→((∃t∈tys,oW (hp w) b t)∨∀t∈T,eH t.1=true)→gy cx σ' α' F' w' T b∧hp w' b=hp w b)∧
  ∀b,Ad σ α F w T b→((∃t∈tys,oW (hp w) b t)∧¬jq cx b∨∀t∈T,eH t.1=true)→Ad σ' α' F' w' T b∧hp w' b=hp w b
theorem Views.vw {cx:Cx} {σ σ':St} {α α':dA} {F F':List Nat} {w w':World} (H:Views cx σ α F w σ' α' F' w') {T:List Tag} {tys:List TypeId} (hw:dW σ T) (hc:aU σ' tys T=true)
  {k:K} {x:El k} {cs:List Value} (hk:∀t∈k.tys,t∈tys) (h:Vw (hp w) (gy cx σ α F w T) k x cs):Vw (hp w') (gy cx σ' α' F' w' T) k x cs:=by
 obtain ⟨_,h2,_⟩:=H T tys hw hc
 exact eT (fun b hb=>(h2 b hb.1 (.inl hb.2)).2) (fun b hb=>(h2 b hb.1 (.inl hb.2)).1) (yS tys hk h)
theorem Views.ro {cx:Cx} {σ σ':St} {α α':dA} {F F':List Nat} {w w':World} (H:Views cx σ α F w σ' α' F' w') {bt:TypeId} {k:K} {x:El k} {T:List Tag} {v:Value} (hw:dW σ T)
  (h:Am cx σ α F w bt k x T v):Am cx σ' α' F' w' bt k x T v:=by
 refine ⟨h.1,fun hc=>?_⟩
 obtain ⟨h1,_,h2⟩:=H T _ hw hc
 obtain ⟨b,o,cs,e,hcs,hv,hok,hb⟩:=h.2 h1
 have hb':Ad σ' α' F' w' T b∧hp w' b=hp w b:=h2 b hok (by
  rcases hb with ⟨_,hb⟩ | hb
  ·exact .inr hb
  ·exact .inl ⟨⟨bt,by simp,hb.1⟩,hb.2⟩)
 exact ⟨b,o,cs,e,hcs.congr hb'.2,H.vw hw hc (fun t ht=>by simp [ht]) hv,hb'.1,hb.imp id (fun h=>⟨zy hb'.2 h.1,h.2⟩)⟩
theorem Views.caps {cx:Cx} {σ σ':St} {α α':dA} {F F':List Nat} {w w':World} (H:Views cx σ α F w σ' α' F' w') :
  ∀{cs:List (TypeId×Dat×List Tag)} {vs:List Value},(∀c∈cs,dW σ c.2.2)→jE cx σ α F w cs vs→jE cx σ' α' F' w' cs vs
 | [],[],_,h=>h
 | c :: cs,v :: vs,hw,h=>⟨H.ro (hw c (by simp)) h.1,H.caps (fun c hc=>hw c (by simp [hc])) h.2⟩
 | [],_ :: _,_,h=>h.elim
 | _ :: _,[],_,h=>h.elim
theorem oK {cx:Cx} {σ σ':St} {α α':dA} {F F':List Nat} {w w':World} (H:Views cx σ α F w σ' α' F' w') {R:Root} (hw:dW σ R.tags) (h:bg σ' R):bg σ R:=
 ⟨h.1,(H R.tags R.uK hw h.2).1⟩
end
end Go.Proofs.Ytabnmpabdhmkoaa.Ow

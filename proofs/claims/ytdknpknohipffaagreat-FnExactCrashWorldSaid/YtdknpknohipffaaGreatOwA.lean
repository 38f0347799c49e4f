/- A verified reading of translated code: values in place of memory; part A of 6, spaces and remarks taken out. No condition. Own work of this seat. -/
import Derived.Calls
import Derived.Orders
import Derived.Laws.Cells
import Derived.Laws.IdiomCopy
import Derived.Laws.Entries
import Derived.ChangeKeysEq
import Derived.WalkKit
set_option linter.unusedSectionVars false
set_option linter.unusedVariables false
set_option linter.unusedSimpArgs false
namespace Go.Proofs.YtdknpknohipffaaGreat.Ow
open Go
abbrev apd := @Option.some.injEq
abbrev ape := @Option.bind_some
abbrev apf := @List.mem_append_right
abbrev apg := @Bool.false_eq_true
abbrev aph := @Nat.eq_of_beq_eq_true
abbrev api := @List.mem_append_left
abbrev apj := @Bool.and_eq_true
abbrev apk := @List.nodup_append
abbrev apl := @List.length_append
abbrev apm := @List.mem_append
abbrev apn := @Int.toNat_natCast
abbrev apo := @Prod.mk.injEq
abbrev apq := @List.mem_cons
abbrev apr := @List.getD_eq_getElem?_getD
abbrev aps := @List.getElem?_eq_getElem
abbrev apt := @List.all_eq_true
abbrev apu := @Nat.le_refl
abbrev apv := @List.mem_filter
abbrev apw := @Result.andThen_ok
abbrev apx := @List.mem_singleton
abbrev apy := @List.length_singleton
abbrev apz := @List.append_assoc
abbrev apA := @Classical.byContradiction
abbrev apB := @List.length_cons
abbrev apC := @List.mem_cons_of_mem
abbrev apD := @Sem.run_bind
abbrev apE := @Int.ofNat_lt
abbrev apF := @Bool.not_true
abbrev apG := @List.getElem_mem
abbrev apH := @List.append_nil
abbrev apI := @Sem.run_pure
abbrev apJ := @Nat.mul_le_mul_right
abbrev apK := @List.mem_cons_self
abbrev apL := @List.nodup_cons
abbrev apM := @Nat.zero_le
abbrev apN := @Option.some.inj
abbrev apO := @List.mem_map
abbrev apP := @List.mem_flatMap
abbrev apQ := @Bool.not_false
section
open Go
inductive K where
 | int (k:IntKind)
 | bool
 | str
 | sl (e:TypeId) (k:K)
 | unit
 | pair (a b:K)
 | st (f:K)
 | gap (n:Nat)
 | id (e:TypeId)
 deriving Inhabited
abbrev El:K→Type
 | .int _=>Int
 | .bool=>Bool
 | .str=>List Int
 | .sl _ k=>List (El k)
 | .unit=>Unit
 | .pair a b=>El a×El b
 | .st f=>El f
 | .gap _=>Unit
 | .id _=>Nat
def K.size:K→Nat
 | .int _ | .bool | .str | .sl _ _ | .id _=>1
 | .unit=>0
 | .pair a b=>a.size+b.size
 | .st f=>f.size
 | .gap n=>n
def K.zero:(k:K)→El k
 | .int _=>(0:Int)
 | .bool=>false
 | .str=>([]:List Int)
 | .sl _ _=>[]
 | .unit=>()
 | .pair a b=>(a.zero,b.zero)
 | .st f=>f.zero
 | .gap _=>()
 | .id _=>(0:Nat)
def Bc:IntKind→IntKind→Bool
 | .i8, .i8 | .i16, .i16 | .i32, .i32 | .i64, .i64 | .u8, .u8 | .u16, .u16 | .u32, .u32 | .u64, .u64=>true
 | _,_=>false
def K.beq:K→K→Bool
 | .int a, .int b=>Bc a b
 | .bool, .bool=>true
 | .str, .str=>true
 | .sl e a, .sl f b=>Nat.beq e f && a.beq b
 | .unit, .unit=>true
 | .pair a b, .pair c d=>a.beq c && b.beq d
 | .st a, .st b=>a.beq b
 | .gap n, .gap m=>Nat.beq n m
 | .id e, .id f=>Nat.beq e f
 | _,_=>false
theorem Cg {a b:IntKind} (h:Bc a b=true):a=b:=by cases a <;> cases b <;> simp_all [Bc]
theorem K.eq_of_beq:∀{a b:K},a.beq b=true→a=b:=by
 intro a
 induction a with
 | int k=>intro b h; cases b <;> simp_all [K.beq]; exact Cg h
 | sl e k ih=>intro b h; cases b <;> simp_all [K.beq]; exact ih h.2
 | pair a b iha ihb=>intro c h; cases c <;> simp_all [K.beq]; exact ⟨iha h.1,ihb h.2⟩
 | st f ih=>intro b h; cases b <;> simp_all [K.beq]; exact ih h
 | gap n=>intro b h; cases b <;> simp_all [K.beq]
 | id e=>intro b h; cases b <;> simp_all [K.beq]
 | _=>intro b h; cases b <;> simp_all [K.beq]
def K.like:K→K→Bool
 | .gap n,k=>Nat.beq n k.size
 | .pair a b, .pair c d=>a.like c && b.like d
 | .st a, .st b=>a.like b
 | a,b=>a.beq b
def bP (a b:K) (x:El a):Option (El b):=if h:a.beq b=true then some (K.eq_of_beq h▸x) else none
def K.hole:K→K
 | .sl _ _=>.gap 1
 | .pair a b=>.pair a.hole b.hole
 | .st f=>.st f.hole
 | k=>k
def uN:(k:K)→El k→El k.hole
 | .sl _ _,_=>()
 | .pair a b,x=>(uN a x.1,uN b x.2)
 | .st f,x=>uN f x
 | .int _,x=>x
 | .bool,x=>x
 | .str,x=>x
 | .unit,_=>()
 | .gap _,_=>()
 | .id _,x=>x
def K.tys:K→List TypeId
 | .sl e k=>e :: k.tys
 | .pair a b=>a.tys++b.tys
 | .st f=>f.tys
 | _=>[]
def K.flat:K→Bool
 | .sl _ _ | .gap _=>false
 | .pair a b=>a.flat && b.flat
 | .st f=>f.flat
 | _=>true
def Cont:List K→Type
 | []=>Unit
 | k :: ks=>El k×Cont ks
def Cont.app:(ks ls:List K)→Cont ks→Cont ls→Cont (ks++ls)
 | [],_,_,d=>d
 | _ :: ks,ls,c,d=>(c.1,Cont.app ks ls c.2 d)
inductive Stp where
 | gL (n:Nat)
 | idx (i:Int)
abbrev Dat:=(k:K)×El k
def uM (d:Dat):Dat:=⟨d.1.hole,uN d.1 d.2⟩
def aQ:Nat→(c:K)→El c→Option Dat
 | 0, .pair a _,x=>some ⟨a,x.1⟩
 | n+1, .pair _ b,x=>aQ n b x.2
 | _,_,_=>none
def aT:List Stp→(k:K)→El k→Option Dat
 | [],k,x=>some ⟨k,x⟩
 | .gL n :: p, .st c,x=>match aQ n c x with
  | some d=>aT p d.1 d.2
  | none=>none
 | .idx i :: p, .sl _ k,xs=>aT p k ((show List (El k) from xs).getD i.toNat k.zero)
 | _,_,_=>none
def cz:Nat→(c:K)→El c→Dat→Option Dat
 | 0, .pair _ b,x,d=>some ⟨.pair d.1 b,(d.2,x.2)⟩
 | n+1, .pair a b,x,d=>match cz n b x.2 d with
  | some z=>some ⟨.pair a z.1,(x.1,z.2)⟩
  | none=>none
 | _,_,_,_=>none
def eF:List Stp→(k:K)→El k→Dat→Option Dat
 | [],_,_,d=>some d
 | .gL n :: p, .st c,x,d=>match aQ n c x with
  | some s=>match eF p s.1 s.2 d with
   | some t=>match cz n c x t with
    | some z=>some ⟨.st z.1,z.2⟩
    | none=>none
   | none=>none
  | none=>none
 | .idx i :: p, .sl e k,xs,d=>match eF p k ((show List (El k) from xs).getD i.toNat k.zero) d with
  | some t=>match bP t.1 k t.2 with
   | some y=>some ⟨.sl e k,(show List (El k) from xs).set i.toNat y⟩
   | none=>none
  | none=>none
 | _,_,_,_=>none
def Stp.qW:Stp→Bool
 | .gL _=>true
 | .idx _=>false
def ah:List Stp→K→List TypeId
 | .gL n :: p, .st c=>match Js n c with
  | some k=>ah p k
  | none=>[]
 | .idx _ :: p, .sl e k=>e :: ah p k
 | _,_=>[]
where Js:Nat→K→Option K
 | 0, .pair a _=>some a
 | n+1, .pair _ b=>Js n b
 | _,_=>none
abbrev Tag:=Nat×Nat
inductive AV where
 | undef
 | val (k:K) (x:El k) (tags:List Tag)
 | iQ
 | ref (r g:Nat)
 | xy (r:Nat) (p:List Stp) (v:Nat)
 | ptr (r:Nat) (p:List Stp) (h:Nat)
 | je (bt:TypeId) (k:K) (x:El k) (tags:List Tag)
 | sG
 | K5 (r g:Nat) (k:K) (p:List Stp)
 | Bz (e:Bool)
 | part (r g lo hi sz:Nat)
 | yL (r:Nat) (p:List Stp) (v m:Nat)
 | app (r:Nat) (p:List Stp) (v q:Nat)
 | fn (f:Nat) (caps:List (TypeId×Dat×List Tag))
inductive yQ where
 | one (a:AV)
 | J7 (l:List AV)
inductive IK where
 | anon
 | var (t:TypeId)
 | par
 | dead
structure Root where
 k:K
 x:El k
 own:List TypeId
 tags:List Tag
 w:List TypeId
 h:List TypeId
 g:Nat
 kind:IK
 fixed:Bool
 keep:Bool
 ew:List TypeId:=[]
 eh:List TypeId:=[]
def Root.aX (R:Root):Bool:=match R.kind with
 | .dead=>true
 | _=>false
def Root.isVar (R:Root):Bool:=match R.kind with
 | .var _=>true
 | _=>false
def cu:Root:={ k:=.unit,x:=(),own:=[],tags:=[],w:=[],h:=[],g:=0,kind:=.dead,fixed:=true,keep:=true }
structure St where
 slots:Nat→yQ
 roots:Nat→Option Root
inductive Loc where
 | s (n:Nat)
 | r (n:Nat)
inductive Wr where
 | s (n:Nat) (a:yQ)
 | r (n:Nat) (o:Option Root)
def Loc.beq:Loc→Loc→Bool
 | .s a, .s b=>Nat.beq a b
 | .r a, .r b=>Nat.beq a b
 | _,_=>false
def Wr.loc:Wr→Loc
 | .s n _=>.s n
 | .r n _=>.r n
def upd {α:Type} (f:Nat→α) (n:Nat) (v:α):Nat→α:=fun m=>bif Nat.beq m n then v else f m
def Wr.app (w:Wr) (σ:St):St:=match w with
 | .s n a=>{ σ with slots:=upd σ.slots n a }
 | .r n (some R)=>{ σ with roots:=upd σ.roots n (some R) }
 | .r n none=>{ σ with roots:=upd σ.roots n (some cu) }
def aC:List Wr→St→St
 | [],σ=>σ
 | w :: ws,σ=>aC ws (w.app σ)
inductive Prog (α:Type):Type 1 where
 | ret (a:α)
 | fail
 | slot (n:Nat) (k:yQ→Prog α)
 | root (r:Nat) (k:Option Root→Prog α)
 | xA (c:Prop) (d:Decidable c) (k:Prog α)
 | br (c:Bool) (t e:Prog α)
 | opt (β:Type) (o:Option β) (k:β→Prog α)
def Prog.bind {α β:Type}:Prog α→(α→Prog β)→Prog β
 | .ret a,f=>f a
 | .fail,_=>.fail
 | .slot n k,f=>.slot n fun v=>(k v).bind f
 | .root r k,f=>.root r fun v=>(k v).bind f
 | .xA c d k,f=>.xA c d (k.bind f)
 | .br c t e,f=>.br c (t.bind f) (e.bind f)
 | .opt β o k,f=>.opt β o fun b=>(k b).bind f
def Prog.run {α R:Type}:Prog α→St→(α→Option R)→Option R
 | .ret a,_,K=>K a
 | .fail,_,_=>none
 | .slot n k,σ,K=>(k (σ.slots n)).run σ K
 | .root r k,σ,K=>(k (σ.roots r)).run σ K
 | .xA c d k,σ,K=>@ite _ c d (k.run σ K) none
 | .br c t e,σ,K=>if c=true then t.run σ K else e.run σ K
 | .opt _ o k,σ,K=>o.bind fun b=>(k b).run σ K
def Prog.JQ {α R:Type}:Prog α→St→List Loc→(α→List Loc→Option R)→Option R
 | .ret a,_,l,K=>K a l
 | .fail,_,_,_=>none
 | .slot n k,σ,l,K=>(k (σ.slots n)).JQ σ (.s n :: l) K
 | .root r k,σ,l,K=>(k (σ.roots r)).JQ σ (.r r :: l) K
 | .xA c d k,σ,l,K=>@ite _ c d (k.JQ σ l K) none
 | .br c t e,σ,l,K=>if c=true then t.JQ σ l K else e.JQ σ l K
 | .opt _ o k,σ,l,K=>o.bind fun b=>(k b).JQ σ l K
end
section
open Go
def ay (n:Nat):List Nat→Bool
 | []=>false
 | m :: l=>bif Nat.beq n m then true else ay n l
def nJ (l m:List Nat):Bool:=l.all fun n=>ay n m
def gG {α:Type}:List α→Nat
 | []=>0
 | _ :: l=>gG l+1
def au (j:Nat):Nat:=4 * j
def qp (j:Nat):Nat:=4 * j+1
def bE (d c:Nat):Nat:=4 * (8 * d+c)+2
def fP (r:Nat):Bool:=Nat.beq (r % 4) 1
def since (l:List Nat) (n:Nat):List Nat:=l.take (gG l - n)
def clean (l:List Nat) (n:Nat) (tys:List Nat):Bool:=(since l n).all fun t=>!ay t tys
def bytesOf (s:ByteArray):List Int:=s.data.toList.map fun b=>(b.toNat:Int)
inductive cZ where
 | val (k:K) (iB:List Nat)
 | ro (k:K)
 | rw (k:K) (ow wt ht:List TypeId)
 | into (j:Nat) (p:List (Option Nat))
 | jl (k:K) (ow wt:List TypeId)
 | own (k:K) (ow:List TypeId)
 | fn (f:Nat) (ks:List K)
inductive jy where
 | val (k:K) (exts iB:List Nat)
 | own (k:K) (ow:List TypeId) (exts iB:List Nat)
 | ptr (t:TypeId) (k:K) (ow:List TypeId) (exts:List Nat)
 | into (j:Nat) (p:List (Option Nat))
def cZ.kin:cZ→List K
 | .val k _ | .ro k | .rw k _ _ _ | .jl k _ _ | .own k _=>[k]
 | .into _ p=>p.filterMap fun | none=>some (.int .i64) | some _=>none
 | .fn _ ks=>ks
def cZ.jL:cZ→List K
 | .rw k _ _ _ | .jl k _ _=>[k]
 | _=>[]
def jy.ig:jy→List K
 | .val k _ _ | .own k _ _ _ | .ptr _ k _ _=>[k]
 | .into _ _=>[.int .i64]
def kin:List cZ→List K
 | []=>[]
 | p :: ps=>p.kin++kin ps
def jL:List cZ→List K
 | []=>[]
 | p :: ps=>p.jL++jL ps
def ig:List jy→List K
 | []=>[]
 | p :: ps=>p.ig++ig ps
structure Entry where
 f:FuncId
 ps:List cZ
 rs:List jy
 F:Nat→Cont (kin ps)→Option (Cont (ig rs++jL ps))
structure ji where
 ty:TypeId→Option K
 bytes:TypeId→Nat
 ptr:TypeId→Bool
 eq:TypeId→Bool
 ids:Bool:=false
structure Hint where
 nt:Nat
 alp:List Nat
 loops:List (Nat×List Nat×List Nat)
 less:List (Nat×List TypeId)
 calls:List (Nat×Option Nat×Entry)
 jd:List (Nat×K×List TypeId×List TypeId)
 wide:List (Nat×List Nat):=[]
 parts:List Nat:=[]
 apps:List Nat:=[]
section
variable {α:Type}
def oH:List Tag→List TypeId→Prog α→Prog α
 | [],_,k=>k
 | (r,n) :: ts,tys,k=>bif fP r then oH ts tys k else .root r fun
  | some R=>bif !R.aX && clean R.w n tys then oH ts tys k else .fail
  | none=>.fail
def aU (own:List TypeId):K→List TypeId
 | .sl e k=>bif ay e own then aU own k else e :: k.tys
 | .pair a b=>aU own a++aU own b
 | .st f=>aU own f
 | _=>[]
def Root.Dw (R:Root):List TypeId:=aU R.own R.k
def sI (r:Nat) (k:Root→Prog α):Prog α:=.root r fun
 | some R=>bif R.aX then .fail else oH R.tags R.Dw (k R)
 | none=>.fail
def Root.yO (R:Root):Nat:=gG R.w+gG R.h
def Root.out (R:Root) (r:Nat) (k:K):List Tag:=bif k.flat then [] else bif k.tys.any (fun t=>ay t R.own) then (r,gG R.w) :: R.tags else R.tags
def jY (r:Nat) (k:Prog α):Prog α:=.root r fun
 | none=>k
 | some _=>.fail
def inK:IntKind→Int→Bool
 | .u8,n=>Int.blt n 256 && Int.ble 0 n
 | _,_=>true
where
 Int.blt (a b:Int):Bool:=decide (a<b)
 Int.ble (a b:Int):Bool:=decide (a≤b)
def ZV:Value→AV
 | .int k n=>bif inK k n then .val (.int k) n [] else .undef
 | .bool b=>.val .bool b []
 | .string s=>.val .str (bytesOf s) []
 | .slice none 0 0=>.iQ
 | .pointer none=>.sG
 | _=>.undef
def u6 (x:Operand) (k:yQ→Prog α):Prog α:=match x with
 | .tmp t=>.slot t k
 | .const v=>k (.one (ZV v))
 | .func f=>k (.one (.fn f []))
 | .global _=>.fail
def dN (x:Operand) (k:AV→Prog α):Prog α:=u6 x fun
 | .one a=>k a
 | .J7 _=>.fail
def vB (a:AV) (k:(kk:K)→El kk→List Tag→Prog α):Prog α:=match a with
 | .val kk x tags=>oH tags kk.tys (k kk x tags)
 | .ref r g=>sI r fun R=>bif Nat.beq R.g g then k R.k R.x (R.out r R.k) else .fail
 | .xy r p h=>sI r fun R=>bif Nat.beq R.yO h then
   match aT p R.k R.x with
   | some d=>k d.1 d.2 (R.out r d.1)
   | none=>.fail
  else .fail
 | _=>.fail
def asInt (a:AV) (k:IntKind→Int→Prog α):Prog α:=match a with
 | .val (.int ik) n _=>k ik n
 | _=>.fail
def asBool (a:AV) (k:Bool→Prog α):Prog α:=match a with
 | .val .bool b _=>k b
 | _=>.fail
def Wr.uF:Wr→List Nat
 | .r n _=>[n]
 | .s _ _=>[]
def Ht:List Nat→Bool
 | []=>true
 | n :: l=>!ay n l && Ht l
def BS (ws:List Wr) (tags:List Tag):Bool:=tags.all fun t=>!ay t.1 (ws.flatMap Wr.uF)
def NC (ws:List Wr) (tags:List Tag):Bool:=Ht (ws.flatMap Wr.uF) && BS ws tags
structure iL where
 k:K
 x:El k
 own:List TypeId
 tags:List Tag
 ws:List Wr
 keep:Bool
abbrev qK:Nat:=4294967294
def eD:List Stp→K→List TypeId
 | [],_=>[]
 | p,k=>qK :: ah p k
def tL (k:K):List TypeId:=match k.tys with
 | []=>[qK]
 | _=>[]
def IX (R:Root) (p:List Stp) (d:Dat):Option Root:=
 match eF p R.k R.x (uM d) with
 | some z=>some { R with k:=z.1,x:=z.2,w:=d.1.tys++R.w,h:=tL d.1++d.1.tys++R.h }
 | none=>none
def CQ (want:K) (a:AV) (k:iL→Prog α):Prog α:=match a with
 | .val kk x tags=>oH tags kk.tys (k ⟨kk,x,[],tags,[],false⟩)
 | .iQ=>match want with
  | .sl e kk=>k ⟨.sl e kk,[],e :: kk.tys,[],[],false⟩
  | _=>.fail
 | .ref r g=>sI r fun R=>bif Nat.beq R.g g && !R.fixed then k ⟨R.k,R.x,R.own,R.tags,[.r r none],R.keep⟩ else .fail
 | .xy r p h=>sI r fun R=>bif Nat.beq R.yO h then
   match aT p R.k R.x with
   | some d=>bif p.all Stp.qW && !R.fixed && (!p.isEmpty || R.isVar) then
     match IX R p d with
     | some R'=>k ⟨d.1,d.2,d.1.tys.filter (fun t=>ay t R.own),R.tags,[.r r (some R')],R.keep⟩
     | none=>.fail
    else oH (R.out r d.1) d.1.tys (k ⟨d.1,d.2,[],R.out r d.1,[],false⟩)
   | none=>.fail
  else .fail
 | .part r g lo hi sz=>sI r fun R=>bif Nat.beq R.g g && !R.fixed && Nat.beq lo 0 then match R.k,R.x with
   | .sl e kk,xs=>bif kk.flat && ay e R.own && Nat.beq kk.size sz then k ⟨.sl e kk,(show List (El kk) from xs).take hi,R.own,R.tags,[.r r none],R.keep⟩ else .fail
   | _,_=>.fail
  else .fail
 | _=>.fail
def Bd:List Int→List Int→Bool
 | _,[]=>false
 | [],_ :: _=>true
 | a :: x,b :: y=>decide (a<b) || (decide (a=b) && Bd x y)
def Av:(k:K)→El k→El k→Bool
 | .int _,x,y=>decide ((show Int from x)=y)
 | .bool,x,y=>(show Bool from x) == y
 | .str,x,y=>decide ((show List Int from x)=y)
 | .pair .unit .unit,_,_=>true
 | .pair a .unit,x,y=>Av a x.1 y.1
 | .pair a b,x,y=>Av a x.1 y.1 && Av b x.2 y.2
 | .st f,x,y=>Av f x y
 | _,_,_=>true
def v1 (k:K) (x:El k):yQ:=.one (.val k x [])
def Vx (op:BinOp) (ik:IntKind) (x y:Int) (k:yQ→Prog α):Prog α:=match op with
 | .add=>k (v1 (.int ik) (ik.wrap (x+y)))
 | .sub=>k (v1 (.int ik) (ik.wrap (x - y)))
 | .mul=>k (v1 (.int ik) (ik.wrap (x * y)))
 | .quo=>.xA (y≠0) inferInstance (k (v1 (.int ik) (ik.wrap (x.tdiv y))))
 | .rem=>.xA (y≠0) inferInstance (k (v1 (.int ik) (x.tmod y)))
 | .and=>k (v1 (.int ik) (ik.wrap (BitVec.ofInt ik.bits x &&& BitVec.ofInt ik.bits y).toNat))
 | .or=>k (v1 (.int ik) (ik.wrap (BitVec.ofInt ik.bits x ||| BitVec.ofInt ik.bits y).toNat))
 | .xor=>k (v1 (.int ik) (ik.wrap (BitVec.ofInt ik.bits x ^^^ BitVec.ofInt ik.bits y).toNat))
 | .andNot=>k (v1 (.int ik) (ik.wrap (BitVec.ofInt ik.bits x &&& ~~~ BitVec.ofInt ik.bits y).toNat))
 | .eql=>k (v1 .bool (decide (x=y)))
 | .neq=>k (v1 .bool (!decide (x=y)))
 | .lss=>k (v1 .bool (decide (x<y)))
 | .leq=>k (v1 .bool (decide (x≤y)))
 | .gtr=>k (v1 .bool (decide (x>y)))
 | .geq=>k (v1 .bool (decide (x≥y)))
 | _=>.fail
def aaz (op:BinOp) (x y:List Int) (k:yQ→Prog α):Prog α:=match op with
 | .add=>.xA (x.length+y.length≤9223372036854775807) inferInstance (k (v1 .str (x++y)))
 | .eql=>k (v1 .bool (decide (x=y)))
 | .neq=>k (v1 .bool (!decide (x=y)))
 | .lss=>k (v1 .bool (Bd x y))
 | .leq=>k (v1 .bool (Bd x y || decide (x=y)))
 | .gtr=>k (v1 .bool (!(Bd x y || decide (x=y))))
 | .geq=>k (v1 .bool (!Bd x y))
 | _=>.fail
def R6 (a b:AV):Option Bool:=match a,b with
 | .sG, .sG=>some true
 | .sG, .ptr _ _ _ | .ptr _ _ _, .sG=>some false
 | .sG, .je _ _ _ _ | .je _ _ _ _, .sG=>some false
 | _,_=>none
def QV (T:ji) (t:TypeId) (op:BinOp) (a b:AV) (k:yQ→Prog α):Prog α:=match a,b with
 | .val (.int ik) x _, .val (.int jk) y _=>match op with
  | .shl=>.xA (0≤y) inferInstance (k (v1 (.int ik) (ik.wrap (x * 2 ^ min y.toNat ik.bits))))
  | .shr=>.xA (0≤y) inferInstance (k (v1 (.int ik) (x.fdiv (2 ^ min y.toNat ik.bits))))
  | _=>bif Bc ik jk then Vx op ik x y k else .fail
 | .val .bool x _, .val .bool y _=>match T.ty t,op with
  | some .bool, .eql=>k (v1 .bool (x == y))
  | some .bool, .neq=>k (v1 .bool (!(x == y)))
  | _,_=>.fail
 | .val .str x _, .val .str y _=>aaz op x y k
 | .val (.st c) x _, .val (.st d) y _=>match bP (.st d) (.st c) y with
  | some y'=>bif (c.flat && T.eq t) && (match T.ty t with | some kk=>kk.beq (.st c) | none=>false) then match op with
    | .eql=>k (v1 .bool (Av c x y'))
    | .neq=>k (v1 .bool (!Av c x y'))
    | _=>.fail
   else .fail
  | none=>.fail
 | a,b=>bif T.ptr t then match R6 a b,op with
  | some t, .eql=>k (v1 .bool t)
  | some t, .neq=>k (v1 .bool (!t))
  | _,_=>.fail
  else .fail
def ZF:Operand→Bool
 | .const (.slice none 0 0)=>true
 | _=>false
def ac0:BinOp→Bool
 | .eql=>true
 | _=>false
def aip (T:ji) (t:TypeId) (a:AV) (k:AV→Prog α):Prog α:=match T.ty t with
 | some (.sl _ _)=>vB a fun kk x _=>match kk,x with
  | .sl _ kk,xs=>k (.Bz (show List (El kk) from xs).isEmpty)
  | _,_=>.fail
 | _=>.fail
def TA (T:ji) (t:TypeId) (op:BinOp) (x y:Operand) (k:yQ→Prog α):Prog α:=
 bif ZF y && ac0 op then dN x fun a=>aip T t a fun v=>k (.one v) else dN x fun a=>dN y fun b=>QV T t op a b k
def unP (op:UnOp) (a:AV) (k:yQ→Prog α):Prog α:=match op,a with
 | .neg, .val (.int ik) x _=>k (v1 (.int ik) (ik.wrap (0 - x)))
 | .xor, .val (.int ik) x _=>k (v1 (.int ik) (ik.wrap (BitVec.ofInt ik.bits (if ik.signed then -1 else ik.max) ^^^ BitVec.ofInt ik.bits x).toNat))
 | .not, .val .bool b _=>k (v1 .bool (!b))
 | _,_=>.fail
def aP (k:K) (x:El k) (ow:List TypeId) (tags:List Tag) (kind:IK) (keep:Bool:=false):Root:={ k,x,own:=ow,tags,w:=[],h:=[],g:=0,kind,fixed:=false,keep }
def Root.bt (R:Root):TypeId:=match R.kind with
 | .var t=>t
 | _=>4294967295
def eU (R:Root) (p:List Stp):TypeId:=(ah p R.k).getLastD R.bt
def J3 (p:List Stp) (R:Root):Bool:=(ah p R.k).all fun t=>ay t R.own
def addrOf (a:AV) (rd:Root→Nat→List Stp→Dat→Prog α) (ro:TypeId→Dat→List Tag→Prog α):Prog α:=match a with
 | .ptr r p h=>sI r fun R=>bif clean R.h h (eD p R.k) && J3 p R then
   match aT p R.k R.x with
   | some d=>rd R r p d
   | none=>.fail
  else .fail
 | .je bt k x tags=>oH tags (bt :: k.tys) (ro bt ⟨k,x⟩ tags)
 | _=>.fail
def FO (T:ji) (xy:Bool) (t:TypeId) (a:AV) (k:AV→Prog α):Prog α:=
 match T.ty t with
 | none=>.fail
 | some kk=>match a with
  | .K5 r g k0 p=>sI r fun R=>bif Nat.beq R.g g && R.k.beq k0 && p.all Stp.qW then
    match aT p R.k R.x with
    | some d=>bif d.1.beq kk then (bif d.1.flat then k (.val d.1 d.2 []) else k (.xy r p R.yO)) else .fail
    | none=>.fail
   else .fail
  | a=>addrOf a
   (fun R r p d=>bif d.1.beq kk then (bif xy && !d.1.flat then k (.xy r p R.yO) else k (.val d.1 d.2 (R.out r d.1))) else .fail)
   (fun _ d tags=>bif d.1.beq kk then k (.val d.1 d.2 (bif d.1.flat then [] else tags)) else .fail)
def bJ (own bad:List TypeId):List TypeId:=own.filter fun t=>!ay t bad
def iP:List Tag→List Tag→List Tag
 | [],m=>m
 | (r,n) :: l,m=>bif m.any fun t=>Nat.beq t.1 r && Nat.beq t.2 n then iP l m else (r,n) :: iP l m
def xR (r:Nat) (l:List Tag):List Tag:=l.filter fun t=>!Nat.beq t.1 r
def iL.bad (tk:iL):List TypeId:=aU tk.own tk.k
def Qg (R:Root) (r:Nat) (tags:List Tag) (bad:List TypeId):Bool:=tags.all (fun t=>!Nat.beq t.1 r) || match R.kind with
 | .par=>false
 | .var t=>!ay t bad
 | _=>true
def Qd (R:Root) (r:Nat) (p:List Stp) (d:Dat) (tk:iL):Option (Root×Dat):=
 bif !d.1.flat && p.all Stp.qW && !R.keep && (!p.isEmpty || R.isVar) && tk.tags.all (fun t=>!Nat.beq t.1 r) then
  match IX R p d with
  | some Rg=>match tk.own.filter (fun t=>!ay t R.own && ay t d.1.tys && !ay t Rg.k.tys) with
   | []=>none
   | l=>some ({ Rg with own:=l++R.own },uM d)
  | none=>none
 else none
def storeAt (kk:K) (r:Nat) (p:List Stp) (tk:iL) (R:Root) (d:Dat) (k:List Wr→Prog α):Prog α:=
 bif (d.1.beq kk || (d.1.beq kk.hole && p.all Stp.qW)) && (kk.flat || Qg R r tk.tags tk.bad) && (ah p R.k).all (fun t=>!ay t tk.bad) then
  match eF p R.k R.x ⟨tk.k,tk.x⟩ with
  | some z=>bif R.keep && !kk.tys.all (fun t=>!ay t R.own || ay t tk.own) then .fail else
   k (tk.ws++[.r r (some { R with
    keep:=R.keep || tk.keep
    k:=z.1,x:=z.2
    own:=bJ R.own tk.bad
    tags:=bif kk.flat then R.tags else iP (xR r tk.tags) R.tags
    w:=eU R p :: R.w
    h:=(bif d.1.beq kk then [] else tL kk)++kk.tys++R.h })])
  | none=>.fail
 else .fail
def UN (T:ji) (t:TypeId) (a v:AV) (k:List Wr→Prog α):Prog α:=
 match T.ty t,a with
 | some kk, .ptr r p h=>CQ kk v fun tk=>bif tk.k.beq kk && tk.ws.all (fun w=>!w.loc.beq (.r r)) then
   sI r fun R=>bif clean R.h h (eD p R.k) && J3 p R && BS tk.ws R.tags then
    match aT p R.k R.x with
    | some d=>match Qd R r p d tk with
     | some q=>oH q.1.tags q.1.Dw (storeAt kk r p tk q.1 q.2 k)
     | none=>storeAt kk r p tk R d k
    | none=>.fail
   else .fail
  else .fail
 | _,_=>.fail
def Lm (kk:K) (a:AV) (n:Nat) (k:AV→Prog α):Prog α:=match a with
 | .val (.st c) x tags=>bif (K.st c).beq kk then match aQ n c x with
  | some d=>oH tags c.tys (k (.val d.1 d.2 (bif d.1.flat then [] else tags)))
  | none=>.fail
  else .fail
 | .ref r g=>sI r fun R=>bif Nat.beq R.g g && R.k.beq kk then
   match aT [.gL n] R.k R.x with
   | some d=>bif d.1.flat then k (.val d.1 d.2 []) else k (.xy r [.gL n] R.yO)
   | none=>.fail
  else .fail
 | .xy r p h=>sI r fun R=>bif Nat.beq R.yO h then
   match aT p R.k R.x,aT (p++[.gL n]) R.k R.x with
   | some d0,some d=>bif !d0.1.beq kk then .fail else bif d.1.flat then k (.val d.1 d.2 []) else k (.xy r (p++[.gL n]) R.yO)
   | _,_=>.fail
  else .fail
 | _=>.fail
def PG (kk:K) (n:Nat):Bool:=match kk with
 | .st c=>(ah.Js n c).isSome
 | _=>false
def Od:List Stp→K→Option K
 | [],k=>some k
 | .gL n :: p, .st c=>match ah.Js n c with
  | some k=>Od p k
  | none=>none
 | _,_=>none
def abm (a:AV) (kk:K) (yes:Nat→Nat→Prog α) (no:Prog α):Prog α:=match a with
 | .ref r g=>.root r fun
  | some R=>bif R.fixed then (sI r fun R=>bif Nat.beq R.g g && R.k.beq kk then yes r g else .fail) else no
  | none=>no
 | _=>no
def wJ (kk:K) (a:AV) (n:Nat) (k:AV→Prog α):Prog α:=match a with
 | .ptr r p h=>.root r fun
  | some R=>match aT p R.k R.x with
   | some d=>bif d.1.like kk && PG kk n then k (.ptr r (p++[.gL n]) h) else .fail
   | none=>.fail
  | none=>.fail
 | .je bt (.st c) x tags=>bif (K.st c).beq kk then match aQ n c x with
  | some d=>oH tags (bt :: c.tys) (k (.je bt d.1 d.2 tags))
  | none=>.fail
  else .fail
 | .K5 r g k0 p=>match Od p k0 with
  | some k1=>bif k1.beq kk && PG kk n then k (.K5 r g k0 (p++[.gL n])) else .fail
  | none=>.fail
 | _=>.fail
def aH (i:Int) (n:Nat):Prop:=0≤i∧i<(n:Int)
instance (i:Int) (n:Nat):Decidable (aH i n):=inferInstanceAs (Decidable (_∧_))
def wM (k0:K) (a:AV) (i:Int) (k:AV→Prog α):Prog α:=match a with
 | .val (.sl e kk) xs tags=>bif (K.sl e kk).beq k0 then oH tags (e :: kk.tys) (.xA (aH i (show List (El kk) from xs).length) inferInstance
   (k (.je e kk ((show List (El kk) from xs).getD i.toNat kk.zero) tags))) else .fail
 | .ref r g=>sI r fun R=>bif Nat.beq R.g g then
   match R.k,R.x with
   | .sl e kk,xs=>bif ay e R.own && (K.sl e kk).beq k0 then .xA (aH i (show List (El kk) from xs).length) inferInstance (k (.ptr r [.idx i] (gG R.h))) else .fail
   | _,_=>.fail
  else .fail
 | .xy r p h=>sI r fun R=>bif Nat.beq R.yO h then
   match aT p R.k R.x with
   | some ⟨.sl e kk,xs⟩=>bif !(K.sl e kk).beq k0 then .fail else bif ay e R.own then .xA (aH i (show List (El kk) from xs).length) inferInstance (k (.ptr r (p++[.idx i]) (gG R.h)))
     else .xA (aH i (show List (El kk) from xs).length) inferInstance (k (.je e kk ((show List (El kk) from xs).getD i.toNat kk.zero) (R.out r (.sl e kk))))
   | _=>.fail
  else .fail
 | _=>.fail
structure EK where
 k:K
 x:El k
 bad:List TypeId
 tags:List Tag
 ws:List Wr
 keep:Bool
 all:List Tag
def iL.jV (tk:iL):List Tag:=match tk.bad with
 | []=>[]
 | _=>tk.tags
def KT:List (Nat×AV)→EK→(EK→Prog α)→Prog α
 | [],b,k=>k b
 | (n,a) :: l,b,k=>match b.k,b.x with
  | .st c,x=>match aQ n c x with
   | some d=>CQ d.1 a fun tk=>bif tk.k.beq d.1 then
     match cz n c x ⟨tk.k,tk.x⟩ with
     | some z=>KT l { k:=.st z.1,x:=z.2,bad:=tk.bad++b.bad,tags:=iP (tk.jV) b.tags,ws:=b.ws++tk.ws,keep:=tk.keep || b.keep,all:=tk.tags++b.all } k
     | none=>.fail
    else .fail
   | none=>.fail
  | _,_=>.fail
def Lh:List (Nat×Operand)→(List (Nat×AV)→Prog α)→Prog α
 | [],k=>k []
 | (n,x) :: l,k=>dN x fun a=>Lh l fun r=>k ((n,a) :: r)
def jR:List Operand→(List AV→Prog α)→Prog α
 | [],k=>k []
 | x :: l,k=>dN x fun a=>jR l fun r=>k (a :: r)
structure wB (kk:K) where
 xs:List (El kk)
 bad:List TypeId
 tags:List Tag
 ws:List Wr
 keep:Bool
 all:List Tag
def Ld (kk:K):List (Nat×AV)→wB kk→(wB kk→Prog α)→Prog α
 | [],b,k=>k b
 | (n,a) :: l,b,k=>CQ kk a fun tk=>match bP tk.k kk tk.x with
  | some y=>bif Nat.beq n (gG b.xs) then Ld kk l { xs:=b.xs++[y],bad:=tk.bad++b.bad,tags:=iP (tk.jV) b.tags,ws:=b.ws++tk.ws,keep:=tk.keep || b.keep,all:=tk.tags++b.all } k else .fail
  | none=>.fail
def aay (e:TypeId) (kk:K) (a:AV) (k:wB kk→Prog α):Prog α:=match a with
 | .val .str s _=>match bP (.int .u8) kk (0:Int) with
  | some _=>match bP (.sl e (.int .u8)) (.sl e kk) (show List Int from s) with
   | some xs=>k ⟨xs,[],[],[],false,[]⟩
   | none=>.fail
  | none=>.fail
 | .iQ=>k ⟨[],[],[],[],false,[]⟩
 | .ref r g=>sI r fun R=>bif Nat.beq R.g g then
   match bP R.k (.sl e kk) R.x with
   | some xs=>bif kk.flat then k ⟨xs,[],[],[],false,[]⟩ else bif R.fixed then .fail else k ⟨xs,bif ay e R.own then aU R.own kk else kk.tys,bif ay e R.own && kk.tys.all (fun t=>ay t R.own) then [] else R.tags,[.r r none],R.keep,R.tags⟩
   | none=>.fail
  else .fail
 | a=>vB a fun k' x tags=>match bP k' (.sl e kk) x with
   | some xs=>k ⟨xs,kk.tys,bif kk.flat then [] else tags,[],false,[]⟩
   | none=>.fail
def CX (T:ji) (d:Nat) (t:TypeId) (a b:AV) (k:List Wr→Prog α):Prog α:=
 match T.ty t with
 | some (.sl e kk)=>aay e kk b fun s=>bif ay e s.bad then .fail else match a with
  | .iQ=>.xA (s.xs.length * T.bytes e≤140737488355328) inferInstance (jY (bE d 0)
    (k (s.ws++[.r (bE d 0) (some (aP (.sl e kk) s.xs (e :: bJ kk.tys s.bad) s.tags .anon s.keep)), .s d (.one (.ref (bE d 0) 0))])))
  | .ref r g=>sI r fun R=>bif Nat.beq R.g g && !R.fixed && ay e R.own && !(R.keep && !kk.tys.all (fun t=>!ay t R.own || !ay t s.bad)) && s.ws.all (fun w=>!w.loc.beq (.r r)) && BS s.ws R.tags then
    match bP R.k (.sl e kk) R.x with
    | some xs=>.xA (((show List (El kk) from xs).length+s.xs.length) * T.bytes e≤140737488355328) inferInstance
      (k (s.ws++[.r r (some { R with
        k:=.sl e kk,x:=(show List (El kk) from xs)++s.xs
        own:=bJ R.own s.bad
        tags:=iP (xR r s.tags) R.tags
        w:=e :: R.w,h:=qK :: e :: R.h,g:=R.g+1,keep:=R.keep || s.keep }), .s d (.one (.ref r (R.g+1)))]))
    | none=>.fail
   else .fail
  | .xy r p h=>sI r fun R=>bif Nat.beq R.yO h && p.all Stp.qW && (!p.isEmpty || R.isVar) && !R.fixed && ay e R.own && !(R.keep && !kk.tys.all (fun t=>!ay t R.own || !ay t s.bad)) && s.ws.all (fun w=>!w.loc.beq (.r r)) && BS s.ws R.tags then
    match aT p R.k R.x with
    | some dd=>match bP dd.1 (.sl e kk) dd.2,IX R p dd with
     | some xs,some R'=>.xA (((show List (El kk) from xs).length+s.xs.length) * T.bytes e≤140737488355328) inferInstance (jY (bE d 0)
       (k (s.ws++[.r r (some R'), .r (bE d 0) (some (aP (.sl e kk) ((show List (El kk) from xs)++s.xs)
          (bJ ((e :: kk.tys).filter fun t=>ay t R.own) s.bad) (iP s.tags R.tags) .anon (R.keep || s.keep))), .s d (.one (.ref (bE d 0) 0))])))
     | _,_=>.fail
    | none=>.fail
   else .fail
  | _=>.fail
 | _=>.fail
def ownRow (r g:Nat) (k:Root→(e:TypeId)→(kk:K)→List (El kk)→Prog α):Prog α:=sI r fun R=>bif Nat.beq R.g g then match R.k,R.x with
  | .sl e kk,xs=>bif kk.flat && ay e R.own then k R e kk (show List (El kk) from xs) else .fail
  | _,_=>.fail
 else .fail
def VK (k0:K) (a:AV) (lo hi mx:Option Int) (k:AV→Prog α):Prog α:=match a with
 | .ref r g=>ownRow r g fun _ e kk xs=>bif (K.sl e kk).beq k0 then
   match mx with
   | none=>.xA (0≤lo.getD 0∧lo.getD 0≤hi.getD (xs.length:Int)∧hi.getD (xs.length:Int)≤(xs.length:Int)) inferInstance (k (.part r g (lo.getD 0).toNat (hi.getD (xs.length:Int)).toNat kk.size))
   | some m=>bif hi.isSome then .xA (0≤lo.getD 0∧lo.getD 0≤hi.getD 0∧hi.getD 0≤m∧m≤(xs.length:Int)) inferInstance (k .undef) else .fail
  else .fail
 | .part r g l0 h0 sz=>ownRow r g fun _ e kk xs=>bif (K.sl e kk).beq k0 && Nat.beq kk.size sz && mx.isNone then
   .xA (0≤lo.getD 0∧lo.getD 0≤hi.getD ((h0 - l0:Nat):Int)∧(l0:Int)+hi.getD ((h0 - l0:Nat):Int)≤(xs.length:Int)) inferInstance
    (k (.part r g (l0+(lo.getD 0).toNat) (l0+(hi.getD ((h0 - l0:Nat):Int)).toNat) sz))
  else .fail
 | _=>.fail
def TM (k0:K) (a:AV) (k:List Wr→Prog α):Prog α:=match a with
 | .part r g lo hi sz=>ownRow r g fun R e kk xs=>bif (K.sl e kk).beq k0 && Nat.beq kk.size sz then
   k [.r r (some { R with k:=.sl e kk,x:=xs.take lo++List.replicate (hi - lo) kk.zero++xs.drop hi,w:=e :: R.w })]
  else .fail
 | _=>.fail
def TN (k0:K) (d:Nat) (a b:AV) (k:List Wr→Prog α):Prog α:=match a,b with
 | .part r g l0 h0 sz, .part r' g' l1 h1 sz'=>ownRow r g fun R e kk xs=>bif (K.sl e kk).beq k0 && Nat.beq r r' && Nat.beq g g' && Nat.beq sz sz' && Nat.beq l0 0 && Nat.beq kk.size sz then
   .xA (h0≤l1) inferInstance (k [.r r (some { R with k:=.sl e kk,x:=xs.take h0++(xs.take h1).drop l1++xs.drop (h0+(h1 - l1)),w:=e :: R.w }), .s d (.one (.part r g 0 (h0+(h1 - l1)) sz))])
  else .fail
 | _,_=>.fail
def YG (k0:K) (d:Nat) (a b:AV) (k:List Wr→Prog α):Prog α:=match a with
 | .ref r g=>ownRow r g fun R e kk xs=>bif (K.sl e kk).beq k0 then aay e kk b fun s=>
   .xA (s.xs.length≤xs.length) inferInstance (k [.r r (some { R with k:=.sl e kk,x:=s.xs++xs.drop s.xs.length,w:=e :: R.w }), .s d (.one (.val (.int .i64) (s.xs.length:Int) []))])
  else .fail
 | _=>.fail
abbrev QO (e:TypeId) (kk:K):K:=.st (.pair kk (.pair (.sl e (.gap kk.size)) .unit))
def RJ:List Stp→List Int
 | []=>[]
 | .gL _ :: p=>RJ p
 | .idx i :: p=>i :: RJ p
def wS:List Stp→List Stp→Bool
 | [],[]=>true
 | .gL n :: p, .gL m :: q=>Nat.beq n m && wS p q
 | .idx _ :: p, .idx _ :: q=>wS p q
 | _,_=>false
def ad3 (T:ji) (d:Nat) (t:TypeId) (a b:AV) (k:List Wr→Prog α):Prog α:=match T.ty t,a,b with
 | some (.sl e kk), .xy r p h, .ref rb gb=>sI rb fun B=>bif Nat.beq B.g gb && !B.fixed && !Nat.beq r rb && p.all Stp.qW && !ay qK (K.sl e kk).tys && (K.sl e kk).tys.all (fun t=>ay t B.own) then
   match bP B.k (.sl e kk) B.x with
   | some ys=>sI r fun R=>bif Nat.beq R.yO h && !R.fixed && (K.sl e kk).tys.all (fun t=>ay t R.own) && R.tags.all (fun t=>!Nat.beq t.1 rb) then
     match aT p R.k R.x with
     | some dd=>match bP dd.1 (.sl e kk) dd.2 with
      | some xs=>match eF p R.k R.x dd with
       | some z=>.xA ((show List (El kk) from ys).length=1∧((show List (El kk) from xs).length+1) * T.bytes e≤140737488355328) inferInstance (jY (bE d 0)
         (k [.r rb none, .r r (some { R with k:=z.1,x:=z.2,w:=e :: R.w,h:=(K.sl e kk).tys++R.h }), .r (bE d 0) (some (aP (QO e kk) ((show List (El kk) from ys).getD 0 kk.zero,(([]:List Unit),())) (e :: kk.tys) [] .anon)),
          .s d (.one (.app r p (gG (e :: R.w)+gG ((K.sl e kk).tys++R.h)) (bE d 0)))]))
       | none=>.fail
      | none=>.fail
     | none=>.fail
    else .fail
   | none=>.fail
  else .fail
 | _,_,_=>.fail
def Hu (k0:K) (a:AV) (r:Nat) (p:List Stp) (n q:Nat) (k:List Wr→Prog α):Prog α:=match k0,a with
 | .sl e kk, .ptr r' p' h=>bif Nat.beq r r' && wS p p' && p.all Stp.qW && !Nat.beq r q then sI q fun Q=>bif Nat.beq Q.yO 0 && (e :: kk.tys).all (fun t=>ay t Q.own) then
    match bP Q.k (QO e kk) Q.x with
    | some y=>sI r fun R=>bif Nat.beq R.yO n && !R.fixed && clean R.h h (eD p' R.k) && (K.sl e kk).tys.all (fun t=>ay t R.own) && R.tags.all (fun t=>!Nat.beq t.1 q) then
      match aT p R.k R.x with
      | some dd=>match bP dd.1 (.sl e kk) dd.2 with
       | some xs=>match eF p R.k R.x ⟨.sl e kk,(show List (El kk) from xs)++[(show El kk from y.1)]⟩ with
        | some z=>k [.r q none, .r r (some { R with k:=z.1,x:=z.2,w:=eU R p :: e :: R.w,h:=(K.sl e kk).tys++R.h })]
        | none=>.fail
       | none=>.fail
      | none=>.fail
     else .fail
    | none=>.fail
   else .fail
  else .fail
 | _,_=>.fail
def Hz (k0:K) (a:AV) (r:Nat) (p:List Stp) (n m:Nat) (k:List Wr→Prog α):Prog α:=match k0,a with
 | .sl e kk, .ptr r' p' h=>bif Nat.beq r r' && wS p p' then .xA (RJ p=RJ p') inferInstance (sI r fun R=>bif Nat.beq R.yO n && !R.fixed && clean R.h h (eD p' R.k) && (K.sl e kk).tys.all (fun t=>ay t R.own) then
      match aT p R.k R.x with
      | some dd=>match bP dd.1 (.sl e kk) dd.2 with
       | some xs=>match eF p R.k R.x ⟨.sl e kk,(show List (El kk) from xs).take m⟩ with
        | some z=>k [.r r (some { R with k:=z.1,x:=z.2,w:=eU R p :: (K.sl e kk).tys++R.w,h:=(K.sl e kk).tys++R.h })]
        | none=>.fail
       | none=>.fail
      | none=>.fail
     else .fail)
  else .fail
 | _,_=>.fail
end
end
section
open Go
def Cont.fst:(ks ls:List K)→Cont (ks++ls)→Cont ks
 | [],_,_=>()
 | _ :: ks,ls,c=>(c.1,Cont.fst ks ls c.2)
def Cont.snd:(ks ls:List K)→Cont (ks++ls)→Cont ls
 | [],_,c=>c
 | _ :: ks,ls,c=>Cont.snd ks ls c.2
abbrev SENT:Nat:=4294967295
structure cB where
 ids:List Tag
 wb:Option (Nat×List Stp×List TypeId×List TypeId)
 ws:List Wr
 bt:List TypeId:=[]
def idxOf:(p:List (Option Nat))→List Stp→Option (Cont (cZ.into 0 p).kin)
 | [],[]=>some ()
 | some n :: p, .gL m :: q=>bif Nat.beq n m then idxOf p q else none
 | none :: p, .idx i :: q=>match idxOf p q with
  | some c=>some (i,c)
  | none=>none
 | _,_=>none
def pathOf:(p:List (Option Nat))→Cont (cZ.into 0 p).kin→List Stp
 | [],_=>[]
 | some n :: p,c=>.gL n :: pathOf p c
 | none :: p,c=>.idx c.1 :: pathOf p c.2
section
variable {α:Type}
def pF (k:K) (own ow:List TypeId):Bool:=k.tys.all fun t=>ay t own == ay t ow
def Vi:(ks:List K)→List (TypeId×Dat×List Tag)→(Cont ks→List Tag→Prog α)→Prog α
 | [],[],k=>k () []
 | kk :: ks,(t,d,tags) :: l,k=>oH tags (t :: d.1.tys) (match bP d.1 kk d.2 with
  | some x=>Vi ks l fun c ts=>k (x,c) (iP tags ts)
  | none=>.fail)
 | _,_,_=>.fail
def jS:(ps:List cZ)→List AV→(Cont (kin ps)→List cB→Prog α)→Prog α
 | [],[],k=>k () []
 | .val kk _ :: ps,a :: l,k=>
  let go (x:El kk) (tags:List Tag):Prog α:=jS ps l fun c is=>k (x,c) (⟨tags,none,[],[]⟩ :: is)
  match a with
  | .iQ=>match kk,go with
   | .sl _ _,go=>go [] []
   | _,_=>.fail
  | a=>vB a fun k' x tags=>match bP k' kk x with
   | some y=>go y (bif kk.flat then [] else tags)
   | none=>.fail
 | .ro kk :: ps,a :: l,k=>
  let go (d:Dat) (tags:List Tag):Prog α:=match bP d.1 kk d.2 with
   | some y=>jS ps l fun c is=>k (y,c) (⟨tags,none,[],[]⟩ :: is)
   | none=>.fail
  addrOf a (fun R r _ d=>go d ((r,gG R.w) :: R.tags)) (fun _ d tags=>go d tags)
 | .rw kk ow wt ht :: ps,a :: l,k=>match a with
  | .ptr r p h=>sI r fun R=>bif clean R.h h (eD p R.k) && J3 p R then
    match aT p R.k R.x with
    | some d=>match bP d.1 kk d.2 with
     | some y=>bif pF kk R.own ow then jS ps l fun c is=>k (y,c) (⟨R.tags,some (r,p,wt,ht),[],[eU R p]⟩ :: is) else .fail
     | none=>.fail
    | none=>.fail
   else .fail
  | _=>.fail
 | .jl kk ow wt :: ps,a :: l,k=>
  let go (R:Root) (r:Nat) (p:List Stp) (d:Dat):Prog α:=match bP d.1 kk d.2 with
   | some y=>bif pF kk R.own ow then jS ps l fun c is=>k (y,c) (⟨R.tags,some (r,p,wt,kk.tys),[],[]⟩ :: is) else .fail
   | none=>.fail
  match a with
  | .xy r p h=>sI r fun R=>bif Nat.beq R.yO h then
    match aT p R.k R.x with
    | some d=>go R r p d
    | none=>.fail
   else .fail
  | .ref r g=>sI r fun R=>bif Nat.beq R.g g then go R r [] ⟨R.k,R.x⟩ else .fail
  | _=>.fail
 | .own kk ow :: ps,a :: l,k=>CQ kk a fun tk=>match bP tk.k kk tk.x with
  | some y=>bif pF kk tk.own ow then jS ps l fun c is=>k (y,c) (⟨tk.tags,none,tk.ws,[]⟩ :: is) else .fail
  | none=>.fail
 | .fn f ks :: ps,a :: l,k=>match a with
  | .fn f' caps=>bif Nat.beq f f' then Vi ks caps fun c tags=>jS ps l fun c' is=>k (Cont.app ks (kin ps) c c') (⟨tags,none,[],[]⟩ :: is) else .fail
  | _=>.fail
 | .into _ [] :: ps,a :: l,k=>match a with
  | .iQ=>jS ps l fun c is=>k c (⟨[],none,[],[]⟩ :: is)
  | _=>.fail
 | _,_,_=>.fail
def cB.touched (i:cB):List Nat:=(match i.wb with | some (r,_)=>[r] | none=>[])++i.ws.flatMap Wr.uF
def FU:List cB→Bool
 | []=>true
 | i :: l=>match i.wb with
  | some _=>l.all fun j=>j.wb.isNone
  | none=>FU l
def Be (r:Nat):List cB→Nat→Option Nat
 | [],_=>none
 | i :: is,n=>match i.wb with
  | some (r',_)=>bif Nat.beq r r' then some n else Be r is (n+1)
  | none=>Be r is (n+1)
def yC (is:List cB):List cZ→List cB→Bool
 | .val k iB :: ps,i :: l=>(iB.all fun j=>match is[j]? with | some q=>q.wb.isSome | none=>false) && i.ids.all (fun t=>match Be t.1 is 0 with
   | some n=>ay n iB && (match is[n]? with
     | some j=>j.bt.all fun b=>!ay b k.tys
     | none=>false)
   | none=>!ay t.1 (is.flatMap fun j=>j.ws.flatMap Wr.uF)) && yC is ps l
 | _ :: ps,i :: l=>i.ids.all (fun t=>!ay t.1 (is.flatMap cB.touched)) && yC is ps l
 | [],[]=>true
 | _,_=>false
def KO:(ps:List cZ)→List cB→Cont (jL ps)→(List Wr→Prog α)→Prog α
 | [],[],_,k=>k []
 | .rw kk _ _ _ :: ps,⟨_,some (r,p,wt,ht),_,_⟩ :: is,c,k=>.root r fun
  | some R=>match eF p R.k R.x ⟨kk,c.1⟩ with
   | some z=>KO ps is c.2 fun ws=>k (.r r (some { R with k:=z.1,x:=z.2,w:=(eU R p :: wt)++R.w,h:=ht++R.h }) :: ws)
   | none=>.fail
  | none=>.fail
 | .jl kk _ _ :: ps,⟨_,some (r,p,wt,ht),_,_⟩ :: is,c,k=>.root r fun
  | some R=>match eF p R.k R.x ⟨kk,c.1⟩ with
   | some z=>KO ps is c.2 fun ws=>k (.r r (some { R with k:=z.1,x:=z.2,w:=(SENT :: (kk.tys++wt))++R.w,h:=ht++R.h }) :: ws)
   | none=>.fail
  | none=>.fail
 | .val _ _ :: ps,_ :: is,c,k | .ro _ :: ps,_ :: is,c,k | .own _ _ :: ps,_ :: is,c,k | .fn _ _ :: ps,_ :: is,c,k | .into _ _ :: ps,_ :: is,c,k=>KO ps is c k
 | _,_,_,_=>.fail
def R9 (ws:List Wr):List Nat→(List Tag→Prog α)→Prog α
 | [],k=>k []
 | r :: l,k=>bif fP r then R9 ws l fun ts=>k ((r,0) :: ts) else
  match ws.find? (fun w=>w.loc.beq (.r r)) with
  | some (.r _ (some R))=>R9 ws l fun ts=>k ((r,gG R.w) :: ts)
  | some _=>.fail
  | none=>.root r fun
   | some R=>R9 ws l fun ts=>k ((r,gG R.w) :: ts)
   | none=>.fail
def FH (is:List cB) (exts iB:List Nat):List Nat:=
 exts.flatMap (fun j=>match is[j]? with | some i=>i.ids.map (·.1) | none=>[])++
 iB.flatMap (fun j=>match is[j]? with
  | some i=>match i.wb with
   | some q=>[q.1]
   | none=>[]
  | none=>[])
def yH:List Nat→List Nat
 | []=>[]
 | n :: l=>bif ay n l then yH l else n :: yH l
def zP (d:Nat) (is:List cB) (ws:List Wr):(rs:List jy)→(c:Nat)→Cont (ig rs)→(List AV→List Wr→Prog α)→Prog α
 | [],_,_,k=>k [] []
 | .val kk exts iB :: rs,c,x,k=>R9 ws (bif kk.flat then [] else yH (FH is exts iB)) fun tags=>
   zP d is ws rs (c+1) x.2 fun as ws'=>k (.val kk x.1 tags :: as) ws'
 | .own kk ow exts iB :: rs,c,x,k=>R9 ws (bif kk.tys.all (fun t=>ay t ow) then [] else yH (FH is exts iB)) fun tags=>
   jY (bE d c) (zP d is ws rs (c+1) x.2 fun as ws'=>k (.ref (bE d c) 0 :: as) (.r (bE d c) (some (aP kk x.1 ow tags .anon)) :: ws'))
 | .ptr t kk ow exts :: rs,c,x,k=>R9 ws (bif kk.tys.all (fun t=>ay t ow) then [] else yH (FH is exts [])) fun tags=>
   jY (bE d c) (zP d is ws rs (c+1) x.2 fun as ws'=>k (.ptr (bE d c) [] 0 :: as) (.r (bE d c) (some (aP kk x.1 ow tags (.var t))) :: ws'))
 | .into j p :: rs,c,x,k=>bif Nat.beq c 0 && p.isEmpty && rs.isEmpty then match is[j]? with
   | some i=>match i.wb with
    | some (r,q,_,ht)=>match ws.find? (fun w=>w.loc.beq (.r r)) with
     | some (.r _ (some R))=>bif ay qK ht then .fail else k [.yL r q (gG R.w+gG R.h) (show Int from x.1).toNat] []
     | _=>.fail
    | none=>.fail
   | none=>.fail
  else .fail
def Yx:List AV→yQ
 | [a]=>.one a
 | l=>.J7 l
def YD (n:Nat) (E:Entry) (dst:Option Nat) (NJ:List AV) (k:List Wr→Prog α):Prog α:=
 jS E.ps NJ fun c is=>bif Ht (is.flatMap cB.touched) && FU is && yC is E.ps is then
  .opt _ (E.F n c) fun out=>KO E.ps is (Cont.snd (ig E.rs) (jL E.ps) out) fun ws=>
   match dst with
   | some d=>zP d is ws E.rs 0 (Cont.fst (ig E.rs) (jL E.ps) out) fun as ws'=>k (is.flatMap cB.ws++ws++ws'++[.s d (Yx as)])
   | none=>k (is.flatMap cB.ws++ws)
 else .fail
def uK (f d:Nat):List (Nat×Option Nat×Entry)→Option Entry
 | []=>none
 | (g,none,E) :: l=>bif Nat.beq f g then some E else uK f d l
 | (g,some e,E) :: l=>bif Nat.beq f g && Nat.beq d e then some E else uK f d l
def Xz (mx:Bool):IntKind→Int→List AV→(Int→Prog α)→Prog α
 | _,x,[],k=>k x
 | ik,x, .val (.int jk) y _ :: l,k=>bif Bc ik jk then Xz mx ik (if mx then (if y>x then y else x) else (if y<x then y else x)) l k else .fail
 | _,_,_,_=>.fail
def YF (T:ji) (d:Nat) (src dst:TypeId) (a:AV) (k:List Wr→Prog α):Prog α:=match T.ty src,T.ty dst with
 | some _,some (.int ik)=>match a with
  | .val (.int _) n _=>k [.s d (v1 (.int ik) (ik.wrap n))]
  | _=>.fail
 | some .str,some .str=>match a with
  | .val .str s _=>k [.s d (v1 .str s)]
  | _=>.fail
 | some (.sl _ (.int .u8)),some .str=>match a with
  | .iQ=>k [.s d (v1 .str [])]
  | a=>vB a fun kk x _=>match kk,x with
   | .sl _ (.int .u8),xs=>k [.s d (v1 .str xs)]
   | _,_=>.fail
 | some .str,some (.sl e (.int .u8))=>match a with
  | .val .str s _=>jY (bE d 0) (k [.r (bE d 0) (some (aP (.sl e (.int .u8)) s [e] [] .anon)), .s d (.one (.ref (bE d 0) 0))])
  | _=>.fail
 | _,_=>.fail
def Wq:List AV→(List (TypeId×Dat×List Tag)→Prog α)→Prog α
 | [],k=>k []
 | a :: l,k=>addrOf a
   (fun R r p d=>bif Nat.beq (eU R p) SENT then .fail else Wq l fun cs=>k ((eU R p,d,(r,gG R.w) :: R.tags) :: cs))
   (fun bt d tags=>Wq l fun cs=>k ((bt,d,tags) :: cs))
def UK (k0:K) (a:AV) (lo hi:Option Int) (k:AV→Prog α):Prog α:=match a with
 | .val .str s _=>bif !k0.beq .str then .fail else
  let n:=(show List Int from s).length
  match lo,hi with
  | none,none=>k (.val .str s [])
  | some l,none=>.xA (0≤l∧l≤(n:Int)) inferInstance (k (.val .str ((show List Int from s).drop l.toNat) []))
  | none,some h=>.xA (0≤h∧h≤(n:Int)) inferInstance (k (.val .str ((show List Int from s).take h.toNat) []))
  | some l,some h=>.xA (0≤l∧l≤h∧h≤(n:Int)) inferInstance (k (.val .str (((show List Int from s).take h.toNat).drop l.toNat) []))
 | a=>vB a fun kk x tags=>match kk,x with
  | .sl e kk,xs=>bif !k0.beq (.sl e kk) then .fail else
   let xs:=(show List (El kk) from xs)
   match lo,hi with
   | none,none=>k (.val (.sl e kk) xs tags)
   | some l,none=>.xA (0≤l∧l≤(xs.length:Int)) inferInstance (k (.val (.sl e kk) (xs.drop l.toNat) tags))
   | none,some h=>.xA (0≤h∧h≤(xs.length:Int)) inferInstance (k (.val (.sl e kk) (xs.take h.toNat) tags))
   | some l,some h=>.xA (0≤l∧l≤h∧h≤(xs.length:Int)) inferInstance (k (.val (.sl e kk) ((xs.take h.toNat).drop l.toNat) tags))
  | _,_=>.fail
def Jz (x:Option Operand) (k:Option Int→Prog α):Prog α:=match x with
 | none=>k none
 | some y=>dN y fun a=>asInt a fun _ i=>k (some i)
def isZero:Option Operand→Bool
 | some (.const (.int _ 0))=>true
 | _=>false
def Vh (hi:Hint) (n:Nat) (dst:Option Nat) (c:Call) (k:List Wr→Prog α):Prog α:=match c.callee with
 | .value f=>dN f fun
  | .fn f caps=>jR c.args.toList fun l=>match uK f (dst.getD 0) hi.calls with
   | some E=>bif Nat.beq E.f f then YD n E dst (l++caps.map fun (t,dd,tags)=>.je t dd.1 dd.2 tags) k else .fail
   | none=>.fail
  | _=>.fail
 | _=>.fail
def wK (d:Nat):List (Nat×List TypeId)→List TypeId
 | []=>[]
 | (e,l) :: m=>bif Nat.beq d e then l else wK d m
def VB (hi:Hint) (d:Nat) (k:K):List TypeId:=match wK d hi.less with
 | []=>k.tys
 | l=>bJ k.tys l
def MN (T:ji) (o:Oper) (d:Nat) (k:List Wr→Prog α):Prog α:=match o.op with
 | .slice t x lo hi mx=>match T.ty t with
  | some kk=>dN x fun a=>Jz lo fun lo=>Jz hi fun hi=>Jz mx fun mx=>VK kk a lo hi mx fun u=>k [.s d (.one u)]
  | none=>.fail
 | .call c=>match c.callee with
  | .builtin .len=>jR c.args.toList fun
   | [.part _ _ lo hi _]=>match (c.argTypes[0]?).bind T.ty with
    | some (.sl _ _)=>k [.s d (.one (.val (.int .i64) ((hi - lo:Nat):Int) []))]
    | _=>.fail
   | _=>.fail
  | .builtin .append=>jR c.args.toList fun
   | [a,b]=>match (c.argTypes[0]?).bind T.ty,(c.argTypes[1]?).bind T.ty with
    | some (.sl e0 k0),some (.sl _ _)=>TN (.sl e0 k0) d a b k
    | _,_=>.fail
   | _=>.fail
  | .builtin .copy=>jR c.args.toList fun
   | [a,b]=>match (c.argTypes[0]?).bind T.ty,(c.argTypes[1]?).bind T.ty with
    | some (.sl e0 k0),some (.sl _ _)=>YG (.sl e0 k0) d a b k
    | _,_=>.fail
   | _=>.fail
  | _=>.fail
 | _=>.fail
def Qj (T:ji) (o:Oper) (d:Nat) (k:List Wr→Prog α):Prog α:=match o.op with
 | .call c=>match c.callee with
  | .builtin .append=>jR c.args.toList fun
   | [a,b]=>match c.argTypes[0]?,(c.argTypes[1]?).bind T.ty with
    | some t,some (.sl _ _)=>ad3 T d t a b k
    | _,_=>.fail
   | _=>.fail
  | _=>.fail
 | .load t x=>dN x fun a=>FO T true t a fun u=>match T.ty t with
  | some kk=>CQ kk u fun tk=>jY (bE d 0) (k (tk.ws++[Wr.r (bE d 0) (some (aP tk.k tk.x tk.own tk.jV .anon tk.keep)),Wr.s d (.one (.ref (bE d 0) 0))]))
  | none=>.fail
 | _=>.fail
def UO (T:ji) (t:TypeId) (a v:AV) (k:List Wr→Prog α):Prog α:=match v with
 | .yL r p n m=>match T.ty t with
  | some k0=>Hz k0 a r p n m k
  | none=>.fail
 | .app r p n q=>match T.ty t with
  | some k0=>Hu k0 a r p n q k
  | none=>.fail
 | v=>UN T t a v k
def adg (T:ji) (hi:Hint) (n:Nat) (o:Oper) (k:List Wr→Prog α):Prog α:=match o.op with
 | .store t x v=>dN x fun a=>dN v fun v=>UO T t a v k
 | .call c=>match c.callee with
  | .builtin .clear=>jR c.args.toList fun
   | [a]=>match (c.argTypes[0]?).bind T.ty with
    | some (.sl e0 k0)=>TM (.sl e0 k0) a k
    | _=>.fail
   | _=>.fail
  | _=>Vh hi n none c k
 | _=>.fail
def adf (T:ji) (hi:Hint) (n:Nat) (o:Oper) (d:Nat) (k:List Wr→Prog α):Prog α:=
 let put (a:AV):Prog α:=k [.s d (.one a)]
 match o.op with
 | .move x=>u6 x fun a=>k [.s d a]
 | .assign x=>u6 x fun
  | .one .iQ=>match T.ty o.type with
   | some (.sl e kk)=>.root (bE d 0) fun
    | none=>k [.r (bE d 0) (some (aP (.sl e kk) [] (e :: VB hi d kk) [] .anon)), .s d (.one (.ref (bE d 0) 0))]
    | some _=>k [.s d (.one .iQ)]
   | _=>.fail
  | a=>k [.s d a]
 | .pick c a b=>dN c fun c=>asBool c fun c=>u6 a fun a=>u6 b fun b=>.br c (k [.s d a]) (k [.s d b])
 | .alloc t=>match T.ty t with
  | some kk=>jY (bE d 0) (k [.r (bE d 0) (some (aP kk kk.zero kk.tys [] (.var t))), .s d (.one (.ptr (bE d 0) [] 0))])
  | none=>.fail
 | .box t x=>match T.ty t with
  | some kk=>dN x fun a=>abm a kk (fun r g=>put (.K5 r g kk [])) <| CQ kk a fun tk=>bif tk.k.beq kk && !ay t tk.bad then
    jY (bE d 0) (k (tk.ws++[.r (bE d 0) (some (aP tk.k tk.x tk.own tk.jV (.var t) tk.keep)), .s d (.one (.ptr (bE d 0) [] 0))]))
   else .fail
  | none=>.fail
 | .load t x=>dN x fun a=>FO T (ay d hi.alp) t a put
 | .nilCheck x=>dN x fun
  | .ptr r p h=>put (.ptr r p h)
  | .je bt kk y tags=>put (.je bt kk y tags)
  | _=>.fail
 | .binOp op t x y _=>TA T t op x y fun v=>k [.s d v]
 | .unOp op _ x=>dN x fun a=>unP op a fun v=>k [.s d v]
 | .convert s t x=>dN x fun a=>YF T d s t a k
 | .field t x f=>match T.ty t with
  | some kk=>dN x fun a=>Lm kk a f put
  | none=>.fail
 | .fieldAddr t x f=>match T.ty t with
  | some kk=>dN x fun a=>wJ kk a f put
  | none=>.fail
 | .indexAddr t x i=>match T.ty t with
  | some kk=>dN x fun a=>dN i fun i=>asInt i fun _ i=>wM kk a i put
  | none=>.fail
 | .index t x i=>dN x fun a=>dN i fun i=>asInt i fun _ i=>match T.ty t,a with
  | some .str, .val .str s _=>.xA (aH i (show List Int from s).length) inferInstance (put (.val (.int .u8) ((show List Int from s).getD i.toNat 0) []))
  | _,_=>.fail
 | .extract x i=>u6 x fun
  | .J7 l=>match l[i]? with
   | some a=>put a
   | none=>.fail
  | _=>.fail
 | .build t ps=>match T.ty t with
  | some (.st c)=>Lh ps.toList fun l=>KT l ⟨.st c,(K.st c).zero,[],[],[],false,[]⟩ fun b=>bif !NC b.ws b.all then .fail else bif b.k.tys.all fun t=>ay t b.bad then
    k (b.ws++[.s d (.one (.val b.k b.x b.tags))])
   else jY (bE d 0) (k (b.ws++[.r (bE d 0) (some (aP b.k b.x (bJ b.k.tys b.bad) b.tags .anon b.keep)), .s d (.one (.ref (bE d 0) 0))]))
  | _=>.fail
 | .buildSlice t len ps=>match T.ty t with
  | some (.sl e kk)=>Lh ps.toList fun l=>Ld kk l ⟨[],[],[],[],false,[]⟩ fun b=>bif !(NC b.ws b.all && Nat.ble (len * kk.size) 16777216) then .fail else bif Nat.beq (gG b.xs) len && !ay e b.bad then
    jY (bE d 0) (k (b.ws++[.r (bE d 0) (some (aP (.sl e kk) b.xs (e :: bJ (VB hi d kk) b.bad) b.tags .anon b.keep)), .s d (.one (.ref (bE d 0) 0))]))
   else bif Nat.beq (gG b.xs) 0 then
    jY (bE d 0) (k [.r (bE d 0) (some (aP (.sl e kk) (List.replicate len kk.zero) (e :: kk.tys) [] .anon)), .s d (.one (.ref (bE d 0) 0))])
   else .fail
  | _=>.fail
 | .makeSlice t x y=>match T.ty t with
  | some (.sl e kk)=>dN x fun a=>dN y fun b=>asInt a fun ik i=>asInt b fun jk j=>bif Bc ik .i64 && Bc jk .i64 then
    .xA (i=j∧0≤i∧i * T.bytes e≤140737488355328) inferInstance (jY (bE d 0)
     (k [.r (bE d 0) (some (aP (.sl e kk) (List.replicate i.toNat kk.zero) (e :: kk.tys) [] .anon)), .s d (.one (.ref (bE d 0) 0))]))
   else .fail
  | _=>.fail
 | .makeFunc (.func f) first caps=>bif first.isEmpty then jR caps.toList fun l=>Wq l fun cs=>put (.fn f cs) else .fail
 | .slice t x lo hi mx=>match T.ty t with
  | some kk=>bif isZero lo && isZero hi && isZero mx then match kk with
    | .sl _ _=>dN x fun
     | .iQ=>put .iQ
     | a=>vB a fun k' _ _=>bif k'.beq kk then put .iQ else .fail
    | _=>.fail
   else match mx with
    | none=>dN x fun a=>Jz lo fun lo=>Jz hi fun hi=>UK kk a lo hi put
    | some _=>.fail
  | none=>.fail
 | .call c=>match c.callee with
  | .builtin .len=>jR c.args.toList fun
   | [.iQ]=>match (c.argTypes[0]?).bind T.ty with
    | some (.sl _ _)=>put (.val (.int .i64) 0 [])
    | _=>.fail
   | [.val .str s _]=>match (c.argTypes[0]?).bind T.ty with
    | some .str=>put (.val (.int .i64) ((show List Int from s).length:Int) [])
    | _=>.fail
   | [a]=>match (c.argTypes[0]?).bind T.ty with
    | some (.sl _ _)=>vB a fun kk x _=>match kk,x with
     | .sl _ kk,xs=>put (.val (.int .i64) ((show List (El kk) from xs).length:Int) [])
     | _,_=>.fail
    | _=>.fail
   | _=>.fail
  | .builtin .append=>jR c.args.toList fun
   | [a,b]=>match c.argTypes[0]?,(c.argTypes[1]?).bind T.ty with
    | some t,some (.sl _ _)=>CX T d t a b k
    | some t,some .str=>CX T d t a b k
    | _,_=>.fail
   | _=>.fail
  | .builtin .min=>jR c.args.toList fun
   | .val (.int ik) x _ :: l=>Xz false ik x l fun z=>put (.val (.int ik) z [])
   | _=>.fail
  | .builtin .max=>jR c.args.toList fun
   | .val (.int ik) x _ :: l=>Xz true ik x l fun z=>put (.val (.int ik) z [])
   | _=>.fail
  | .value _=>Vh hi n (some d) c k
  | _=>.fail
 | _=>.fail
def I9 (T:ji) (hi:Hint) (n:Nat) (o:Oper) (k:List Wr→Prog α):Prog α:=match o.dst with
 | some d=>bif Nat.blt d hi.nt then (bif ay d hi.parts then MN T o d k else bif ay d hi.apps then Qj T o d k else adf T hi n o d k) else .fail
 | none=>adg T hi n o k
end
variable {R:Type}
def refine (σ:St) (s:Nat) (b:Bool) (T:List Tag):St:={ σ with slots:=upd σ.slots s (.one (.val .bool b T)) }
def guardOf (ops:Array Oper) (o:Oper):Option (Option Nat×Bool):=match o.guard with
 | none=>none
 | some (g,want)=>some ((ops[g]?).bind (·.dst),want)
def guarded (σ:St) (ops:Array Oper) (o:Oper) (go:List Loc→St→Option R) (skip:List Loc→St→Option R):Option R:=match guardOf ops o with
 | none=>go [] σ
 | some (some s,want)=>match σ.slots s with
  | .one (.val .bool b T)=>if b=true then (bif want then go [.s s] (refine σ s true T) else skip [.s s] (refine σ s true T))
    else (bif want then skip [.s s] (refine σ s false T) else go [.s s] (refine σ s false T))
  | .J7 []=>skip [.s s] σ
  | _=>none
 | some (none,_)=>none
def La (hi:Hint) (o:Oper):Bool:=match o.dst with
 | some d=>Nat.blt d hi.nt
 | none=>true
def I8 (o:Oper):List Wr:=match o.dst with
 | some d=>[.s d (.J7 [])]
 | none=>[]
def Fz (T:ji) (hi:Hint) (n:Nat) (ops:Array Oper):List Oper→St→(St→Option R)→Option R
 | [],σ,K=>K σ
 | o :: l,σ,K=>guarded σ ops o
   (fun _ σ=>(I9 T hi n o .ret).run σ fun ws=>Fz T hi n ops l (aC ws σ) K)
   (fun _ σ=>bif La hi o then Fz T hi n ops l (aC (I8 o) σ) K else none)
structure Eff where
 i:Nat
 rd:List Loc
 wr:List Loc
def Xx (x:Loc):List Loc→Bool
 | []=>false
 | y :: l=>bif x.beq y then true else Xx x l
def Pd (a b:List Loc):Bool:=a.all fun x=>!Xx x b
def binders (ops:Array Oper) (i:Nat):List Nat:=((((ops[i]?).getD default).after.toList.filter (Region.binds .any)).map (·.on))
def leads (ops:Array Oper):Nat→Nat→Nat→Bool
 | 0,_,_=>false
 | f+1,j,i=>ay j (binders ops i) || (binders ops i).any fun b=>Nat.blt j b && leads ops f j b
def IQ (ops:Array Oper) (e:Eff) (l:List Eff):Bool:=
 (binders ops e.i).all (fun b=>Nat.blt b e.i) && l.all fun b=>ay b.i (binders ops e.i) || ((Pd b.wr (e.rd++e.wr) && Pd b.rd e.wr) || leads ops 6 b.i e.i)
def Li (T:ji) (hi:Hint) (n:Nat) (ops:Array Oper):List Oper→Nat→List Eff→St→(St→Option R)→Option R
 | [],_,_,σ,K=>K σ
 | o :: l,i,es,σ,K=>guarded σ ops o
   (fun g σ=>(I9 T hi n o .ret).JQ σ g fun ws rd=>
    bif IQ ops ⟨i,rd,ws.map Wr.loc⟩ es then Li T hi n ops l (i+1) (⟨i,rd,ws.map Wr.loc⟩ :: es) (aC ws σ) K else none)
   (fun g σ=>bif La hi o && IQ ops ⟨i,g,(I8 o).map Wr.loc⟩ es then Li T hi n ops l (i+1) (⟨i,g,(I8 o).map Wr.loc⟩ :: es) (aC (I8 o) σ) K else none)
inductive Qp where
 | undef
 | val (k:K) (ids:List Nat)
 | iQ
 | ref (r:Nat)
 | ptr (r:Nat) (p:List (Option Nat))
 | je (bt:TypeId) (k:K) (ids:List Nat)
 | sG
 | fn (f:Nat) (caps:List (TypeId×K×List Nat))
def TF:List (TypeId×K×List Nat)→List K
 | []=>[]
 | c :: l=>c.2.1 :: TF l
def Qp.ks:Qp→List K
 | .val k _ | .je _ k _=>[k]
 | .ptr _ p=>(cZ.into 0 p).kin
 | .fn _ caps=>TF caps
 | _=>[]
structure QG where
 k:K
 own:List TypeId
 ids:List Nat
 kind:IK
 fixed:Bool
 keep:Bool
 log:Option (K×List TypeId×List TypeId)
def bg (σ:St) (tys:List TypeId):List Tag→Bool
 | []=>true
 | (r,n) :: l=>(bif fP r then true else match σ.roots r with
  | some R=>!R.aX && clean R.w n tys
  | none=>false) && bg σ tys l
def pq (rs:List Nat):List Tag→List Nat
 | []=>[]
 | (r,_) :: l=>bif (fP r || ay r rs) && !ay r (pq rs l) then r :: pq rs l else pq rs l
def shP:List Stp→List (Option Nat)
 | []=>[]
 | .gL n :: p=>some n :: shP p
 | .idx _ :: p=>none :: shP p
def ML (rs:List Nat):List (TypeId×Dat×List Tag)→List (TypeId×K×List Nat)
 | []=>[]
 | (t,d,tags) :: l=>(t,d.1,pq rs tags) :: ML rs l
def YQ (rs ex:List Nat):List Nat:=ex.filter fun i=>fP i || ay i rs
def shA (rs ex:List Nat):AV→Qp
 | .undef=>.undef
 | .val k _ tags=>.val k (pq rs tags++YQ rs ex)
 | .iQ=>.iQ
 | .ref r _=>.ref r
 | .xy _ _ _=>.undef
 | .ptr r p _=>.ptr r (shP p)
 | .je bt k _ tags=>.je bt k (pq rs tags)
 | .sG=>.sG
 | .K5 _ _ _ _=>.undef
 | .Bz _=>.undef
 | .part _ _ _ _ _=>.undef
 | .yL _ _ _ _=>.undef
 | .app _ _ _ _=>.undef
 | .fn f caps=>.fn f (ML rs caps)
def NS (t:TypeId) (ids:List Nat):Bool:=!Nat.beq t SENT || ids.all fP
def Aq (σ:St) (rs:List Nat):(cs:List (TypeId×K×List Nat))→List (TypeId×Dat×List Tag)→Option (Cont (TF cs))
 | [],[]=>some ()
 | (t,k,ids) :: cs,(t',d,tags) :: l=>bif Nat.beq t t' && bg σ (t :: k.tys) tags && nJ (pq rs tags) ids && NS t ids then
   match bP d.1 k d.2,Aq σ rs cs l with
   | some x,some c=>some (x,c)
   | _,_=>none
  else none
 | _,_=>none
def Wx (σ:St) (rs:List Nat):(sh:Qp)→AV→Option (Cont sh.ks)
 | .undef,_=>some ()
 | .val k ids, .val k' x tags=>bif bg σ k.tys tags && nJ (pq rs tags) ids then
   match bP k' k x with
   | some y=>some (y,())
   | none=>none
  else none
 | .iQ, .iQ=>some ()
 | .ref r, .ref r' g=>bif Nat.beq r r' && ay r rs && (match σ.roots r with | some R=>Nat.beq R.g g | none=>false) then some () else none
 | .ptr r p, .ptr r' q h=>bif Nat.beq r r' && ay r rs && (match σ.roots r with | some R=>clean R.h h (eD q R.k) | none=>false) then idxOf p q else none
 | .je bt k ids, .je bt' k' x tags=>bif Nat.beq bt bt' && bg σ (bt :: k.tys) tags && nJ (pq rs tags) ids && NS bt ids then
   match bP k' k x with
   | some y=>some (y,())
   | none=>none
  else none
 | .sG, .sG=>some ()
 | .fn f cs, .fn f' caps=>bif Nat.beq f f' then Aq σ rs cs caps else none
 | _,_=>none
def Mg:(cs:List (TypeId×K×List Nat))→Cont (TF cs)→List (TypeId×Dat×List Tag)
 | [],_=>[]
 | (t,k,ids) :: cs,c=>(t,⟨k,c.1⟩,ids.map fun r=>(r,0)) :: Mg cs c.2
def mkA:(sh:Qp)→Cont sh.ks→AV
 | .undef,_=>.undef
 | .val k ids,c=>.val k c.1 (ids.map fun r=>(r,0))
 | .iQ,_=>.iQ
 | .ref r,_=>.ref r 0
 | .ptr r p,c=>.ptr r (pathOf p c) 0
 | .je bt k ids,c=>.je bt k c.1 (ids.map fun r=>(r,0))
 | .sG,_=>.sG
 | .fn f cs,c=>.fn f (Mg cs c)
def shS (wd:List (Nat×List Nat)) (rs:List Nat) (σ:St):List Nat→List (Nat×Qp)
 | []=>[]
 | s :: l=>(match σ.slots s with
  | .one a=>(s,shA rs (wK (2 * s) wd) a)
  | .J7 _=>(s, .undef)) :: shS wd rs σ l
def Xm:List (Nat×Qp)→List K
 | []=>[]
 | (_,sh) :: l=>sh.ks++Xm l
def jc (r:Nat):List (Nat×K×List TypeId×List TypeId)→Option (K×List TypeId×List TypeId)
 | []=>none
 | (q,l) :: ls=>bif Nat.beq r q then some l else jc r ls
def shR (wd:List (Nat×List Nat)) (jd:List (Nat×K×List TypeId×List TypeId)) (rs:List Nat) (σ:St):List Nat→Option (List (Nat×QG))
 | []=>some []
 | r :: l=>match σ.roots r,shR wd jd rs σ l with
  | some R,some q=>some ((r,⟨R.k,R.own,pq rs R.tags++(YQ rs (wK (2 * r+1) wd)).filter (fun q=>!Nat.beq q r),R.kind,R.fixed,R.keep,jc r jd⟩) :: q)
  | _,_=>none
def ksR:List (Nat×QG)→List K
 | []=>[]
 | (_,sh) :: l=>sh.k :: ksR l
def ctS (σ:St) (rs:List Nat):(l:List (Nat×Qp))→Option (Cont (Xm l))
 | []=>some ()
 | (s,sh) :: l=>match σ.slots s with
  | .one a=>match Wx σ rs sh a,ctS σ rs l with
   | some c,some d=>some (Cont.app sh.ks (Xm l) c d)
   | _,_=>none
  | .J7 _=>match sh with
   | .undef=>match ctS σ rs l with
    | some d=>some d
    | none=>none
   | _=>none
def aap:IK→IK→Bool
 | .anon, .anon | .par, .par | .dead, .dead=>true
 | .var a, .var b=>Nat.beq a b
 | _,_=>false
def DJ (R:Root):Option (List TypeId×List TypeId)→Bool
 | some (wt,ht)=>nJ R.w wt && nJ R.ew wt && nJ R.h ht && nJ R.eh ht && Nat.beq R.g 0
 | none=>true
def aeV (R:Root):Option (K×List TypeId×List TypeId)→Bool
 | some (k,l)=>R.k.beq k && DJ R (some l)
 | none=>true
def wR (R:Root) (l:List TypeId):Root:={ R with own:=bJ R.own l,w:=l++R.w }
def ZW (l:List TypeId) (r:Nat) (σ:St):St:=match l with
 | []=>σ
 | l=>match σ.roots r with
  | some R=>bif R.aX || !bg σ R.Dw R.tags || !R.own.any (fun t=>ay t l) then σ else { σ with roots:=upd σ.roots r (some (wR R l)) }
  | none=>σ
def Eg (hi:Hint):List Nat→St→St
 | [],σ=>σ
 | r :: rs,σ=>Eg hi rs (ZW (wK (1000000+r) hi.less) r σ)
def ctR (σ:St) (rs:List Nat):(l:List (Nat×QG))→Option (Cont (ksR l))
 | []=>some ()
 | (r,sh) :: l=>match σ.roots r with
  | some R=>bif bg σ R.Dw R.tags && nJ (pq rs R.tags) sh.ids && pF sh.k R.own sh.own && aap R.kind sh.kind && (R.fixed == sh.fixed) && (R.keep == sh.keep) && !R.aX && aeV R sh.log then
    match bP R.k sh.k R.x,ctR σ rs l with
    | some x,some d=>some (x,d)
    | _,_=>none
   else none
  | none=>none
def mkS:(l:List (Nat×Qp))→Cont (Xm l)→Nat→yQ
 | [],_,_=>.one .undef
 | (s,sh) :: l,c,n=>bif Nat.beq n s then .one (mkA sh (Cont.fst sh.ks (Xm l) c)) else mkS l (Cont.snd sh.ks (Xm l) c) n
def ail:Option (K×List TypeId×List TypeId)→List TypeId
 | some (_,l,_)=>l
 | none=>[]
def aik:Option (K×List TypeId×List TypeId)→List TypeId
 | some (_,_,l)=>l
 | none=>[]
def mkR:(l:List (Nat×QG))→Cont (ksR l)→Nat→Option Root
 | [],_,_=>none
 | (r,sh) :: l,c,n=>bif Nat.beq n r then some { k:=sh.k,x:=c.1,own:=sh.own,tags:=sh.ids.map fun r=>(r,0),w:=[],h:=[],g:=0,kind:=sh.kind,fixed:=sh.fixed,keep:=sh.keep,ew:=ail sh.log,eh:=aik sh.log } else mkR l c.2 n
structure PSt where
 ss:List (Nat×Qp)
 rs:List (Nat×QG)
abbrev PSt.V (s:PSt):Type:=Cont (Xm s.ss++ksR s.rs)
def ae4 (wd:List (Nat×List Nat)) (jd:List (Nat×K×List TypeId×List TypeId)) (ss rs:List Nat) (σ:St):Option PSt:=match shR wd jd rs σ rs with
 | some q=>bif jd.all (fun p=>ay p.1 rs) then some ⟨shS wd rs σ ss,q⟩ else none
 | none=>none
def Wy (rs:List Nat) (s:PSt) (σ:St):Option s.V:=match ctS σ rs s.ss,ctR σ rs s.rs with
 | some a,some b=>some (Cont.app (Xm s.ss) (ksR s.rs) a b)
 | _,_=>none
def P6 (s:PSt) (c:s.V):St:=⟨mkS s.ss (Cont.fst _ _ c),mkR s.rs (Cont.snd _ _ c)⟩
inductive Ex where
 | normal
 | exit (id:Nat)
 | ret
def rounds {V:Type} (B:(V→Option R)→V→Option R):Nat→V→Option R
 | 0=>fun _=>none
 | n+1=>B (rounds B n)
def Rn (b:Nat):List (Nat×List Nat×List Nat)→Option (List Nat×List Nat)
 | []=>none
 | (c,h) :: l=>bif Nat.beq b c then some h else Rn b l
def I4 {A:Type} (f:A→A→Bool):List A→List A→Bool
 | [],[]=>true
 | a :: l,b :: m=>f a b && I4 f l m
 | _,_=>false
def Fx:(k:K)→El k→El k→Bool
 | .int _,x,y=>decide ((show Int from x)=y)
 | .bool,x,y=>(show Bool from x) == y
 | .str,x,y=>decide ((show List Int from x)=y)
 | .sl _ k,xs,ys=>I4 (Fx k) xs ys
 | .unit,_,_=>true
 | .pair a b,x,y=>Fx a x.1 y.1 && Fx b x.2 y.2
 | .st f,x,y=>Fx f x y
 | .gap _,_,_=>true
 | .id _,x,y=>Nat.beq x y
def Ap:(ks:List K)→Cont ks→Cont ks→Bool
 | [],_,_=>true
 | k :: ks,c,d=>Fx k c.1 d.1 && Ap ks c.2 d.2
def agC (ks:List K):Option (Cont ks)→Option (Cont ks)→Option (Cont ks)
 | some a,some b=>bif Ap ks a b then some a else none
 | _,_=>none
theorem RX {A:Type} {f:A→A→Bool} (hf:∀x y,f x y=true→x=y):∀{l m:List A},I4 f l m=true→l=m
 | [],[],_=>rfl
 | a :: l,b :: m,h=>by
  simp only [I4,apj] at h
  rw [hf a b h.1,RX hf h.2]
 | [],_ :: _,h=>by simp [I4] at h
 | _ :: _,[],h=>by simp [I4] at h
theorem Md {A:Type} {f:A→A→Bool} (hf:∀x,f x x=true):∀{l:List A},I4 f l l=true
 | []=>rfl
 | a :: l=>by simp [I4,hf a,Md hf]
theorem YO:∀{k:K} {x y:El k},Fx k x y=true→x=y:=by
 intro k
 induction k with
 | int ik=>intro x y h; exact of_decide_eq_true h
 | bool=>intro x y h; exact eq_of_beq h
 | str=>intro x y h; exact of_decide_eq_true h
 | sl e k ih=>intro x y h; exact RX (fun x y h=>ih h) h
 | unit=>intro x y _; rfl
 | pair a b iha ihb=>
  intro x y h
  simp only [Fx,apj] at h
  exact Prod.ext (iha h.1) (ihb h.2)
 | st f ih=>intro x y h; exact ih (x:=x) (y:=y) h
 | gap n=>intro x y _; rfl
 | id e=>intro x y h; exact aph h
theorem TZ:∀{k:K} {x:El k},Fx k x x=true:=by
 intro k
 induction k with
 | int ik=>intro x; exact decide_eq_true rfl
 | bool=>intro x; exact beq_self_eq_true (α:=Bool) x
 | str=>intro x; exact decide_eq_true rfl
 | sl e k ih=>intro x; exact Md fun x=>ih
 | unit=>intro x; rfl
 | pair a b iha ihb=>intro x; simp [Fx,iha,ihb]
 | st f ih=>intro x; exact ih (x:=x)
 | gap n=>intro x; rfl
 | id e=>intro x; exact Nat.beq_refl x
theorem K4:∀{ks:List K} {c d:Cont ks},Ap ks c d=true→c=d
 | [],_,_,_=>rfl
 | k :: ks,c,d,h=>by
  simp only [Ap,apj] at h
  exact Prod.ext (YO h.1) (K4 h.2)
theorem Fw:∀{ks:List K} {c:Cont ks},Ap ks c c=true
 | [],_=>rfl
 | k :: ks,c=>by simp [Ap,TZ,Fw]
theorem Yt {ks:List K} (a:Option (Cont ks)):agC ks a a=a:=by
 cases a with
 | none=>rfl
 | some a=>simp [agC,Fw]
theorem Yu {ks:List K} {a b:Option (Cont ks)} {z:Cont ks} (h:agC ks a b=some z):a=some z∧b=some z:=by
 cases a with
 | none=>simp [agC] at h
 | some a=>
  cases b with
  | none=>simp [agC] at h
  | some b=>
   simp only [agC] at h
   cases hb:Ap ks a b with
   | false=>rw [hb] at h; simp at h
   | true=>
    rw [hb] at h
    simp only [cond_true,apd] at h
    have:=K4 hb
    subst h
    exact ⟨rfl,by rw [this]⟩
def den (T:ji) (hi:Hint) (n:Nat) (ag:Option R→Option R→Option R):Nat→Code→St→(Ex→St→Option R)→Option R
 | _, .skip,σ,K=>K .normal σ
 | _, .region _ ops draw,σ,K=>bif draw then Li T hi n ops ops.toList 0 [] σ (K .normal) else Fz T hi n ops ops.toList σ (K .normal)
 | b, .seq x y,σ,K=>den T hi n ag b x σ fun
  | .normal,σ'=>den T hi n ag b y σ' K
  | e,σ'=>K e σ'
 | b, .cond c x y,σ,K=>(dN c fun a=>.ret a).run σ fun
  | .Bz e=>if e=true then ag (den T hi n ag b x σ K) (den T hi n ag b y σ K) else den T hi n ag b y σ K
  | a=>(asBool a .ret).run σ fun t=>if t=true then den T hi n ag b x σ K else den T hi n ag b y σ K
 | _, .block id x,σ,K=>den T hi n ag id x σ fun
  | .exit i,σ'=>bif Nat.beq i id then K .normal σ' else K (.exit i) σ'
  | e,σ'=>K e σ'
 | b, .loop x,σ,K=>match Rn b hi.loops with
  | some (ss,rs)=>match ae4 hi.wide hi.jd ss rs (Eg hi rs σ) with
   | some s=>match Wy rs s (Eg hi rs σ) with
    | some c=>rounds (fun L v=>den T hi n ag b x (P6 s v) fun
     | .normal,σ'=>match Wy rs s (Eg hi rs σ') with
      | some v'=>L v'
      | none=>none
     | e,σ'=>K e σ') n c
    | none=>none
   | none=>none
  | none=>none
 | _, .exit id,σ,K=>K (.exit id) σ
 | _, .ret,σ,K=>K .ret σ
 | _,_,_,_=>none
def eT:(ps:List cZ)→(i:Nat)→Cont (kin ps)→List (Nat×AV)
 | [],_,_=>[]
 | .val k iB :: ps,i,c=>(i, .val k c.1 (bif k.flat then [] else (qp i,0) :: iB.map fun j=>(au j,0))) :: eT ps (i+1) c.2
 | .ro k :: ps,i,c=>(i, .je SENT k c.1 [(qp i,0)]) :: eT ps (i+1) c.2
 | .rw _ _ _ _ :: ps,i,c=>(i, .ptr (au i) [] 0) :: eT ps (i+1) c.2
 | .jl _ _ _ :: ps,i,c=>(i, .ref (au i) 0) :: eT ps (i+1) c.2
 | .own _ _ :: ps,i,c=>(i, .ref (au i) 0) :: eT ps (i+1) c.2
 | .fn f ks :: ps,i,c=>(i, .fn f (Aj i ks (Cont.fst ks (kin ps) c))) :: eT ps (i+1) (Cont.snd ks (kin ps) c)
 | .into _ p :: ps,i,c=>(i, .iQ) :: eT ps (i+1) (Cont.snd (cZ.into 0 p).kin (kin ps) c)
where Aj (i:Nat):(ks:List K)→Cont ks→List (TypeId×Dat×List Tag)
 | [],_=>[]
 | k :: ks,c=>(SENT,⟨k,c.1⟩,[(qp i,0)]) :: Aj i ks c.2
def gD:(ps:List cZ)→(i:Nat)→Cont (kin ps)→List (Nat×Root)
 | [],_,_=>[]
 | .val _ _ :: ps,i,c=>gD ps (i+1) c.2
 | .ro _ :: ps,i,c=>gD ps (i+1) c.2
 | .rw k ow _ _ :: ps,i,c=>(au i,aP k c.1 ow (bif k.tys.all (fun t=>ay t ow) then [] else [(qp i,0)]) .par true) :: gD ps (i+1) c.2
 | .jl k ow _ :: ps,i,c=>(au i,{ aP k c.1 ow (bif k.tys.all (fun t=>ay t ow) then [] else [(qp i,0)]) .anon true with fixed:=true }) :: gD ps (i+1) c.2
 | .own k ow :: ps,i,c=>(au i,aP k c.1 ow (bif k.tys.all (fun t=>ay t ow) then [] else [(qp i,0)]) .anon) :: gD ps (i+1) c.2
 | .fn _ ks :: ps,i,c=>gD ps (i+1) (Cont.snd ks (kin ps) c)
 | .into _ p :: ps,i,c=>gD ps (i+1) (Cont.snd (cZ.into 0 p).kin (kin ps) c)
def iG:List (Nat×AV)→Nat→yQ
 | [],_=>.one .undef
 | (s,a) :: l,n=>bif Nat.beq n s then .one a else iG l n
def gH:List (Nat×Root)→Nat→Option Root
 | [],_=>none
 | (s,a) :: l,n=>bif Nat.beq n s then some a else gH l n
def bS (ps:List cZ) (c:Cont (kin ps)):St:=⟨iG (eT ps 0 c),gH (gD ps 0 c)⟩
def qN (exts iB:List Nat) (tags:List Tag):Bool:=tags.all fun t=>
 bif fP t.1 then ay (t.1 / 4) exts else bif Nat.beq (t.1 % 4) 0 then ay (t.1 / 4) iB else true
def UG {α:Type} (T:ji) (own:Bool) (rv:ResultVar) (k:AV→Prog α):Prog α:=match rv with
 | .tmp t=>dN (.tmp t) k
 | .cell t ty=>dN (.tmp t) fun a=>FO T own ty a k
def Rm {α:Type} (T:ji):(rs:List jy)→List ResultVar→(Cont (ig rs)→List iL→List (List Tag)→Prog α)→Prog α
 | [],[],k=>k () [] []
 | .val kk exts iB :: rs,v :: vs,k=>
  let go (x:El kk) (tags:List Tag):Prog α:=bif kk.flat || qN exts iB tags then Rm T rs vs fun c ts tg=>k (x,c) ts (tags :: tg) else .fail
  UG T false v fun a=>match a with
  | .iQ=>match kk,go with
   | .sl _ _,go=>go [] []
   | _,_=>.fail
  | a=>vB a fun k' x tags=>match bP k' kk x with
   | some y=>go y (bif kk.flat then [] else tags)
   | none=>.fail
 | .own kk ow exts iB :: rs,v :: vs,k=>UG T true v fun a=>CQ kk a fun tk=>match bP tk.k kk tk.x with
  | some y=>bif nJ (kk.tys.filter fun t=>ay t ow) tk.own && (kk.tys.all (fun t=>ay t ow) || qN exts iB tk.tags) then Rm T rs vs fun c ts tg=>k (y,c) (tk :: ts) tg else .fail
  | none=>.fail
 | _,_,_=>.fail
def JX (σ:St) (i:Nat):Option Root:=match σ.roots (au i) with
 | some R=>bif R.aX || !bg σ R.Dw R.tags then none else some R
 | none=>none
def mF (σ:St):(ps:List cZ)→Nat→Option (Cont (jL ps))
 | [],_=>some ()
 | .rw k ow wt ht :: ps,i=>match JX σ i,mF σ ps (i+1) with
  | some R,some d=>bif pF k R.own ow && DJ R (some (wt,ht)) && (k.tys.all (fun t=>ay t ow) || qN [i] [] R.tags) then
    match bP R.k k R.x with
    | some x=>some (x,d)
    | none=>none
   else none
  | _,_=>none
 | .jl k ow wt :: ps,i=>match JX σ i,mF σ ps (i+1) with
  | some R,some d=>bif pF k R.own ow && DJ R (some (wt,k.tys)) && (k.tys.all (fun t=>ay t ow) || qN [i] [] R.tags) then
    match bP R.k k R.x with
    | some x=>some (x,d)
    | none=>none
   else none
  | _,_=>none
 | .val _ _ :: ps,i=>mF σ ps (i+1)
 | .ro _ :: ps,i=>mF σ ps (i+1)
 | .own _ _ :: ps,i=>mF σ ps (i+1)
 | .fn _ _ :: ps,i=>mF σ ps (i+1)
 | .into _ _ :: ps,i=>mF σ ps (i+1)
def fin (T:ji) (ps:List cZ) (rs:List jy) (rv:List ResultVar) (σ:St):Option (Cont (ig rs++jL ps)):=
 (Rm T rs rv fun c ts tg=>bif NC (ts.flatMap (·.ws)) (ts.flatMap (·.tags)++tg.flatten) then .ret (c,ts.flatMap (·.ws)) else .fail:Prog (Cont (ig rs)×List Wr)).run σ fun q=>
  match mF (aC q.2 σ) ps 0 with
  | some d=>some (Cont.app (ig rs) (jL ps) q.1 d)
  | none=>none
def Root.ZG (R:Root) (t:TypeId):Bool:=match R.kind with
 | .var u=>Nat.beq t u
 | _=>false
def abY {α:Type} (t:TypeId) (kk:K) (ow:List TypeId) (exts:List Nat) (a:AV) (k:El kk→Nat→Prog α):Prog α:=match a with
 | .ptr r [] _=>sI r fun R=>bif R.ZG t && nJ (kk.tys.filter fun t=>ay t ow) R.own && (kk.tys.all (fun t=>ay t ow) || qN exts [] R.tags) then
   match bP R.k kk R.x with
   | some y=>k y r
   | none=>.fail
  else .fail
 | _=>.fail
def cutV {α:Type} (j:Nat) (a:AV) (k:Int→Prog α):Prog α:=match a with
 | .ref r g=>bif Nat.beq r (au j) && Nat.beq g 0 then sI r fun R=>bif Nat.beq R.g 0 then match R.k,R.x with
   | .sl _ kk,xs=>k ((show List (El kk) from xs).length:Int)
   | _,_=>.fail
  else .fail
  else .fail
 | .part r g lo hi _=>bif Nat.beq r (au j) && Nat.beq g 0 && Nat.beq lo 0 then k (hi:Int) else .fail
 | _=>.fail
def abw (T:ji) (ps:List cZ):(rs:List jy)→List ResultVar→St→Option (Cont (ig rs++jL ps))
 | [.ptr t kk ow exts],[rv],σ=>(UG T false rv fun a=>abY t kk ow exts a fun y r=>.ret (y,r):Prog (El kk×Nat)).run σ fun q=>
   match mF (aC [.r q.2 none] σ) ps 0 with
   | some d=>some (q.1,d)
   | none=>none
 | [.into j []],[rv],σ=>(UG T false rv fun a=>cutV j a fun m=>.ret m:Prog Int).run σ fun m=>
   match mF σ ps 0 with
   | some d=>some (m,d)
   | none=>none
 | rs,yx,σ=>fin T ps rs yx σ
def wW:List cZ→Nat→List (Nat×K×List TypeId×List TypeId)
 | [],_=>[]
 | .rw k _ wt ht :: ps,i=>(au i,k,wt,ht) :: wW ps (i+1)
 | .jl k _ wt :: ps,i=>(au i,k,wt,k.tys) :: wW ps (i+1)
 | _ :: ps,i=>wW ps (i+1)
def abp (T:ji) (hi:Hint) (fn:Func) (ps:List cZ) (rs:List jy) (n:Nat) (c:Cont (kin ps)):Option (Cont (ig rs++jL ps)):=
 match fn.body with
 | some code=>den T { hi with nt:=fn.ntmps,jd:=wW ps 0 } n (agC (ig rs++jL ps)) 0 code (bS ps c) fun
  | .ret,σ=>abw T ps rs fn.results.toList σ
  | .normal,σ=>abw T ps rs fn.results.toList σ
  | _,_=>none
 | none=>none
end
section
open Go
class Fr where
 free:Nat→Prop
 obj:Nat→Option Obj
 iN:Nat→Value
 aeP:iN 0=.slice none 0 0
 aih:∀i,∃a n c,iN i=.slice a n c
abbrev amH:Fr:=⟨fun _=>False,fun _=>none,fun _=>.slice none 0 0,rfl,fun _=>⟨none,0,0,rfl⟩⟩
variable [Fr]
abbrev Heap:=Nat→Option Obj
def hp (w:World):Heap:=fun b=>w.heap[b]?
def cellAt (h:Heap) (b o:Nat):Option Value:=match h b with
 | some (.cells c _ _)=>c[o]?
 | _=>none
def q8 (h:Heap) (b:Nat):Option TypeId:=match h b with
 | some (.cells _ e _)=>some e
 | _=>none
def Cells (h:Heap) (b o:Nat) (cs:List Value):Prop:=∀i,i<cs.length→cellAt h b (o+i)=cs[i]?
theorem Al (w:World) (b o:Nat):w.cell? ⟨b,o,none⟩=cellAt (hp w) b o:=by
 unfold World.cell? cellAt hp
 cases w.heap[b]? with
 | none=>rfl
 | some x=>cases x <;> rfl
theorem vO {h h':Heap} {b:Nat} (e:h' b=h b) (o:Nat):cellAt h' b o=cellAt h b o:=by unfold cellAt; rw [e]
def wH (h:Heap) (b:Nat) (e:TypeId):Prop:=q8 h b=some e∨Fr.free b
theorem Lc {h h':Heap} {b:Nat} (e:h' b=h b):q8 h' b=q8 h b:=by unfold q8; rw [e]
theorem Lb {h h':Heap} {b:Nat} {t:TypeId} (e:h' b=h b) (H:wH h b t):wH h' b t:=H.imp (fun H=>(Lc e).trans H) id
theorem Cells.congr {h h':Heap} {b o:Nat} {cs:List Value} (e:h' b=h b) (H:Cells h b o cs):Cells h' b o cs:=fun i hi=>(vO e _).trans (H i hi)
def JB:IntKind→Int→Prop
 | .u8,n=>0≤n∧n<256
 | _,_=>True
def Vw (h:Heap) (ok:Nat→Prop):(k:K)→El k→List Value→Prop
 | .int ik,n,cs=>cs=[.int ik n]∧JB ik n
 | .bool,b,cs=>cs=[.bool b]
 | .str,s,cs=>∃B:ByteArray,cs=[.string B]∧(show List Int from s)=bytesOf B
 | .sl e k,xs,cs=>∃a n c,cs=[.slice a n c]∧n=(show List (El k) from xs).length∧n≤c∧
   (0<n→∃b o,a=some ⟨b,o,none⟩∧ok b∧wH h b e∧
    ∀(i:Nat) (hi:i<(show List (El k) from xs).length),∃ds,Cells h b (o+i * k.size) ds∧Vw h ok k ((show List (El k) from xs)[i]) ds)
 | .unit,_,cs=>cs=[]
 | .pair a b,x,cs=>∃c1 c2,cs=c1++c2∧Vw h ok a x.1 c1∧Vw h ok b x.2 c2
 | .st f,x,cs=>Vw h ok f x cs
 | .gap n,_,cs=>cs.length=n
 | .id _,i,cs=>cs=[Fr.iN (show Nat from i)]
def Ow (h:Heap) (own:List TypeId) (ok:Nat→Prop):(k:K)→El k→List Value→List Nat→Prop
 | .sl e k,xs,cs,fo=>if ay e own=true then
   ∃a n c,cs=[.slice a n c]∧n=(show List (El k) from xs).length∧n≤c∧
    ((c=0∧fo=[])∨∃b o arr lo hi,a=some ⟨b,o,none⟩∧h b=some (.cells arr e (lo,hi))∧(∀i,i<arr.size→¬(lo≤i∧i<hi))∧o+c * k.size≤arr.size∧
     ∃bz:List (List Nat),bz.length=(show List (El k) from xs).length∧fo.Perm (b :: bz.flatten)∧
      ∀(i:Nat) (hi:i<(show List (El k) from xs).length),∃ds,Cells h b (o+i * k.size) ds∧Ow h own ok k ((show List (El k) from xs)[i]) ds (bz.getD i []))
  else fo=[]∧Vw h ok (.sl e k) xs cs
 | .pair a b,x,cs,fo=>∃c1 c2 f1 f2,cs=c1++c2∧fo.Perm (f1++f2)∧Ow h own ok a x.1 c1 f1∧Ow h own ok b x.2 c2 f2
 | .st f,x,cs,fo=>Ow h own ok f x cs fo
 | .int ik,n,cs,fo=>fo=[]∧Vw h ok (.int ik) n cs
 | .bool,n,cs,fo=>fo=[]∧Vw h ok .bool n cs
 | .str,n,cs,fo=>fo=[]∧Vw h ok .str n cs
 | .unit,_,cs,fo=>fo=[]∧cs=[]
 | .gap n,_,cs,fo=>fo=[]∧cs.length=n
 | .id e,i,cs,fo=>fo=[]∧Vw h ok (.id e) i cs
theorem mD {h:Heap} {ok:Nat→Prop}:∀{k:K} {x:El k} {cs:List Value},Vw h ok k x cs→cs.length=k.size:=by
 intro k
 induction k with
 | int ik=>intro x cs H; rw [H.1]; rfl
 | bool=>intro x cs H; rw [show cs=_ from H]; rfl
 | id e=>intro x cs H; rw [show cs=_ from H]; rfl
 | str=>intro x cs H; obtain ⟨B,rfl,_⟩:=H; rfl
 | sl e k ih=>intro x cs H; obtain ⟨a,n,c,rfl,_⟩:=H; rfl
 | unit=>intro x cs H; rw [show cs=_ from H]; rfl
 | pair a b iha ihb=>intro x cs H; obtain ⟨c1,c2,rfl,h1,h2⟩:=H; simp [K.size,iha h1,ihb h2]
 | st f ih=>intro x cs H; exact ih (x:=x) H
 | gap n=>intro x cs H; exact H
theorem fT {h h':Heap} {ok ok':Nat→Prop} (hh:∀b,ok b→h' b=h b) (hk:∀b,ok b→ok' b):∀{k:K} {x:El k} {cs:List Value},Vw h ok k x cs→Vw h' ok' k x cs:=by
 intro k
 induction k with
 | int ik=>intro x cs H; exact H
 | bool=>intro x cs H; exact H
 | id e=>intro x cs H; exact H
 | str=>intro x cs H; exact H
 | sl e k ih=>
  intro x cs H
  obtain ⟨a,n,c,e1,e2,e3,H⟩:=H
  refine ⟨a,n,c,e1,e2,e3,fun hn=>?_⟩
  obtain ⟨b,o,ea,hb,ht,H⟩:=H hn
  refine ⟨b,o,ea,hk b hb,Lb (hh b hb) ht,fun i hi=>?_⟩
  obtain ⟨ds,h1,h2⟩:=H i hi
  exact ⟨ds,h1.congr (hh b hb),ih h2⟩
 | unit=>intro x cs H; exact H
 | pair a b iha ihb=>intro x cs H; obtain ⟨c1,c2,e,h1,h2⟩:=H; exact ⟨c1,c2,e,iha h1,ihb h2⟩
 | st f ih=>intro x cs H; exact ih (x:=x) H
 | gap n=>intro x cs H; exact H
theorem iA {h h':Heap} {ok ok':Nat→Prop}:∀{k:K} {x:El k} {cs:List Value},k.flat=true→Vw h ok k x cs→Vw h' ok' k x cs:=by
 intro k
 induction k with
 | sl e k ih=>intro x cs h; simp [K.flat] at h
 | gap n=>intro x cs h; simp [K.flat] at h
 | pair a b iha ihb=>
  intro x cs h H
  simp only [K.flat,apj] at h
  obtain ⟨c1,c2,e,h1,h2⟩:=H
  exact ⟨c1,c2,e,iha h.1 h1,ihb h.2 h2⟩
 | st f ih=>intro x cs h H; exact ih (x:=x) h H
 | _=>intro x cs _ H; exact H
theorem KG {h:Heap} {ok:Nat→Prop}:∀{k:K} {x:El k} {cs:List Value} (ts:List TypeId),(∀t∈k.tys,t∈ts)→Vw h ok k x cs→Vw h (fun b=>ok b∧∃t∈ts,wH h b t) k x cs:=by
 intro k
 induction k with
 | int ik=>intro x cs ts _ H; exact H
 | bool=>intro x cs ts _ H; exact H
 | id e=>intro x cs ts _ H; exact H
 | str=>intro x cs ts _ H; exact H
 | sl e k ih=>
  intro x cs ts hts H
  obtain ⟨a,n,c,e1,e2,e3,H⟩:=H
  refine ⟨a,n,c,e1,e2,e3,fun hn=>?_⟩
  obtain ⟨b,o,ea,hb,ht,H⟩:=H hn
  refine ⟨b,o,ea,⟨hb,e,hts e (by simp [K.tys]),ht⟩,ht,fun i hi=>?_⟩
  obtain ⟨ds,h1,h2⟩:=H i hi
  exact ⟨ds,h1,ih ts (fun t h=>hts t (by simp [K.tys,h])) h2⟩
 | unit=>intro x cs ts _ H; exact H
 | pair a b iha ihb=>
  intro x cs ts hts H
  obtain ⟨c1,c2,e,h1,h2⟩:=H
  exact ⟨c1,c2,e,iha ts (fun t h=>hts t (by simp [K.tys,h])) h1,ihb ts (fun t h=>hts t (by simp [K.tys,h])) h2⟩
 | st f ih=>intro x cs ts hts H; exact ih (x:=x) ts hts H
 | gap n=>intro x cs ts _ H; exact H
theorem dn {h:Heap} {own:List TypeId} {ok:Nat→Prop}:∀{k:K} {x:El k} {cs:List Value} {fo:List Nat},Ow h own ok k x cs fo→cs.length=k.size:=by
 intro k
 induction k with
 | int ik=>intro x cs fo H; exact mD H.2
 | bool=>intro x cs fo H; exact mD H.2
 | id e=>intro x cs fo H; exact mD H.2
 | str=>intro x cs fo H; exact mD H.2
 | sl e k ih=>
  intro x cs fo H
  unfold Ow at H
  split at H
  ·obtain ⟨a,n,c,rfl,_⟩:=H; rfl
  ·exact mD H.2
 | unit=>intro x cs fo H; rw [H.2]; rfl
 | pair a b iha ihb=>intro x cs fo H; obtain ⟨c1,c2,f1,f2,rfl,_,h1,h2⟩:=H; simp [K.size,iha h1,ihb h2]
 | st f ih=>intro x cs fo H; exact ih (x:=x) H
 | gap n=>intro x cs fo H; exact H.2
theorem sF {bz:List (List Nat)} {i:Nat} {b:Nat} (h:b∈bz.getD i []):b∈bz.flatten:=by
 rw [apr] at h
 cases hi:bz[i]? with
 | none=>rw [hi] at h; simp at h
 | some l=>rw [hi] at h; exact List.mem_flatten.2 ⟨l,List.mem_of_getElem? hi,by simpa using h⟩
theorem bC {h h':Heap} {own:List TypeId} {ok ok':Nat→Prop} (hh:∀b,ok b→h' b=h b) (hk:∀b,ok b→ok' b) :
  ∀{k:K} {x:El k} {cs:List Value} {fo:List Nat},(∀b∈fo,h' b=h b)→Ow h own ok k x cs fo→Ow h' own ok' k x cs fo:=by
 intro k
 induction k with
 | int ik=>intro x cs fo _ H; exact ⟨H.1,fT hh hk H.2⟩
 | bool=>intro x cs fo _ H; exact ⟨H.1,fT hh hk H.2⟩
 | id e=>intro x cs fo _ H; exact ⟨H.1,fT hh hk H.2⟩
 | str=>intro x cs fo _ H; exact ⟨H.1,fT hh hk H.2⟩
 | sl e k ih=>
  intro x cs fo hfo H
  unfold Ow at H ⊢
  split
  ·rename_i hm
   rw [if_pos hm] at H
   obtain ⟨a,n,c,e1,e2,e3,H⟩:=H
   refine ⟨a,n,c,e1,e2,e3, ?_⟩
   rcases H with H | ⟨b,o,arr,lo,hi,ea,hb,hf,hs,bz,hl,hp,H⟩
   ·exact .inl H
   ·have hbb:h' b=h b:=hfo b (hp.mem_iff.2 (by simp))
    refine .inr ⟨b,o,arr,lo,hi,ea,hbb.trans hb,hf,hs,bz,hl,hp,fun i hi=>?_⟩
    obtain ⟨ds,h1,h2⟩:=H i hi
    exact ⟨ds,h1.congr hbb,ih (fun b' hb'=>hfo b' (hp.mem_iff.2 (by simp [sF hb']))) h2⟩
  ·rename_i hm
   rw [if_neg hm] at H
   exact ⟨H.1,fT hh hk H.2⟩
 | unit=>intro x cs fo _ H; exact H
 | pair a b iha ihb=>
  intro x cs fo hfo H
  obtain ⟨c1,c2,f1,f2,e,hp,h1,h2⟩:=H
  exact ⟨c1,c2,f1,f2,e,hp,iha (fun b hb=>hfo b (hp.mem_iff.2 (by simp [hb]))) h1,ihb (fun b hb=>hfo b (hp.mem_iff.2 (by simp [hb]))) h2⟩
 | st f ih=>intro x cs fo hfo H; exact ih (x:=x) hfo H
 | gap n=>intro x cs fo _ H; exact H
theorem tq {h:Heap} {own:List TypeId} {ok:Nat→Prop}:∀{k:K} {x:El k} {cs:List Value} {fo:List Nat} (ts:List TypeId),(∀t∈aU own k,t∈ts)→Ow h own ok k x cs fo→Ow h own (fun b=>ok b∧∃t∈ts,wH h b t) k x cs fo:=by
 intro k
 induction k with
 | int ik=>intro x cs fo ts _ H; exact H
 | bool=>intro x cs fo ts _ H; exact H
 | id e=>intro x cs fo ts _ H; exact H
 | str=>intro x cs fo ts _ H; exact H
 | sl e k ih=>
  intro x cs fo ts hts H
  unfold Ow at H ⊢
  split
  ·rename_i hm
   rw [if_pos hm] at H
   obtain ⟨a,n,c,e1,e2,e3,H⟩:=H
   refine ⟨a,n,c,e1,e2,e3, ?_⟩
   rcases H with H | ⟨b,o,arr,lo,hi,ea,hb,hf,hs,bz,hl,hp,H⟩
   ·exact .inl H
   ·refine .inr ⟨b,o,arr,lo,hi,ea,hb,hf,hs,bz,hl,hp,fun i hi=>?_⟩
    obtain ⟨ds,h1,h2⟩:=H i hi
    exact ⟨ds,h1,ih ts (fun t ht=>hts t (by simp [aU,hm,ht])) h2⟩
  ·rename_i hm
   rw [if_neg hm] at H
   exact ⟨H.1,KG ts (fun t ht=>hts t (by simpa [aU,hm,K.tys] using ht)) H.2⟩
 | unit=>intro x cs fo ts _ H; exact H
 | pair a b iha ihb=>
  intro x cs fo ts hts H
  obtain ⟨c1,c2,f1,f2,e,hp,h1,h2⟩:=H
  exact ⟨c1,c2,f1,f2,e,hp,iha ts (fun t h=>hts t (by simp [aU,h])) h1,ihb ts (fun t h=>hts t (by simp [aU,h])) h2⟩
 | st f ih=>intro x cs fo ts hts H; exact ih (x:=x) ts hts H
 | gap n=>intro x cs fo ts _ H; exact H
theorem lu {h:Heap} {own:List TypeId} {ok:Nat→Prop} (ok':Nat→Prop) (hk:∀b,ok b→ok' b) :
  ∀{k:K} {x:El k} {cs:List Value} {fo:List Nat},(∀b∈fo,ok' b)→Ow h own ok k x cs fo→Vw h ok' k x cs:=by
 intro k
 induction k with
 | int ik=>intro x cs fo _ H; exact fT (fun _ _=>rfl) hk H.2
 | bool=>intro x cs fo _ H; exact fT (fun _ _=>rfl) hk H.2
 | id e=>intro x cs fo _ H; exact fT (fun _ _=>rfl) hk H.2
 | str=>intro x cs fo _ H; exact fT (fun _ _=>rfl) hk H.2
 | sl e k ih=>
  intro x cs fo hfo H
  unfold Ow at H
  split at H
  ·obtain ⟨a,n,c,e1,e2,e3,H⟩:=H
   refine ⟨a,n,c,e1,e2,e3,fun hn=>?_⟩
   rcases H with H | ⟨b,o,arr,lo,hi,ea,hb,hf,hs,bz,hl,hp,H⟩
   ·omega
   ·refine ⟨b,o,ea,hfo b (hp.mem_iff.2 (by simp)),by refine .inl ?_; unfold q8; rw [hb],fun i hi=>?_⟩
    obtain ⟨ds,h1,h2⟩:=H i hi
    exact ⟨ds,h1,ih (fun b' hb'=>hfo b' (hp.mem_iff.2 (by simp [sF hb']))) h2⟩
  ·exact fT (fun _ _=>rfl) hk H.2
 | unit=>intro x cs fo _ H; exact H.2
 | pair a b iha ihb=>
  intro x cs fo hfo H
  obtain ⟨c1,c2,f1,f2,e,hp,h1,h2⟩:=H
  exact ⟨c1,c2,e,iha (fun b hb=>hfo b (hp.mem_iff.2 (by simp [hb]))) h1,ihb (fun b hb=>hfo b (hp.mem_iff.2 (by simp [hb]))) h2⟩
 | st f ih=>intro x cs fo hfo H; exact ih (x:=x) hfo H
 | gap n=>intro x cs fo _ H; exact H.2
theorem vM {h:Heap} {own own':List TypeId} {ok:Nat→Prop} :
  ∀{k:K} {x:El k} {cs:List Value} {fo:List Nat},(∀t∈k.tys,ay t own'=true→ay t own=true)→Ow h own ok k x cs fo→
   ∃dJ fd,fo.Perm (dJ++fd)∧Ow h own' (fun b=>ok b∨b∈fd) k x cs dJ:=by
 intro k
 induction k with
 | int ik=>intro x cs fo _ H; exact ⟨[],[],by rw [H.1]; exact .refl _,rfl,fT (fun _ _=>rfl) (fun _ h=>.inl h) H.2⟩
 | bool=>intro x cs fo _ H; exact ⟨[],[],by rw [H.1]; exact .refl _,rfl,fT (fun _ _=>rfl) (fun _ h=>.inl h) H.2⟩
 | id e=>intro x cs fo _ H; exact ⟨[],[],by rw [H.1]; exact .refl _,rfl,fT (fun _ _=>rfl) (fun _ h=>.inl h) H.2⟩
 | str=>intro x cs fo _ H; exact ⟨[],[],by rw [H.1]; exact .refl _,rfl,fT (fun _ _=>rfl) (fun _ h=>.inl h) H.2⟩
 | sl e k ih=>
  intro x cs fo ht H
  by_cases hm':ay e own'=true
  ·have hm:=ht e (by simp [K.tys]) hm'
   unfold Ow at H
   rw [if_pos hm] at H
   obtain ⟨a,n,c,e1,e2,e3,H⟩:=H
   rcases H with ⟨h0,h1⟩ | ⟨b,o,arr,lo,hi,ea,hb,hf,hs,bz,hl,hp,H⟩
   ·refine ⟨[],[],by rw [h1]; exact .refl _, ?_⟩
    unfold Ow
    rw [if_pos hm']
    exact ⟨a,n,c,e1,e2,e3, .inl ⟨h0,rfl⟩⟩
   ·
    have step:∀i:Nat,∃p:List Nat×List Nat,(hi:i<(show List (El k) from x).length)→((bz.getD i []).Perm (p.1++p.2)∧∃ds,Cells h b (o+i * k.size) ds∧Ow h own' (fun b=>ok b∨b∈p.2) k ((show List (El k) from x)[i]) ds p.1):=by
     intro i
     by_cases hi:i<(show List (El k) from x).length
     ·obtain ⟨ds,h1,h2⟩:=H i hi
      obtain ⟨dJ,fd,hp',h3⟩:=ih (fun t ht'=>ht t (by simp [K.tys,ht'])) h2
      exact ⟨(dJ,fd),fun _=>⟨hp',ds,h1,h3⟩⟩
     ·exact ⟨([],[]),fun h=>absurd h hi⟩
    have ⟨q,hq⟩:∃q:Nat→List Nat×List Nat,∀i,(hi:i<(show List (El k) from x).length)→((bz.getD i []).Perm ((q i).1++(q i).2)∧∃ds,Cells h b (o+i * k.size) ds∧Ow h own' (fun b=>ok b∨b∈(q i).2) k ((show List (El k) from x)[i]) ds (q i).1):=
     ⟨fun i=>Classical.choose (step i),fun i=>Classical.choose_spec (step i)⟩
    let N:=(show List (El k) from x).length
    refine ⟨b :: (List.range N).flatMap (fun i=>(q i).1),(List.range N).flatMap (fun i=>(q i).2), ?_, ?_⟩
    ·refine hp.trans ?_
     rw [List.cons_append]
     refine .cons b ?_
     have ahJ:bz.flatten=(List.range N).flatMap (fun i=>bz.getD i []):=by
      rw [List.flatMap_def]
      congr 1
      apply List.ext_getElem
      ·simp [N,hl]
      ·intro i h1 h2
       simp [apr,aps h1]
     rw [ahJ]
     have gen:∀l:List Nat,(∀i∈l,i<N)→(l.flatMap (fun i=>bz.getD i [])).Perm (l.flatMap (fun i=>(q i).1)++l.flatMap (fun i=>(q i).2)):=by
      intro l
      induction l with
      | nil=>intro _; exact .refl _
      | cons i l ihl=>
       intro hl'
       simp only [List.flatMap_cons]
       have h1:=(hq i (hl' i (by simp))).1
       have h2:=ihl (fun j hj=>hl' j (by simp [hj]))
       refine (h1.append h2).trans ?_
       simp only [apz]
       refine List.Perm.append_left _ ?_
       rw [←apz, ←apz]
       exact List.Perm.append_right _ List.perm_append_comm
     exact gen _ (fun i hi=>List.mem_range.1 hi)
    ·unfold Ow
     rw [if_pos hm']
     refine ⟨a,n,c,e1,e2,e3, .inr ⟨b,o,arr,lo,hi,ea,hb,hf,hs,(List.range N).map (fun i=>(q i).1),by simp [N],by rw [List.flatMap_def],fun i hi=>?_⟩⟩
     obtain ⟨ds,h1,h2⟩:=(hq i hi).2
     refine ⟨ds,h1, ?_⟩
     have:(List.map (fun i=>(q i).1) (List.range N)).getD i []=(q i).1:=by
      rw [apr,List.getElem?_map,List.getElem?_range hi]; rfl
     rw [this]
     exact bC (fun _ _=>rfl) (fun b' hb'=>hb'.imp id (fun h=>apP.2 ⟨i,List.mem_range.2 hi,h⟩)) (fun _ _=>rfl) h2
  ·refine ⟨[],fo,by simp, ?_⟩
   unfold Ow
   rw [if_neg hm']
   exact ⟨rfl,lu _ (fun _ h=>.inl h) (fun _ h=>.inr h) H⟩
 | unit=>intro x cs fo _ H; exact ⟨[],[],by rw [H.1]; exact .refl _,rfl,H.2⟩
 | pair a b iha ihb=>
  intro x cs fo ht H
  obtain ⟨c1,c2,f1,f2,e,hp,h1,h2⟩:=H
  obtain ⟨g1,d1,p1,r1⟩:=iha (fun t h=>ht t (by simp [K.tys,h])) h1
  obtain ⟨g2,d2,p2,r2⟩:=ihb (fun t h=>ht t (by simp [K.tys,h])) h2
  refine ⟨g1++g2,d1++d2,(hp.trans (p1.append p2)).trans ?_,c1,c2,g1,g2,e, .refl _, ?_, ?_⟩
  ·simp only [apz]
   refine List.Perm.append_left _ ?_
   rw [←apz, ←apz]
   exact List.Perm.append_right _ List.perm_append_comm
  ·exact bC (fun _ _=>rfl) (fun b' hb'=>hb'.imp id (fun h=>by simp [h])) (fun _ _=>rfl) r1
  ·exact bC (fun _ _=>rfl) (fun b' hb'=>hb'.imp id (fun h=>by simp [h])) (fun _ _=>rfl) r2
 | st f ih=>intro x cs fo ht H; exact ih (x:=x) ht H
 | gap n=>intro x cs fo _ H; exact ⟨[],[],by rw [H.1]; exact .refl _,rfl,H.2⟩
theorem uE {h:Heap} {own own':List TypeId} {ok:Nat→Prop} :
  ∀{k:K} {x:El k} {cs:List Value} {fo:List Nat},(∀t∈k.tys,ay t own'=ay t own)→Ow h own ok k x cs fo→Ow h own' ok k x cs fo:=by
 intro k
 induction k with
 | int ik=>intro x cs fo _ H; exact H
 | bool=>intro x cs fo _ H; exact H
 | id e=>intro x cs fo _ H; exact H
 | str=>intro x cs fo _ H; exact H
 | sl e k ih=>
  intro x cs fo ht H
  unfold Ow at H ⊢
  rw [ht e (by simp [K.tys])]
  split
  ·rename_i hm
   rw [if_pos hm] at H
   obtain ⟨a,n,c,e1,e2,e3,H⟩:=H
   refine ⟨a,n,c,e1,e2,e3, ?_⟩
   rcases H with H | ⟨b,o,arr,lo,hi,ea,hb,hf,hs,bz,hl,hp,H⟩
   ·exact .inl H
   ·refine .inr ⟨b,o,arr,lo,hi,ea,hb,hf,hs,bz,hl,hp,fun i hi=>?_⟩
    obtain ⟨ds,h1,h2⟩:=H i hi
    exact ⟨ds,h1,ih (fun t ht'=>ht t (by simp [K.tys,ht'])) h2⟩
  ·rename_i hm
   rw [if_neg hm] at H
   exact H
 | unit=>intro x cs fo _ H; exact H
 | pair a b iha ihb=>
  intro x cs fo ht H
  obtain ⟨c1,c2,f1,f2,e,hp,h1,h2⟩:=H
  exact ⟨c1,c2,f1,f2,e,hp,iha (fun t h=>ht t (by simp [K.tys,h])) h1,ihb (fun t h=>ht t (by simp [K.tys,h])) h2⟩
 | st f ih=>intro x cs fo ht H; exact ih (x:=x) ht H
 | gap n=>intro x cs fo _ H; exact H
theorem oZ {h:Heap} {own:List TypeId} {ok:Nat→Prop}:∀{k:K} {x:El k} {cs:List Value},(∀t∈k.tys,ay t own=false)→Vw h ok k x cs→Ow h own ok k x cs []:=by
 intro k
 induction k with
 | int ik=>intro x cs _ H; exact ⟨rfl,H⟩
 | bool=>intro x cs _ H; exact ⟨rfl,H⟩
 | id e=>intro x cs _ H; exact ⟨rfl,H⟩
 | str=>intro x cs _ H; exact ⟨rfl,H⟩
 | sl e k ih=>
  intro x cs ht H
  unfold Ow
  rw [if_neg (by rw [ht e (by simp [K.tys])]; simp)]
  exact ⟨rfl,H⟩
 | unit=>intro x cs _ H; exact ⟨rfl,H⟩
 | pair a b iha ihb=>
  intro x cs ht H
  obtain ⟨c1,c2,e,h1,h2⟩:=H
  exact ⟨c1,c2,[],[],e, .refl _,iha (fun t h=>ht t (by simp [K.tys,h])) h1,ihb (fun t h=>ht t (by simp [K.tys,h])) h2⟩
 | st f ih=>intro x cs ht H; exact ih (x:=x) ht H
 | gap n=>intro x cs _ H; exact ⟨rfl,H⟩
end
section
open Go
variable [Fr]
def bD:Nat→K→Option (Nat×K)
 | 0, .pair a _=>some (0,a)
 | n+1, .pair a b=>match bD n b with
  | some (o,k)=>some (a.size+o,k)
  | none=>none
 | _,_=>none
def qC (h:Heap) (b o n:Nat):List Value:=(List.range n).map fun j=>(cellAt h b (o+j)).getD undef
theorem iC {h:Heap} {b o:Nat} {cs:List Value} (H:Cells h b o cs):qC h b o cs.length=cs:=by
 unfold qC
 apply List.ext_getElem
 ·simp
 ·intro i h1 h2
  simp [H i h2,aps h2]
def bF (h:Heap):List Stp→(k:K)→List Value→Option (Nat×Nat)→Option (List Value×Option (Nat×Nat))
 | [],_,cs,wh=>some (cs,wh)
 | .gL n :: p, .st c,cs,wh=>match bD n c with
  | some (off,k')=>bF h p k' ((cs.drop off).take k'.size) (wh.map fun q=>(q.1,q.2+off))
  | none=>none
 | .idx i :: p, .sl _ k,cs,_=>match cs with
  | [.slice (some a) _ _]=>bF h p k (qC h a.block (a.off+i.toNat * k.size) k.size) (some (a.block,a.off+i.toNat * k.size))
  | _=>none
 | _,_,_,_=>none
def nX:List Stp→(k:K)→El k→Prop
 | [],_,_=>True
 | .gL n :: p, .st c,x=>match aQ n c x with
  | some d=>nX p d.1 d.2
  | none=>False
 | .idx i :: p, .sl _ k,xs=>0≤i∧i<((show List (El k) from xs).length:Int)∧nX p k ((show List (El k) from xs).getD i.toNat k.zero)
 | _,_,_=>False
def gT (h h':Heap) (b o n:Nat):Prop:=
 ∃arr kP e fr,h b=some (.cells arr e fr)∧h' b=some (.cells kP e fr)∧kP.size=arr.size∧∀i,¬(o≤i∧i<o+n)→kP[i]?=arr[i]?
theorem gT.of_same {h h':Heap} {b:Nat} (o n:Nat) {arr:Array Value} {e:TypeId} {fr:Nat×Nat} (e1:h b=some (.cells arr e fr)) (e2:h' b=h b):gT h h' b o n:=
 ⟨arr,arr,e,fr,e1,e2.trans e1,rfl,fun _ _=>rfl⟩
theorem gT.cells {h h':Heap} {b o n o':Nat} {cs:List Value} (H:gT h h' b o n) (hc:Cells h b o' cs) (hd:o'+cs.length≤o∨o+n≤o'):Cells h' b o' cs:=by
 obtain ⟨arr,kP,e,fr,h1,h2,_,h3⟩:=H
 intro i hi
 have:=hc i hi
 unfold cellAt at this ⊢
 rw [h1] at this
 rw [h2]
 simp only at this ⊢
 rw [h3 _ (by omega)]
 exact this
theorem gT.cellAt {h h':Heap} {b o n:Nat} (H:gT h h' b o n) {i:Nat} (hi:¬(o≤i∧i<o+n)):cellAt h' b i=cellAt h b i:=by
 obtain ⟨arr,kP,e,fr,h1,h2,_,h3⟩:=H
 unfold Ow.cellAt
 rw [h1,h2]
 exact h3 i hi
theorem Cells.append {h:Heap} {b o:Nat} {c1 c2:List Value}:Cells h b o (c1++c2)↔Cells h b o c1∧Cells h b (o+c1.length) c2:=by
 constructor
 ·intro H
  refine ⟨fun i hi=>?_,fun i hi=>?_⟩
  ·rw [H i (by simp; omega),List.getElem?_append_left hi]
  ·have:=H (c1.length+i) (by simp; omega)
   rw [List.getElem?_append_right (by omega)] at this
   rw [Nat.add_assoc,this]
   congr 1
   omega
 ·rintro ⟨H1,H2⟩ i hi
  by_cases h1:i<c1.length
  ·rw [H1 i h1,List.getElem?_append_left h1]
  ·have:=H2 (i - c1.length) (by simp at hi; omega)
   rw [List.getElem?_append_right (by omega), ←this]
   congr 1
   omega
theorem zG {a b c:List Nat}:(a++(b++c)).Perm (b++(a++c)):=by
 rw [←apz, ←apz]
 exact List.Perm.append_right _ List.perm_append_comm
theorem zl:∀(n:Nat) {c:K} {x:El c} {t z:Dat},cz n c x t=some z→aQ n z.1 z.2=some t:=by
 intro n
 induction n with
 | zero=>
  intro c x t z h
  cases c with
  | pair a b=>simp only [cz,apd] at h; subst h; rfl
  | _=>simp [cz] at h
 | succ n ih=>
  intro c x t z h
  cases c with
  | pair a b=>
   simp only [cz] at h
   cases h2:cz n b x.2 t with
   | none=>rw [h2] at h; simp at h
   | some y=>rw [h2] at h; simp only [apd] at h; subst h; exact ih h2
  | _=>simp [cz] at h
theorem KZ:∀(n:Nat) {c:K} {x:El c} {s t z:Dat},aQ n c x=some s→cz n c x t=some z→t.1=s.1→z.1=c:=by
 intro n
 induction n with
 | zero=>
  intro c x s t z hg h e
  cases c with
  | pair a b=>
   simp only [aQ,apd] at hg
   simp only [cz,apd] at h
   subst hg; subst h
   simp only at e
   simp [e]
  | _=>simp [cz] at h
 | succ n ih=>
  intro c x s t z hg h e
  cases c with
  | pair a b=>
   simp only [aQ] at hg
   simp only [cz] at h
   cases h2:cz n b x.2 t with
   | none=>rw [h2] at h; simp at h
   | some y=>rw [h2] at h; simp only [apd] at h; subst h; simp [ih hg h2 e]
  | _=>simp [cz] at h
theorem Ao:∀(n:Nat) {c:K} {x:El c} {t z:Dat} {off:Nat} {k':K},bD n c=some (off,k')→cz n c x t=some z→bD n z.1=some (off,t.1):=by
 intro n
 induction n with
 | zero=>
  intro c x t z off k' ho h
  cases c with
  | pair a b=>
   simp only [cz,apd] at h
   subst h
   simp only [bD,apd,apo] at ho ⊢
   exact ⟨ho.1,trivial⟩
  | _=>simp [cz] at h
 | succ n ih=>
  intro c x t z off k' ho h
  cases c with
  | pair a b=>
   simp only [cz] at h
   cases h2:cz n b x.2 t with
   | none=>rw [h2] at h; simp at h
   | some y=>
    rw [h2] at h
    simp only [apd] at h
    subst h
    simp only [bD] at ho ⊢
    cases h3:bD n b with
    | none=>rw [h3] at ho; simp at ho
    | some q=>
     rw [h3] at ho
     simp only [Option.map_some,apd,apo] at ho
     rw [ih (k':=q.2) (off:=q.1) (by rw [h3]) h2]
     simp [←ho.1]
  | _=>simp [cz] at h
theorem JW {h:Heap} {own:List TypeId} {ok:Nat→Prop}:∀(n:Nat) {c:K} {x:El c} {cs:List Value} {fo:List Nat} {d:Dat},
  Ow h own ok c x cs fo→aQ n c x=some d→
   ∃off pre cs1 post gq fr,bD n c=some (off,d.1)∧cs=pre++(cs1++post)∧pre.length=off∧fo.Perm (gq++fr)∧Ow h own ok d.1 d.2 cs1 gq∧
    (∀(h':Heap) (ok':Nat→Prop) (t:Dat) (qo:List Value) (vP:List Nat) (z:Dat),cz n c x t=some z→Ow h' own ok' t.1 t.2 qo vP→
     (∀b,ok b→ok' b∧h' b=h b)→(∀b∈fr,h' b=h b)→Ow h' own ok' z.1 z.2 (pre++(qo++post)) (vP++fr))∧
    ∀m s2,m≠n→aQ m c x=some s2→∃off2 cs2 fo2,bD m c=some (off2,s2.1)∧(cs.drop off2).take s2.1.size=cs2∧Ow h own ok s2.1 s2.2 cs2 fo2∧(∀b∈fo2,b∈fr)∧
     (∀qo:List Value,qo.length=d.1.size→((pre++(qo++post)).drop off2).take s2.1.size=cs2)∧∀t z,cz n c x t=some z→aQ m z.1 z.2=some s2:=by
 intro n
 induction n with
 | zero=>
  intro c x cs fo d H hg
  cases c with
  | pair a b=>
   simp only [aQ,apd] at hg
   subst hg
   obtain ⟨c1,c2,f1,f2,e,hp,h1,h2⟩:=H
   refine ⟨0,[],c1,c2,f1,f2,rfl,by simpa using e,rfl,hp,h1, ?_, ?_⟩
   ·intro h' ok' t qo vP z hz ht hok hfr
    simp only [cz,apd] at hz
    subst hz
    exact ⟨qo,c2,vP,f2,by simp, .refl _,ht,bC (fun b hb=>(hok b hb).2) (fun b hb=>(hok b hb).1) hfr h2⟩
   ·intro m s2 hm hg2
    cases m with
    | zero=>exact absurd rfl hm
    | succ m=>
     simp only [aQ] at hg2
     have key:∀(m:Nat) {c:K} {x:El c} {cs:List Value} {fo:List Nat} {d:Dat},Ow h own ok c x cs fo→aQ m c x=some d→
       ∃off cs1 gq,bD m c=some (off,d.1)∧(cs.drop off).take d.1.size=cs1∧(∀b∈gq,b∈fo)∧Ow h own ok d.1 d.2 cs1 gq:=by
      intro m
      induction m with
      | zero=>
       intro c x cs fo d H hg
       cases c with
       | pair a b=>
        simp only [aQ,apd] at hg
        subst hg
        obtain ⟨c1,c2,f1,f2,rfl,hp,h1,h2⟩:=H
        exact ⟨0,c1,f1,rfl,by simp [←dn h1],fun b hb=>hp.mem_iff.2 (by simp [hb]),h1⟩
       | _=>simp [aQ] at hg
      | succ m ih=>
       intro c x cs fo d H hg
       cases c with
       | pair a b=>
        simp only [aQ] at hg
        obtain ⟨c1,c2,f1,f2,rfl,hp,h1,h2⟩:=H
        obtain ⟨off,cs1,gq,g1,g2,g3,g4⟩:=ih h2 hg
        refine ⟨a.size+off,cs1,gq,by simp [bD,g1], ?_,fun b hb=>hp.mem_iff.2 (by simp [g3 b hb]),g4⟩
        rw [←g2, ←dn h1, ←List.drop_drop]
        simp
       | _=>simp [aQ] at hg
     obtain ⟨off2,cs2,fo2,g1,g2,g3,g4⟩:=key m h2 hg2
     refine ⟨a.size+off2,cs2,fo2,by simp [bD,g1], ?_,g4,g3, ?_, ?_⟩
     ·rw [e, ←g2, ←dn h1, ←List.drop_drop]; simp
     ·intro qo hl
      simp only at hl
      rw [←g2, ←hl, ←List.drop_drop]; simp
     ·intro t z hz
      simp only [cz,apd] at hz
      subst hz
      exact hg2
  | _=>simp [aQ] at hg
 | succ n ih=>
  intro c x cs fo d H hg
  cases c with
  | pair a b=>
   simp only [aQ] at hg
   obtain ⟨c1,c2,f1,f2,e,hp,h1,h2⟩:=H
   obtain ⟨off,pre,cs1,post,gq,fr,ho,ec,hl,hp',hd,hu,hoth⟩:=ih h2 hg
   refine ⟨a.size+off,c1++pre,cs1,post,gq,f1++fr, ?_,by rw [e,ec]; simp,by simp [dn h1,hl], ?_,hd, ?_, ?_⟩
   ·simp [bD,ho]
   ·exact (hp.trans (List.Perm.append_left _ hp')).trans zG
   ·intro h' ok' t qo vP z hz ht hok hfr
    simp only [cz] at hz
    cases hz2:cz n b x.2 t with
    | none=>rw [hz2] at hz; simp at hz
    | some z2=>
     rw [hz2] at hz
     simp only [apd] at hz
     subst hz
     have r2:=hu h' ok' t qo vP z2 hz2 ht hok (fun b hb=>hfr b (by simp [hb]))
     exact ⟨c1,pre++(qo++post),f1,vP++fr,by simp,zG,bC (fun b hb=>(hok b hb).2) (fun b hb=>(hok b hb).1) (fun b hb=>hfr b (by simp [hb])) h1,r2⟩
   ·intro m s2 hm hg2
    cases m with
    | zero=>
     simp only [aQ,apd] at hg2
     subst hg2
     refine ⟨0,c1,f1,rfl,by rw [e, ←dn h1]; simp,h1,fun b hb=>by simp [hb],fun qo _=>by rw [←dn h1]; simp, ?_⟩
     intro t z hz
     simp only [cz] at hz
     cases hz2:cz n b x.2 t with
     | none=>rw [hz2] at hz; simp at hz
     | some z2=>rw [hz2] at hz; simp only [apd] at hz; subst hz; rfl
    | succ m=>
     simp only [aQ] at hg2
     obtain ⟨off2,cs2,fo2,g1,g2,g3,g4,g5,g6⟩:=hoth m s2 (by omega) hg2
     refine ⟨a.size+off2,cs2,fo2,by simp [bD,g1], ?_,g3,fun b hb=>by simp [g4 b hb], ?_, ?_⟩
     ·rw [e, ←g2, ←dn h1, ←List.drop_drop]; simp
     ·intro qo hl'
      rw [←g5 qo hl', ←dn h1, ←List.drop_drop]; simp
     ·intro t z hz
      simp only [cz] at hz
      cases hz2:cz n b x.2 t with
      | none=>rw [hz2] at hz; simp at hz
      | some z2=>rw [hz2] at hz; simp only [apd] at hz; subst hz; exact g6 t z2 hz2
  | _=>simp [aQ] at hg
theorem TJ:∀(n:Nat) {c:K} {x:El c} {s u y:Dat},aQ n c x=some s→cz n c x u=some y→u.1.size=s.1.size→y.1.size=c.size:=by
 intro n
 induction n with
 | zero=>
  intro c x s u y h1 h2 e
  cases c with
  | pair a b=>simp only [aQ,cz,apd] at h1 h2; subst h1; subst h2; simp only at e; simp [K.size,e]
  | _=>simp [aQ] at h1
 | succ n ih=>
  intro c x s u y h1 h2 e
  cases c with
  | pair a b=>
   simp only [aQ,cz] at h1 h2
   cases h3:cz n b x.2 u with
   | none=>rw [h3] at h2; simp at h2
   | some y2=>rw [h3] at h2; simp only [apd] at h2; subst h2; simp [K.size,ih h1 h3 e]
  | _=>simp [aQ] at h1
theorem Pn:∀(n m:Nat) {c:K} {x:El c} {s u y:Dat} {off2:Nat} {k2:K},m≠n→aQ n c x=some s→cz n c x u=some y→u.1.size=s.1.size→bD m c=some (off2,k2)→bD m y.1=some (off2,k2):=by
 intro n
 induction n with
 | zero=>
  intro m c x s u y off2 k2 hm h1 h2 e h3
  cases c with
  | pair a b=>
   simp only [aQ,cz,apd] at h1 h2
   subst h1; subst h2
   cases m with
   | zero=>exact absurd rfl hm
   | succ m=>simp only [bD] at h3 ⊢; simp only at e; rw [e]; exact h3
  | _=>simp [aQ] at h1
 | succ n ih=>
  intro m c x s u y off2 k2 hm h1 h2 e h3
  cases c with
  | pair a b=>
   simp only [aQ,cz] at h1 h2
   cases h4:cz n b x.2 u with
   | none=>rw [h4] at h2; simp at h2
   | some y2=>
    rw [h4] at h2
    simp only [apd] at h2
    subst h2
    cases m with
    | zero=>simp only [bD] at h3 ⊢; exact h3
    | succ m=>
     simp only [bD] at h3 ⊢
     cases h5:bD m b with
     | none=>rw [h5] at h3; simp at h3
     | some q=>
      rw [h5] at h3
      rw [ih m (off2:=q.1) (k2:=q.2) (by omega) h1 h4 e (by rw [h5])]
      exact h3
  | _=>simp [aQ] at h1
theorem qE {pre cs1 post:List Value} {off n:Nat} (h1:pre.length=off) (h2:cs1.length=n):((pre++(cs1++post)).drop off).take n=cs1:=by
 subst h1; subst h2; simp
theorem bY {A:Type} {l:List A} {d:A} {i:Nat} (h:i<l.length):l.getD i d=l[i]:=by
 rw [apr,aps h]; rfl
theorem Ot {bz:List (List Nat)} {i:Nat} (h:i<bz.length):bz.flatten.Perm (bz.getD i []++((bz.take i).flatten++(bz.drop (i+1)).flatten)):=by
 have e:bz=bz.take i++(bz.getD i [] :: bz.drop (i+1)):=by
  rw [bY h, ←List.drop_eq_getElem_cons h,List.take_append_drop]
 have:bz.flatten=(bz.take i).flatten++(bz.getD i []++(bz.drop (i+1)).flatten):=by
  rw [congrArg List.flatten e]; simp
 rw [this]
 exact zG
theorem aai {bz:List (List Nat)} {i:Nat} (h:i<bz.length) (q:List Nat):(bz.set i q).flatten.Perm (q++((bz.take i).flatten++(bz.drop (i+1)).flatten)):=by
 have h':i<(bz.set i q).length:=by simpa using h
 have:=Ot h'
 rw [bY h',List.getElem_set_self] at this
 simpa [List.take_set_of_le,List.drop_set_of_lt] using this
theorem bU:∀(n:Nat) {c:K} {x:El c} {s:Dat},aQ n c x=some s→ah.Js n c=some s.1:=by
 intro n
 induction n with
 | zero=>
  intro c x s e
  cases c with
  | pair a b=>simp only [aQ,apd] at e; subst e; rfl
  | _=>simp [aQ] at e
 | succ n ih=>
  intro c x s e
  cases c with
  | pair a b=>simp only [aQ] at e; exact ih e
  | _=>simp [aQ] at e
theorem Mh {h h':Heap} {own:List TypeId} {ok:Nat→Prop}:∀(p:List Stp) {k:K} {x:El k} {cs:List Value} {fo:List Nat} {wh:Option (Nat×Nat)},
  Ow h own ok k x cs fo→nX p k x→(∀t∈ah p k,ay t own=true)→(∀b∈fo,h' b=h b)→bF h' p k cs wh=bF h p k cs wh:=by
 intro p
 induction p with
 | nil=>intro k x cs fo wh _ _ _ _; rfl
 | cons s p ih=>
  intro k x cs fo wh H hin PN hfo
  cases s with
  | gL n=>
   cases k with
   | st c=>
    simp only [nX] at hin
    cases hcg:aQ n c x with
    | none=>rw [hcg] at hin; exact hin.elim
    | some s=>
     rw [hcg] at hin
     obtain ⟨off,pre,cs0,post,yI,fr,ho,ec,hl,hp,hd,_⟩:=JW n (show Ow h own ok c x cs fo from H) hcg
     have hpt:ah (.gL n :: p) (.st c)=ah p s.1:=by simp [ah,bU n hcg]
     rw [hpt] at PN
     simp only [bF]
     rw [ho]
     simp only
     rw [ec,qE hl (dn hd)]
     exact ih hd hin PN (fun b hb=>hfo b (hp.mem_iff.2 (api _ hb)))
   | _=>simp [nX] at hin
  | idx i=>
   cases k with
   | sl e k=>
    simp only [nX] at hin
    obtain ⟨hi0,hi1,hin⟩:=hin
    have ama:i<((@List.length (El k) x:Nat):Int):=hi1
    have hlt:i.toNat < @List.length (El k) x:=by omega
    have eg:(show List (El k) from x).getD i.toNat k.zero=(show List (El k) from x)[i.toNat]'hlt:=bY hlt
    rw [eg] at hin
    unfold Ow at H
    rw [if_pos (PN e (by simp [ah]))] at H
    obtain ⟨a,n,c,e1,e2,e3,H⟩:=H
    have e2':n=@List.length (El k) x:=e2
    rcases H with ⟨h0,_⟩ | ⟨b,o,arr,lo,hi,ea,hb,hf,hs,bz,hfl,hp,H⟩
    ·omega
    ·obtain ⟨ds,hcd,hod⟩:=H i.toNat hlt
     have hbb:h' b=h b:=hfo b (hp.mem_iff.2 (by simp))
     have r1:=iC hcd
     have r2:=iC (hcd.congr hbb)
     rw [dn hod] at r1 r2
     subst e1
     subst ea
     simp only [bF]
     rw [r1,r2]
     exact ih hod hin (fun t ht=>PN t (by simp [ah,ht])) (fun b' hb'=>hfo b' (hp.mem_iff.2 (by simp [sF hb'])))
   | _=>simp [nX] at hin
def JU (h h':Heap) (own:List TypeId) (k:K) (x:El k) (cs:List Value) (wh:Option (Nat×Nat)) (z:Dat) (cs':List Value) (bad:List TypeId):Prop:=
 ∀q c0 w0,nX q k x→(∀t∈ah q k,ay t own=true∧t∉bad)→bF h q k cs wh=some (c0,w0)→(aT q z.1 z.2).isSome=true→nX q z.1 z.2∧∃c1,bF h' q z.1 cs' wh=some (c1,w0)
structure Upd (h:Heap) (own:List TypeId) (ok:Nat→Prop) (p:List Stp) (k:K) (x:El k) (cs:List Value) (wh:Option (Nat×Nat)) (d:Dat) (rest:List Nat) (cs1:List Value) (nY:Option (Nat×Nat)):Prop where
 go:∀(h':Heap) (ok':Nat→Prop) (t:Dat) (qo:List Value) (vP:List Nat) (z:Dat),eF p k x t=some z→qo.length=d.1.size→Ow h' own ok' t.1 t.2 qo vP→
  (∀b,ok b→ok' b∧h' b=h b)→(∀b∈rest,nY.map (·.1)≠some b→h' b=h b)→
  (∀b o,nY=some (b,o)→Cells h' b o qo∧gT h h' b o d.1.size)→
  (nY=none→qo=cs1)→(∀b o,wh=some (b,o)→nY.map (·.1)≠some b→h' b=h b)→
  ∃cs',cs'.length=cs.length∧Ow h' own ok' z.1 z.2 cs' (vP++rest)∧(∀b o,wh=some (b,o)→Cells h' b o cs')∧(wh=none→cs'=cs)∧
   ∀bad,t.1.size=d.1.size→JU h h' own d.1 d.2 cs1 nY t qo bad→(t.1=d.1→z.1=k)∧z.1.size=k.size∧JU h h' own k x cs wh z cs' bad∧bF h' p z.1 cs' wh=some (qo,nY)
def Foc (h:Heap) (own:List TypeId) (ok:Nat→Prop) (p:List Stp) (k:K) (x:El k) (cs:List Value) (fo:List Nat) (wh:Option (Nat×Nat)) (d:Dat):Prop:=
 ∃cs1 gq rest nY,bF h p k cs wh=some (cs1,nY)∧fo.Perm (gq++rest)∧Ow h own ok d.1 d.2 cs1 gq∧(∀b o,nY=some (b,o)→Cells h b o cs1)∧
  (∀b o,nY=some (b,o)→(ah p k=[]∧∃o0,wh=some (b,o0)∧o0≤o∧o+d.1.size≤o0+k.size)∨
   (b∈rest∧∃arr e lo hi,h b=some (.cells arr e (lo,hi))∧(∀i,i<arr.size→¬(lo≤i∧i<hi))∧(ah p k).getLast?=some e∧o+d.1.size≤arr.size))∧
  (nY=none→wh=none)∧Upd h own ok p k x cs wh d rest cs1 nY
theorem sD {wh:Option (Nat×Nat)} {off b o:Nat} (e:wh.map (fun q=>(q.1,q.2+off))=some (b,o)):∃o0,wh=some (b,o0)∧o=o0+off:=by
 cases wh with
 | none=>simp at e
 | some q=>
  simp only [Option.map_some,apd,apo] at e
  exact ⟨q.2,by rw [←e.1],e.2.symm⟩
theorem aby {h:Heap} {own:List TypeId} {ok:Nat→Prop} {p:List Stp} {n:Nat} {c:K} {x:El c} {cs:List Value} {fo:List Nat} {wh:Option (Nat×Nat)} {s d:Dat}
  (H:Ow h own ok c x cs fo) (hc:∀b o,wh=some (b,o)→Cells h b o cs) (hcg:aQ n c x=some s) (hnd:fo.Nodup) (hbase:∀b o,wh=some (b,o)→b∉fo)
  (ih:∀{cs0:List Value} {yI:List Nat} {wh0:Option (Nat×Nat)},Ow h own ok s.1 s.2 cs0 yI→(∀b o,wh0=some (b,o)→Cells h b o cs0)→yI.Nodup→(∀b o,wh0=some (b,o)→b∉yI)→Foc h own ok p s.1 s.2 cs0 yI wh0 d) :
  Foc h own ok (.gL n :: p) (.st c) x cs fo wh d:=by
 obtain ⟨off,pre,cs0,post,yI,fr,ho,ec,hl,hp,hd,hu,hoth⟩:=JW n H hcg
 have hsz:=dn hd
 have hpt:ah (.gL n :: p) (.st c)=ah p s.1:=by simp [ah,bU n hcg]
 have hnd':(yI++fr).Nodup:=hp.nodup hnd
 have hsub:(cs.drop off).take s.1.size=cs0:=by rw [ec]; exact qE hl hsz
 have hlen:cs.length=c.size:=dn H
 have anh:off+s.1.size+post.length=c.size:=by rw [←hlen,ec]; simp [hl,hsz]; omega
 obtain ⟨cs1,gq,rest,nY,hn,hp1,hd1,hc1,hin1,hnone,hup⟩:=ih (wh0:=wh.map fun q=>(q.1,q.2+off)) hd
  (fun b o e=>by
   obtain ⟨o0,e1,rfl⟩:=sD e
   have:=hc b o0 e1
   rw [ec,Cells.append,Cells.append] at this
   rw [←hl]
   exact this.2.1) (apk.1 hnd').1
  (fun b o e hb=>by
   obtain ⟨o0,e1,rfl⟩:=sD e
   exact hbase b o0 e1 (hp.mem_iff.2 (api _ hb)))
 have al4:∀b o,nY=some (b,o)→b∉fr:=by
  intro b o e hb
  rcases hin1 b o e with ⟨_,o0,ew,_⟩ | ⟨h1,_⟩
  ·obtain ⟨o1,e1,_⟩:=sD ew
   exact hbase b o1 e1 (hp.mem_iff.2 (apf _ hb))
  ·exact (apk.1 hnd').2.2 b (hp1.mem_iff.2 (apf _ h1)) b hb rfl
 refine ⟨cs1,gq,rest++fr,nY, ?_, ?_,hd1,hc1, ?_, ?_,⟨?_⟩⟩
 ·simp only [bF]
  rw [ho]
  simp only
  rw [hsub]
  exact hn
 ·rw [←apz]
  exact hp.trans (List.Perm.append_right _ hp1)
 ·intro b o e
  rw [hpt]
  rcases hin1 b o e with ⟨h0,o0,ew,h1,h2⟩ | ⟨h1,h2⟩
  ·obtain ⟨o1,e1,rfl⟩:=sD ew
   refine .inl ⟨h0,o1,e1,by omega, ?_⟩
   show o+d.1.size≤o1+c.size
   omega
  ·exact .inr ⟨api _ h1,h2⟩
 ·intro e
  have:=hnone e
  cases wh with
  | none=>rfl
  | some q=>simp at this
 ·intro h' ok' t qo vP z hz hl' ht hok hrest hw hcs hb0
  simp only [eF,hcg] at hz
  cases hs:eF p s.1 s.2 t with
  | none=>rw [hs] at hz; simp at hz
  | some u=>
   rw [hs] at hz
   simp only at hz
   cases hcp:cz n c x u with
   | none=>rw [hcp] at hz; simp at hz
   | some y=>
    rw [hcp] at hz
    simp only [apd] at hz
    subst hz
    obtain ⟨abn,hl0,ho0,hc0,hn0,hnk⟩:=hup.go h' ok' t qo vP u hs hl' ht hok (fun b hb=>hrest b (api _ hb)) hw hcs
     (fun b o e=>by
      obtain ⟨o0,e1,_⟩:=sD e
      exact hb0 b o0 e1)
    have hfr:∀b∈fr,h' b=h b:=by
     intro b hb
     refine hrest b (apf _ hb) ?_
     intro e
     cases Az:nY with
     | none=>rw [Az] at e; simp at e
     | some q=>
      rw [Az] at e
      simp only [Option.map_some,apd] at e
      exact al4 q.1 q.2 Az (e▸hb)
    have r:=hu h' ok' u abn (vP++rest) y hcp ho0 hok hfr
    refine ⟨pre++(abn++post),by rw [ec]; simp [hl0], ?_, ?_, ?_, ?_⟩
    ·have r':Ow h' own ok' y.1 y.2 (pre++(abn++post)) (vP++(rest++fr)):=by
      rw [show vP++(rest++fr)=vP++rest++fr from (apz ..).symm]; exact r
     exact r'
    ·intro b o e
     have hwc:=hc b o e
     rw [ec,Cells.append,Cells.append] at hwc
     have hc0':=hc0 b (o+off) (by rw [e]; rfl)
     rw [Cells.append,Cells.append,hl0,hsz,hl]
     have aeK:=hwc.2.2
     rw [hsz,hl] at aeK
     by_cases hbw:nY.map (·.1)=some b
     ·cases Az:nY with
      | none=>rw [Az] at hbw; simp at hbw
      | some q=>
       rw [Az] at hbw
       simp only [Option.map_some,apd] at hbw
       subst hbw
       have hsb:=(hw q.1 q.2 Az).2
       rcases hin1 q.1 q.2 Az with ⟨_,o0,ew,g1,g2⟩ | ⟨h1,_⟩
       ·rw [e] at ew
        simp only [Option.map_some,apd,apo,true_and] at ew
        exact ⟨hsb.cells hwc.1 (.inl (by omega)),hc0',hsb.cells aeK (.inr (by omega))⟩
       ·exact absurd (hp.mem_iff.2 (api _ (hp1.mem_iff.2 (apf _ h1)))) (hbase q.1 o e)
     ·have hbb:=hb0 b o e hbw
      exact ⟨hwc.1.congr hbb,hc0',aeK.congr hbb⟩
    ·intro e
     have:=hn0 (by rw [e]; rfl)
     rw [this,ec]
    ·intro bad hkind Dr
     obtain ⟨n1,n3,n2,n4⟩:=hnk bad hkind Dr
     refine ⟨fun e=>congrArg K.st (KZ n hcg hcp (n1 e)),(show y.1.size=c.size from TJ n hcg hcp n3), ?_,by
      show bF h' (.gL n :: p) (.st y.1) _ _=_
      simp only [bF]
      rw [Ao n ho hcp]
      simp only
      rw [qE hl (dn ho0)]
      exact n4⟩
     intro q c0 w0 hq hqt PM hqs
     cases q with
     | nil=>
      simp only [bF,apd,apo] at PM ⊢
      exact ⟨trivial,_,rfl,PM.2⟩
     | cons sq q=>
      cases sq with
      | idx i=>simp [nX] at hq
      | gL m=>
       simp only [nX] at hq
       cases hg2:aQ m c x with
       | none=>rw [hg2] at hq; exact hq.elim
       | some s2=>
        rw [hg2] at hq
        have amt:ah (.gL m :: q) (.st c)=ah q s2.1:=by simp [ah,bU m hg2]
        rw [amt] at hqt
        by_cases hmn:m=n
        ·subst hmn
         rw [hcg] at hg2
         simp only [apd] at hg2
         subst hg2
         simp only [bF] at PM
         rw [ho] at PM
         simp only at PM
         rw [hsub] at PM
         obtain ⟨r1,c1,r2⟩:=n2 q c0 w0 hq hqt PM (by
          have:(aT (.gL m :: q) (.st y.1) y.2).isSome=true:=hqs
          simpa only [aT,zl m hcp] using this)
         refine ⟨?_,c1, ?_⟩
         ·show nX (.gL m :: q) (.st y.1) y.2
          simp only [nX,zl m hcp]
          exact r1
         ·show bF h' (.gL m :: q) (.st y.1) _ _=_
          simp only [bF]
          rw [Ao m ho hcp]
          simp only
          rw [qE hl (dn ho0)]
          exact r2
        ·obtain ⟨off2,cs2,fo2,g1,g2,g3,g4,g5,g6⟩:=hoth m s2 hmn hg2
         simp only [bF] at PM
         rw [g1] at PM
         simp only at PM
         rw [g2] at PM
         have g7:=g6 u y hcp
         refine ⟨?_,c0, ?_⟩
         ·show nX (.gL m :: q) (.st y.1) y.2
          simp only [nX,g7]
          exact hq
         ·show bF h' (.gL m :: q) (.st y.1) _ _=_
          simp only [bF]
          rw [Pn n m hmn hcg hcp n3 g1]
          simp only
          rw [g5 abn (by rw [hl0,hsz]), ←PM]
          exact Mh q g3 hq (fun t ht=>(hqt t ht).1) (fun b hb=>hfr b (g4 b hb))
theorem abz {h:Heap} {own:List TypeId} {ok:Nat→Prop} {p:List Stp} {i:Int} {e:TypeId} {k:K} {xs:List (El k)} {cs:List Value} {fo:List Nat} {wh:Option (Nat×Nat)} {d:Dat}
  (H:Ow h own ok (.sl e k) xs cs fo) (hc:∀b o,wh=some (b,o)→Cells h b o cs) (hnd:fo.Nodup) (hbase:∀b o,wh=some (b,o)→b∉fo) (hmem:ay e own=true) (hlt:i.toNat<xs.length)
  (ih:∀{cs0:List Value} {yI:List Nat} {wh0:Option (Nat×Nat)},Ow h own ok k xs[i.toNat] cs0 yI→(∀b o,wh0=some (b,o)→Cells h b o cs0)→yI.Nodup→(∀b o,wh0=some (b,o)→b∉yI)→Foc h own ok p k xs[i.toNat] cs0 yI wh0 d) :
  Foc h own ok (.idx i :: p) (.sl e k) xs cs fo wh d:=by
 unfold Ow at H
 rw [if_pos hmem] at H
 obtain ⟨a,n,c,e1,e2,e3,H⟩:=H
 have e2':n=xs.length:=e2
 rcases H with ⟨h0,_⟩ | ⟨b,o,arr,lo,hi,ea,hb,hf,alU,bz,hfl,hp,H⟩
 ·omega
 have alV:bz.length=xs.length:=hfl
 obtain ⟨ds,hcd,hod⟩:=H i.toNat hlt
 have hnd':(b :: bz.flatten).Nodup:=hp.nodup hnd
 have hnb:b∉bz.flatten:=(apL.1 hnd').1
 have hpk:=Ot (bz:=bz) (i:=i.toNat) (by omega)
 have tN:=hpk.nodup (apL.1 hnd').2
 obtain ⟨cs1,gq,rest,nY,hn,hp1,hd1,hc1,hin1,hnone,hup⟩:=ih (wh0:=some (b,o+i.toNat * k.size)) hod
  (fun b' o' e'=>by
   simp only [apd,apo] at e'
   obtain ⟨rfl,rfl⟩:=e'
   exact hcd) (apk.1 tN).1
  (fun b' o' e' hb'=>by
   simp only [apd,apo] at e'
   obtain ⟨rfl,rfl⟩:=e'
   exact hnb (sF hb'))
 have hdl:ds.length=k.size:=dn hod
 have hwn:nY≠none:=fun e'=>by have:=hnone e'; simp at this
 generalize hR:(bz.take i.toNat).flatten++(bz.drop (i.toNat+1)).flatten=R at *
 have hcap:i.toNat * k.size+k.size≤c * k.size:=by
  have:(i.toNat+1) * k.size≤c * k.size:=apJ _ (by omega)
  rw [Nat.add_mul,Nat.one_mul] at this
  exact this
 refine ⟨cs1,gq,b :: (rest++R),nY, ?_, ?_,hd1,hc1, ?_,fun e'=>absurd e' hwn,⟨?_⟩⟩
 ·subst e1
  subst ea
  simp only [bF]
  have:qC h b (o+i.toNat * k.size) k.size=ds:=by
   have:=iC hcd
   rwa [hdl] at this
  rw [this]
  exact hn
 ·refine (hp.trans (.cons b (hpk.trans (List.Perm.append_right _ hp1)))).trans ?_
  rw [apz]
  exact List.perm_middle.symm
 ·intro b' o' e'
  rcases hin1 b' o' e' with ⟨hz,o0,ew,h1,h2⟩ | ⟨h1,kP,e'',lo',hi',g1,g2,g3,g4⟩
  ·simp only [apd,apo] at ew
   obtain ⟨rfl,rfl⟩:=ew
   exact .inr ⟨apK,arr,e,lo,hi,hb,hf,by simp [ah,hz],by omega⟩
  ·refine .inr ⟨by simp [h1],kP,e'',lo',hi',g1,g2, ?_,g4⟩
   simp only [ah,List.getLast?_cons,g3,Option.getD_some]
 ·intro h' ok' t qo vP z hz hl' ht hok hrest hw hcs hb0
  simp only [eF] at hz
  rw [bY hlt] at hz
  cases hs:eF p k xs[i.toNat] t with
  | none=>rw [hs] at hz; simp at hz
  | some u=>
   rw [hs] at hz
   simp only at hz
   cases hck:bP u.1 k u.2 with
   | none=>rw [hck] at hz; simp at hz
   | some y=>
    rw [hck] at hz
    simp only [apd] at hz
    subst hz
    obtain ⟨uk,ux⟩:=u
    unfold bP at hck
    split at hck
    case isFalse=>simp at hck
    rename_i hbq
    have hk:=K.eq_of_beq hbq
    simp only at hk
    subst hk
    simp only [apd] at hck
    subst hck
    have hwb:∀q,nY=some q→q.1∉R:=by
     intro q hq hqR
     rcases hin1 q.1 q.2 hq with ⟨_,o0,ew,_⟩ | ⟨h1,_⟩
     ·simp only [apd,apo] at ew
      exact hnb (hpk.mem_iff.2 (apf _ (ew.1▸hqR)))
     ·exact (apk.1 tN).2.2 q.1 (hp1.mem_iff.2 (apf _ h1)) q.1 hqR rfl
    obtain ⟨ds',hl0,ho0,hc0,_,hnk⟩:=hup.go h' ok' t qo vP ⟨uk,ux⟩ hs hl' ht hok (fun b' hb'=>hrest b' (by simp [hb'])) hw hcs
     (fun b' o' e' hne=>by
      simp only [apd,apo] at e'
      obtain ⟨rfl,rfl⟩:=e'
      exact hrest b apK hne)
    have aeh:∀b'∈R,h' b'=h b':=by
     intro b' hb'
     refine hrest b' (by simp [hb']) ?_
     intro e'
     cases Az:nY with
     | none=>exact absurd Az hwn
     | some q=>
      rw [Az] at e'
      simp only [Option.map_some,apd] at e'
      exact hwb q Az (e'▸hb')
    have hblk:∃kP,h' b=some (.cells kP e (lo,hi))∧kP.size=arr.size∧∀j,¬(o+i.toNat * uk.size≤j∧j<o+i.toNat * uk.size+uk.size)→kP[j]?=arr[j]?:=by
     by_cases hbw:nY.map (·.1)=some b
     ·cases Az:nY with
      | none=>exact absurd Az hwn
      | some q=>
       rw [Az] at hbw
       simp only [Option.map_some,apd] at hbw
       obtain ⟨a1,a2,te,fr,g1,g2,g3,g4⟩:=(hw q.1 q.2 Az).2
       rw [hbw] at g1 g2
       rw [hb] at g1
       simp only [apd,Obj.cells.injEq] at g1
       obtain ⟨rfl,rfl,rfl⟩:=g1
       rcases hin1 q.1 q.2 Az with ⟨_,o0,ew,h1,h2⟩ | ⟨h1,_⟩
       ·simp only [apd,apo] at ew
        refine ⟨a2,g2,g3,fun j hj=>g4 j ?_⟩
        intro hj2
        exact hj (by omega)
       ·exact absurd (hpk.mem_iff.2 (api _ (hp1.mem_iff.2 (apf _ (hbw▸h1))))) hnb
     ·have:=hrest b apK hbw
      exact ⟨arr,this.trans hb,rfl,fun _ _=>rfl⟩
    obtain ⟨kP,hb',hsz',hsame⟩:=hblk
    have hmul:∀a b:Nat,a<b→a * uk.size+uk.size≤b * uk.size:=by
     intro a b hab
     have:(a+1) * uk.size≤b * uk.size:=apJ _ (by omega)
     rwa [Nat.add_mul,Nat.one_mul] at this
    have Vq:∀(j:Nat) (dj:List Value),j≠i.toNat→dj.length=uk.size→Cells h b (o+j * uk.size) dj→Cells h' b (o+j * uk.size) dj:=by
     intro j dj hji hjl h1 q hq
     have:=h1 q hq
     unfold cellAt at this ⊢
     rw [hb] at this
     rw [hb']
     simp only at this ⊢
     rw [hsame _ (by
      rcases Nat.lt_or_gt_of_ne hji with hlt' | ahO
      ·have:=hmul j i.toNat hlt'; omega
      ·have:=hmul i.toNat j ahO; omega)]
     exact this
    have Vr:∀j,j≠i.toNat→∀q∈bz.getD j [],h' q=h q:=by
     intro j hji q hq
     refine aeh q ?_
     rw [←hR]
     by_cases hjf:j<bz.length
     ·rw [apr,aps hjf] at hq
      simp only [Option.getD_some] at hq
      rcases Nat.lt_or_gt_of_ne hji with hlt' | ahO
      ·exact api _ (List.mem_flatten.2 ⟨bz[j],List.mem_take_iff_getElem.2 ⟨j,by omega,rfl⟩,hq⟩)
      ·refine apf _ (List.mem_flatten.2 ⟨bz[j],List.mem_drop_iff_getElem.2 ⟨j - (i.toNat+1),by omega, ?_⟩,hq⟩)
       congr 1
       omega
     ·rw [apr,List.getElem?_eq_none (by omega)] at hq
      simp at hq
    refine ⟨cs,rfl, ?_, ?_,fun _=>rfl, ?_⟩
    ·unfold Ow
     rw [if_pos hmem]
     refine ⟨a,n,c,e1,by rw [e2']; simp,e3, .inr ⟨b,o,kP,lo,hi,ea,hb',by rw [hsz']; exact hf,by rw [hsz']; exact alU,bz.set i.toNat (vP++rest),by simp [alV], ?_, ?_⟩⟩
     ·have:=aai (bz:=bz) (i:=i.toNat) (by omega) (vP++rest)
      rw [hR,apz] at this
      exact (List.perm_middle.trans (.cons b this.symm))
     ·intro j hj
      have hj':j<xs.length:=by simpa using hj
      by_cases hji:j=i.toNat
      ·subst hji
       refine ⟨ds',hc0 b _ rfl, ?_⟩
       have e1:(xs.set i.toNat ux)[i.toNat]'(by simpa using hj')=ux:=by simp
       have e2:(bz.set i.toNat (vP++rest)).getD i.toNat []=vP++rest:=by
        rw [bY (by simp; omega)]; simp
       rw [e2]
       show Ow h' own ok' uk ((xs.set i.toNat ux)[i.toNat]'(by simpa using hj')) ds' _
       rw [e1]
       exact ho0
      ·obtain ⟨dj,h1,h2⟩:=H j hj'
       have hjl:dj.length=uk.size:=dn h2
       refine ⟨dj,Vq j dj hji hjl h1, ?_⟩
       have e1:(xs.set i.toNat ux)[j]'(by simpa using hj')=xs[j]:=by
        rw [List.getElem_set_ne (by omega)]
       have e2:(bz.set i.toNat (vP++rest)).getD j []=bz.getD j []:=by
        rw [apr,apr,List.getElem?_set_ne (by omega)]
       rw [e2]
       show Ow h' own ok' uk ((xs.set i.toNat ux)[j]'(by simpa using hj')) dj _
       rw [e1]
       exact bC (fun b hb=>(hok b hb).2) (fun b hb=>(hok b hb).1) (Vr j hji) h2
    ·intro b' o' e'
     have hcb:=hc b' o' e'
     by_cases hbw:nY.map (·.1)=some b'
     ·cases Az:nY with
      | none=>exact absurd Az hwn
      | some q=>
       rw [Az] at hbw
       simp only [Option.map_some,apd] at hbw
       have hbf:=hbase b' o' e'
       rcases hin1 q.1 q.2 Az with ⟨_,o0,ew,_⟩ | ⟨h1,_⟩
       ·simp only [apd,apo] at ew
        exact absurd (hp.mem_iff.2 (by rw [←hbw, ←ew.1]; exact apK)) hbf
       ·exact absurd (hp.mem_iff.2 (apC _ (hpk.mem_iff.2 (api _ (hp1.mem_iff.2 (apf _ (hbw▸h1))))))) hbf
     ·exact hcb.congr (hb0 b' o' e' hbw)
    ·intro bad hkind Dr
     obtain ⟨_,_,n2,n4⟩:=hnk bad hkind Dr
     refine ⟨fun _=>rfl,rfl, ?_,by
      subst e1
      subst ea
      simp only [bF]
      have hr':qC h' b (o+i.toNat * uk.size) uk.size=ds':=by
       have:=iC (hc0 b _ rfl)
       rwa [hl0,hdl] at this
      rw [hr']
      exact n4⟩
     intro q c0 w0 hq hqt PM hqs
     cases q with
     | nil=>exact ⟨trivial,_,by rw [←(show (cs,wh)=(c0,w0) from by simpa [bF] using PM)]; rfl⟩
     | cons sq q=>
      cases sq with
      | gL m=>simp [nX] at hq
      | idx j=>
       simp only [nX] at hq
       obtain ⟨hj0,hj1,hq⟩:=hq
       have amd:j<(xs.length:Int):=hj1
       have hjl:j.toNat<xs.length:=by omega
       have ejx:(show List (El uk) from xs).getD j.toNat uk.zero=xs[j.toNat]:=bY hjl
       rw [ejx] at hq
       subst e1
       subst ea
       simp only [bF] at PM
       have ah1:∀t∈ah q uk,ay t own=true∧t∉bad:=fun t ht=>hqt t (by simp [ah,ht])
       have hln:j<((xs.set i.toNat ux).length:Int):=by simpa using amd
       by_cases hji:j.toNat=i.toNat
       ·have hr:qC h b (o+j.toNat * uk.size) uk.size=ds:=by
         rw [hji]
         have:=iC hcd
         rwa [hdl] at this
        rw [hr,hji] at PM
        have hq':nX q uk xs[i.toNat]:=by
         have:xs[j.toNat]=xs[i.toNat]:=by congr 1
         rw [←this]; exact hq
        obtain ⟨r1,c1,r2⟩:=n2 q c0 w0 hq' ah1 PM (by
         have:(aT (.idx j :: q) (.sl e uk) (xs.set i.toNat ux)).isSome=true:=hqs
         simp only [aT] at this
         have e3:(show List (El uk) from xs.set i.toNat ux).getD j.toNat uk.zero=ux:=by
          rw [hji,bY (by simpa using hlt)]; simp
         rw [e3] at this
         exact this)
        refine ⟨⟨hj0,hln, ?_⟩,c1, ?_⟩
        ·have:(show List (El uk) from xs.set i.toNat ux).getD j.toNat uk.zero=ux:=by
          rw [hji,bY (by simpa using hlt)]; simp
         rw [this]
         exact r1
        ·simp only [bF]
         have hr':qC h' b (o+j.toNat * uk.size) uk.size=ds':=by
          rw [hji]
          have:=iC (hc0 b _ rfl)
          rwa [hl0,hdl] at this
         rw [hr',hji]
         exact r2
       ·obtain ⟨dj,h1,h2⟩:=H j.toNat hjl
        have aeu:dj.length=uk.size:=dn h2
        have hr:qC h b (o+j.toNat * uk.size) uk.size=dj:=by
         have:=iC h1
         rwa [aeu] at this
        have hr':qC h' b (o+j.toNat * uk.size) uk.size=dj:=by
         have:=iC (Vq j.toNat dj hji aeu h1)
         rwa [aeu] at this
        rw [hr] at PM
        refine ⟨⟨hj0,hln, ?_⟩,c0, ?_⟩
        ·have:(show List (El uk) from xs.set i.toNat ux).getD j.toNat uk.zero=xs[j.toNat]:=by
          rw [bY (by simpa using hjl),List.getElem_set_ne (by omega)]
         rw [this]
         exact hq
        ·simp only [bF]
         rw [hr', ←PM]
         exact Mh q h2 hq (fun t ht=>(ah1 t ht).1) (Vr j.toNat hji)
theorem focus {h:Heap} {own:List TypeId} {ok:Nat→Prop}:∀(p:List Stp) {k:K} {x:El k} {cs:List Value} {fo:List Nat} {wh:Option (Nat×Nat)} {d:Dat},
  Ow h own ok k x cs fo→(∀b o,wh=some (b,o)→Cells h b o cs)→aT p k x=some d→nX p k x→(∀t∈ah p k,ay t own=true)→fo.Nodup→(∀b o,wh=some (b,o)→b∉fo)→
   Foc h own ok p k x cs fo wh d:=by
 intro p
 induction p with
 | nil=>
  intro k x cs fo wh d H hc hg _ _ _ _
  simp only [aT,apd] at hg
  subst hg
  refine ⟨cs,fo,[],wh,rfl,by simp,H,hc,fun b o e=>.inl ⟨rfl,o,e,apu _,apu _⟩,id,⟨?_⟩⟩
  intro h' ok' t qo vP z hz hl ht _ _ hw hn _
  simp only [eF,apd] at hz
  subst hz
  exact ⟨qo,by rw [hl,dn H],by simpa using ht,fun b o e=>(hw b o e).1,hn,fun bad hk Dr=>⟨id,hk,Dr,rfl⟩⟩
 | cons s p ih=>
  intro k x cs fo wh d H hc hg hin PN hnd hbase
  cases s with
  | gL n=>
   cases k with
   | st c=>
    simp only [aT] at hg
    cases hcg:aQ n c x with
    | none=>rw [hcg] at hg; simp at hg
    | some s=>
     rw [hcg] at hg
     simp only at hg
     simp only [nX,hcg] at hin
     have hpt:ah (.gL n :: p) (.st c)=ah p s.1:=by simp [ah,bU n hcg]
     rw [hpt] at PN
     exact aby (show Ow h own ok c x cs fo from H) hc hcg hnd hbase (fun H0 hc0 sO hb0=>ih H0 hc0 hg hin PN sO hb0)
   | _=>simp [aT] at hg
  | idx i=>
   cases k with
   | sl e k=>
    simp only [aT] at hg
    simp only [nX] at hin
    obtain ⟨hi0,hi1,hin⟩:=hin
    have ama:i<((@List.length (El k) x:Nat):Int):=hi1
    have hlt:i.toNat < @List.length (El k) x:=by omega
    have eg:(show List (El k) from x).getD i.toNat k.zero=(show List (El k) from x)[i.toNat]'hlt:=bY hlt
    rw [eg] at hin hg
    exact abz (xs:=x) H hc hnd hbase (PN e (by simp [ah])) hlt (fun H0 hc0 sO hb0=>ih H0 hc0 hg hin (fun t ht=>PN t (by simp [ah,ht])) sO hb0)
   | _=>simp [aT] at hg
end
section
open Go
variable [Fr]
def Prog.ends {α:Type}:Prog α→St→α→Prop
 | .ret a,_,x=>x=a
 | .fail,_,_=>False
 | .slot n k,σ,x=>(k (σ.slots n)).ends σ x
 | .root r k,σ,x=>(k (σ.roots r)).ends σ x
 | .xA c _ k,σ,x=>c∧k.ends σ x
 | .br c t e,σ,x=>(c=true∧t.ends σ x)∨(c=false∧e.ends σ x)
 | .opt _ o k,σ,x=>∃b,o=some b∧(k b).ends σ x
theorem xq {α R:Type} (p:Prog α) {σ:St} {K:α→Option R} {r:R} (h:p.run σ K=some r):∃x,p.ends σ x∧K x=some r:=by
 induction p with
 | ret a=>exact ⟨a,rfl,h⟩
 | fail=>simp [Prog.run] at h
 | slot n k ih=>exact ih _ h
 | root n k ih=>exact ih _ h
 | xA c d k ih=>
  simp only [Prog.run] at h
  split at h
  ·rename_i hc
   obtain ⟨x,h1,h2⟩:=ih h
   exact ⟨x,⟨hc,h1⟩,h2⟩
  ·simp at h
 | br c t e ZB ZA=>
  simp only [Prog.run] at h
  split at h
  ·rename_i hc
   obtain ⟨x,h1,h2⟩:=ZB h
   exact ⟨x, .inl ⟨hc,h1⟩,h2⟩
  ·rename_i hc
   obtain ⟨x,h1,h2⟩:=ZA h
   exact ⟨x, .inr ⟨by simpa using hc,h1⟩,h2⟩
 | opt β o k ih=>
  simp only [Prog.run] at h
  cases ho:o with
  | none=>rw [ho] at h; simp at h
  | some b=>
   rw [ho] at h
   obtain ⟨x,h1,h2⟩:=ih b h
   exact ⟨x,⟨b,rfl,h1⟩,h2⟩
def bV:K→List Value
 | .int ik=>[.int ik 0]
 | .bool=>[.bool false]
 | .str=>[.string ByteArray.empty]
 | .sl _ _=>[.slice none 0 0]
 | .id _=>[.slice none 0 0]
 | .unit=>[]
 | .pair a b=>bV a++bV b
 | .st f=>bV f
 | .gap _=>[]
def sP:K→Value
 | .st f=>.agg (bV f).toArray
 | .int ik=>.int ik 0
 | .bool=>.bool false
 | .str=>.string ByteArray.empty
 | .sl _ _=>.slice none 0 0
 | .id _=>.slice none 0 0
 | _=>undef
def sV (P:Program) (t:TypeId) (k:K):Prop:=∃i,P.info? t=some i∧i.size=k.size∧i.zero=some (sP k)
def jU (P:Program) (T:ji):K→(TypeId→Prop)×(List Field→Nat→Prop)
 | .int ik=>(fun t=>P.underlying t=some (.int ik)∧sV P t (.int ik),fun _ _=>False)
 | .bool=>(fun t=>P.underlying t=some .bool∧sV P t .bool,fun _ _=>False)
 | .str=>(fun t=>P.underlying t=some .string∧sV P t .str,fun _ _=>False)
 | .sl e k=>(fun t=>P.underlying t=some (.slice e)∧sV P t (.sl e k)∧(jU P T k).1 e∧0<k.size∧∃i,P.info? e=some i∧i.bytes=T.bytes e∧0<i.bytes,fun _ _=>False)
 | .unit=>(fun _=>False,fun fs _=>fs=[])
 | .pair a b=>(fun _=>False,fun fs off=>match fs with
  | []=>False
  | f :: fs=>f.offset=off∧(jU P T a).1 f.type∧0<a.size∧(jU P T b).2 fs (off+a.size))
 | .st c=>(fun t=>(∃fs,P.underlying t=some (.struct fs)∧(jU P T c).2 fs.toList 0)∧sV P t (.st c),fun _ _=>False)
 | .gap _=>(fun _=>False,fun _ _=>False)
 | .id e=>(fun t=>P.underlying t=some (.slice e)∧sV P t (.id e)∧T.ids=true,fun _ _=>False)
def fM (P:Program) (T:ji) (t:TypeId) (k:K):Prop:=(jU P T k).1 t
structure fu (P:Program) (T:ji):Prop where
 ty:∀t k,T.ty t=some k→fM P T t k
 ptr:∀t,T.ptr t=true→∃e,P.underlying t=some (.pointer e)
theorem fM.info {P:Program} {T:ji} {t:TypeId} {k:K} (h:fM P T t k):sV P t k:=by
 unfold fM jU at h
 cases k with
 | int ik=>exact h.2
 | bool=>exact h.2
 | id e=>exact h.2.1
 | str=>exact h.2
 | sl e k=>exact h.2.1
 | unit=>exact h.elim
 | pair a b=>exact h.elim
 | st c=>exact h.2
 | gap n=>exact h.elim
def VC (k:K) (v:Value) (cs:List Value):Prop:=match k with
 | .st _=>v=.agg cs.toArray
 | _=>cs=[v]∧∀x,v≠.agg x
theorem VC.cells {k:K} {v:Value} {cs:List Value} (h:VC k v cs):v.cells.toList=cs:=by
 unfold VC at h
 split at h
 ·subst h; simp [Value.cells]
 ·obtain ⟨rfl,hn⟩:=h
  cases v <;> first | rfl | (exact absurd rfl (hn _))
def uO:K→Bool
 | .st _=>true
 | _=>false
theorem fM.isAgg {P:Program} {T:ji} {t:TypeId} {k:K} (h:fM P T t k) (w:World):(Go.isAgg t).run P w=.ok (uO k) w:=by
 unfold fM jU at h
 cases k with
 | int ik=>simp [Go.isAgg,run_underlying h.1,uO]
 | bool=>simp [Go.isAgg,run_underlying h.1,uO]
 | id e=>simp [Go.isAgg,run_underlying h.1,uO]
 | str=>simp [Go.isAgg,run_underlying h.1,uO]
 | sl e k=>simp [Go.isAgg,run_underlying h.1,uO]
 | unit=>exact h.elim
 | pair a b=>exact h.elim
 | st c=>obtain ⟨⟨fs,h1,_⟩,_⟩:=h; simp [Go.isAgg,run_underlying h1,uO]
 | gap n=>exact h.elim
theorem sV.sizeOf {P:Program} {t:TypeId} {k:K} (h:sV P t k) (w:World):(Go.sizeOf t).run P w=.ok k.size w:=by
 obtain ⟨i,h1,h2,_⟩:=h
 simp [Go.sizeOf,run_typeInfo w h1,h2]
theorem sV.zero {P:Program} {t:TypeId} {k:K} (h:sV P t k) (w:World):(Go.zeroValue t).run P w=.ok (sP k) w:=by
 obtain ⟨i,h1,_,h3⟩:=h
 simp [Go.zeroValue,run_typeInfo w h1,h3]
theorem addr_add (b o n:Nat):(⟨b,o,none⟩:Addr).add n=⟨b,o+n,none⟩:=by unfold Addr.add; split <;> simp_all
theorem tV {P:Program} {T:ji} {t:TypeId} {k:K} {w:World} {b o:Nat} {cs:List Value} {v:Value} (h:fM P T t k) (hc:Cells (hp w) b o cs) (hl:cs.length=k.size) (hv:VC k v cs) :
  (Instr.loadAt t (.pointer (some ⟨b,o,none⟩))).run P w=.ok v w:=by
 have hcell:∀j u,cs[j]?=some u→w.cell? ((⟨b,o,none⟩:Addr).add j)=some u:=by
  intro j u hj
  rw [addr_add,Al,hc j (List.getElem?_eq_some_iff.1 hj).1]
  exact hj
 unfold Instr.loadAt Instr.sureAddr loadVar
 simp only [apD,apI,Result.andThen,h.isAgg w]
 cases k with
 | st c=>
  have e:v=.agg cs.toArray:=hv
  have h2:=run_loadCells_list (P:=P) w ⟨b,o,none⟩ cs hcell
  rw [hl] at h2
  simp [uO,h.info.sizeOf w,h2,Result.andThen,e]
 | unit=>exact (show False from h).elim
 | pair a b=>exact (show False from h).elim
 | gap n=>exact (show False from h).elim
 | int ik=>
  obtain ⟨e,_⟩:cs=[v]∧_:=hv
  have:=hcell 0 v (by rw [e]; rfl)
  rw [addr_add,Nat.add_zero] at this
  simp [uO,this]
 | bool=>
  obtain ⟨e,_⟩:cs=[v]∧_:=hv
  have:=hcell 0 v (by rw [e]; rfl)
  rw [addr_add,Nat.add_zero] at this
  simp [uO,this]
 | id e=>
  obtain ⟨e,_⟩:cs=[v]∧_:=hv
  have:=hcell 0 v (by rw [e]; rfl)
  rw [addr_add,Nat.add_zero] at this
  simp [uO,this]
 | str=>
  obtain ⟨e,_⟩:cs=[v]∧_:=hv
  have:=hcell 0 v (by rw [e]; rfl)
  rw [addr_add,Nat.add_zero] at this
  simp [uO,this]
 | sl e k=>
  obtain ⟨e,_⟩:cs=[v]∧_:=hv
  have:=hcell 0 v (by rw [e]; rfl)
  rw [addr_add,Nat.add_zero] at this
  simp [uO,this]
def gN:K→Bool
 | .gap _=>false
 | .pair a b=>gN a && gN b
 | .st f=>gN f
 | _=>true
theorem jU.gN {P:Program} {T:ji}:∀{k:K},(∀t,(jU P T k).1 t→Ow.gN k=true)∧(∀fs off,(jU P T k).2 fs off→Ow.gN k=true):=by
 intro k
 induction k with
 | int ik=>exact ⟨fun _ _=>rfl,fun _ _ h=>h.elim⟩
 | bool=>exact ⟨fun _ _=>rfl,fun _ _ h=>h.elim⟩
 | id e=>exact ⟨fun _ _=>rfl,fun _ _ h=>h.elim⟩
 | str=>exact ⟨fun _ _=>rfl,fun _ _ h=>h.elim⟩
 | sl e k ih=>exact ⟨fun _ _=>rfl,fun _ _ h=>h.elim⟩
 | unit=>exact ⟨fun _ h=>h.elim,fun _ _ _=>rfl⟩
 | pair a b iha ihb=>
  refine ⟨fun _ h=>h.elim,fun fs off h=>?_⟩
  cases fs with
  | nil=>exact h.elim
  | cons f fs=>simp [Ow.gN,iha.1 _ h.2.1,ihb.2 _ _ h.2.2.2]
 | st f ih=>exact ⟨fun t h=>by obtain ⟨⟨fs,_,h⟩,_⟩:=h; exact ih.2 _ _ h,fun _ _ h=>h.elim⟩
 | gap n=>exact ⟨fun _ h=>h.elim,fun _ _ h=>h.elim⟩
theorem fM.gN {P:Program} {T:ji} {t:TypeId} {k:K} (h:fM P T t k):Ow.gN k=true:=jU.gN.1 t h
theorem O5 {h:Heap} {ok:Nat→Prop}:∀{k:K} {x:El k} {cs:List Value},gN k=true→Vw h ok k x cs→∀v∈cs,v.oneCell'=true:=by
 intro k
 induction k with
 | int ik=>intro x cs _ H v hv; rw [H.1] at hv; simp at hv; subst hv; rfl
 | bool=>intro x cs _ H v hv; rw [show cs=_ from H] at hv; simp at hv; subst hv; rfl
 | id e=>intro x cs _ H v hv; rw [show cs=_ from H] at hv; simp only [apx] at hv; subst hv; obtain ⟨a,n,c,h⟩:=Fr.aih x; rw [h]; rfl
 | str=>intro x cs _ H v hv; obtain ⟨B,rfl,_⟩:=H; simp at hv; subst hv; rfl
 | sl e k ih=>intro x cs _ H v hv; obtain ⟨a,n,c,rfl,_⟩:=H; simp at hv; subst hv; rfl
 | unit=>intro x cs _ H v hv; rw [show cs=_ from H] at hv; simp at hv
 | pair a b iha ihb=>
  intro x cs hg H v hv
  simp [gN] at hg
  obtain ⟨c1,c2,rfl,h1,h2⟩:=H
  rcases apm.1 hv with h | h
  ·exact iha hg.1 h1 v h
  ·exact ihb hg.2 h2 v h
 | st f ih=>intro x cs hg H; exact ih (x:=x) hg H
 | gap n=>intro x cs hg; simp [gN] at hg
theorem Td {h:Heap} {own:List TypeId} {ok:Nat→Prop} {k:K} {x:El k} {cs:List Value} {fo:List Nat} (hg:gN k=true) (H:Ow h own ok k x cs fo):∀v∈cs,v.oneCell'=true:=
 O5 hg (lu (fun _=>True) (fun _ _=>trivial) (fun _ _=>trivial) H)
theorem VC.mk {h:Heap} {ok:Nat→Prop} {k:K} {x:El k} {cs:List Value} (hk:∀a b,k≠.pair a b) (hu:k≠.unit) (hg:∀n,k≠.gap n) (H:Vw h ok k x cs):∃v,VC k v cs:=by
 cases k with
 | int ik=>exact ⟨.int ik x,H.1,by simp⟩
 | bool=>exact ⟨.bool x,H,by simp⟩
 | id e=>obtain ⟨a,n,c,h⟩:=Fr.aih x; exact ⟨Fr.iN x,H,by rw [h]; simp⟩
 | str=>obtain ⟨B,e,_⟩:=H; exact ⟨.string B,e,by simp⟩
 | sl e k=>obtain ⟨a,n,c,e,_⟩:=H; exact ⟨.slice a n c,e,by simp⟩
 | unit=>exact absurd rfl hu
 | pair a b=>exact absurd rfl (hk a b)
 | st c=>exact ⟨.agg cs.toArray,rfl⟩
 | gap n=>exact absurd rfl (hg n)
theorem RB (w:World) (o:Obj) (b:Nat):hp (w.alloc o) b=if b=w.heap.size then some o else hp w b:=by
 show (w.heap.push o)[b]?=_
 rw [Array.getElem?_push]
 rfl
theorem qc (w:World) (o:Obj) {b:Nat} (h:b<w.heap.size):hp (w.alloc o) b=hp w b:=by
 rw [RB,if_neg (by omega)]
theorem sj (w:World) (o:Obj):hp (w.alloc o) w.heap.size=some o:=by
 rw [RB,if_pos rfl]
theorem ahX {w:World} {b:Nat} {o:Obj} (h:hp w b=some o):b<w.heap.size:=(Array.getElem?_eq_some_iff.1 h).1
theorem Ir (w:World) (b o:Nat) (v:Value) {b':Nat} (h:b'≠b):hp (w.setCell ⟨b,o,none⟩ v) b'=hp w b':=by
 simp only [hp,World.setCell,Array.getElem?_modify]
 rw [if_neg (by omega)]
theorem JR (w:World) (b o:Nat) (v:Value) {arr:Array Value} {e:TypeId} {fr:Nat×Nat} (h:hp w b=some (.cells arr e fr)) :
  hp (w.setCell ⟨b,o,none⟩ v) b=some (.cells (arr.setIfInBounds o v) e fr):=by
 have h':w.heap[b]?=some (.cells arr e fr):=h
 simp [hp,World.setCell,Array.getElem?_modify,h']
theorem uV (b:Nat):∀(vs:List Value) (w:World) (arr:Array Value) (e:TypeId) (fr:Nat×Nat) (o:Nat),hp w b=some (.cells arr e fr)→o+vs.length≤arr.size→
  (∀b',b'≠b→hp (w.setCells b o vs) b'=hp w b')∧(w.setCells b o vs).heap.size=w.heap.size∧
  ∃kP,hp (w.setCells b o vs) b=some (.cells kP e fr)∧kP.size=arr.size∧(∀i,i<vs.length→kP[o+i]?=vs[i]?)∧∀i,¬(o≤i∧i<o+vs.length)→kP[i]?=arr[i]?:=by
 intro vs
 induction vs with
 | nil=>intro w arr e fr o hb _; exact ⟨fun _ _=>rfl,rfl,arr,hb,rfl,fun i hi=>by simp at hi,fun _ _=>rfl⟩
 | cons v vs ih=>
  intro w arr e fr o hb hl
  simp only [apB] at hl
  have h1:=JR w b o v hb
  obtain ⟨g1,g2,kP,g3,g4,g5,g6⟩:=ih (w.setCell ⟨b,o,none⟩ v) _ e fr (o+1) h1 (by simp; omega)
  refine ⟨fun b' hb'=>(g1 b' hb').trans (Ir w b o v hb'),by rw [World.setCells,g2]; simp [World.setCell],kP,g3,by rw [g4]; simp, ?_, ?_⟩
  ·intro i hi
   simp only [apB] at hi
   cases i with
   | zero=>
    rw [g6 _ (by omega)]
    simp only [Nat.add_zero,List.getElem?_cons_zero]
    rw [Array.getElem?_setIfInBounds_self_of_lt (by omega)]
   | succ i=>
    rw [show o+(i+1)=o+1+i from by omega,g5 i (by omega)]
    simp
  ·intro i hi
   simp only [apB] at hi
   rw [g6 i (by omega),Array.getElem?_setIfInBounds_ne (by omega)]
theorem qD (b:Nat):∀(vs:List Value) (w:World) (o:Nat),(w.setCells b o vs).os=w.os∧(w.setCells b o vs).tape=w.tape∧(w.setCells b o vs).output=w.output:=by
 intro vs
 induction vs with
 | nil=>intro w o; exact ⟨rfl,rfl,rfl⟩
 | cons v vs ih=>intro w o; exact ih (w.setCell ⟨b,o,none⟩ v) (o+1)
theorem nI {P:Program} {w:World} {b o:Nat} {arr:Array Value} {e:TypeId} {lo hi:Nat} (vs:List Value) (hb:hp w b=some (.cells arr e (lo,hi))) (hf:∀i,i<arr.size→¬(lo≤i∧i<hi))
  (hl:o+vs.length≤arr.size) (h1:∀v∈vs,v.oneCell'=true):(storeCells ⟨b,o,none⟩ vs).run P w=.ok () (w.setCells b o vs):=by
 have:=run_storeCells_cells (P:=P) b o vs 0 w (fun j hj=>by
   rw [Al]
   unfold cellAt
   rw [hb]
   simp only [Nat.add_zero]
   rw [Array.getElem?_eq_getElem (by omega)]
   rfl) (fun j hj=>by
   unfold World.frozen?
   have hb':w.heap[b]?=some (.cells arr e (lo,hi)):=hb
   simp only [hb',Nat.add_zero]
   have:=hf (o+j) (by omega)
   simp
   omega) h1
 simpa using this
theorem I7 {P:Program} {T:ji} {t:TypeId} {k:K} {w:World} {b o:Nat} {cs:List Value} {v:Value} {arr:Array Value} {e:TypeId} {lo hi:Nat} (h:fM P T t k) (hb:hp w b=some (.cells arr e (lo,hi)))
  (hf:∀i,i<arr.size→¬(lo≤i∧i<hi)) (hl:cs.length=k.size) (hs:o+k.size≤arr.size) (hv:VC k v cs) (h1:∀v∈cs,v.oneCell'=true) :
  (Instr.storeAt t (.pointer (some ⟨b,o,none⟩)) v).run P w=.ok () (w.setCells b o cs):=by
 have hc:=hv.cells
 have hsz:v.cells.size=k.size:=by rw [←hl, ←hc]; simp
 unfold Instr.storeAt Instr.sureAddr storeVar
 simp only [apD,apI,Result.andThen,h.info.sizeOf w,Sem.run_ite]
 rw [if_neg (by rw [hsz]; simp)]
 rw [hc]
 exact nI cs hb hf (by omega) h1
theorem MI {P:Program} (t:TypeId) (v:Value) (w:World):(newVar t v).run P w=.ok ⟨w.heap.size,0,none⟩ (w.alloc (.cells v.cells t)):=by
 simp [newVar,newRow]
theorem OB {P:Program} (t:TypeId) (v:Value) (w:World):(Instr.box t v).run P w=.ok (.pointer (some ⟨w.heap.size,0,none⟩)) (w.alloc (.cells v.cells t)):=by
 simp [Instr.box,MI,Result.andThen]
theorem Sq {P:Program} {T:ji} {t:TypeId} {k:K} (h:fM P T t k) (w:World):(Instr.alloc t true (.tuple #[])).run P w=.ok (.pointer (some ⟨w.heap.size,0,none⟩)) (w.alloc (.cells (sP k).cells t)):=by
 simp [Instr.alloc,h.info.zero w,MI,Result.andThen]
theorem VV:∀{k:K},(∀a b,k≠.pair a b)→k≠.unit→(∀n,k≠.gap n)→VC k (sP k) (bV k):=by
 intro k h1 h2 h3
 cases k with
 | int ik=>exact ⟨rfl,by simp [sP]⟩
 | bool=>exact ⟨rfl,by simp [sP]⟩
 | id e=>exact ⟨rfl,by simp [sP]⟩
 | str=>exact ⟨rfl,by simp [sP]⟩
 | sl e k=>exact ⟨rfl,by simp [sP]⟩
 | unit=>exact absurd rfl h2
 | pair a b=>exact absurd rfl (h1 a b)
 | st c=>rfl
 | gap n=>exact absurd rfl (h3 n)
theorem Gn {h:Heap} {own:List TypeId} {ok:Nat→Prop}:∀{k:K},gN k=true→(∀t∈k.tys,ay t own=true)→Ow h own ok k k.zero (bV k) []:=by
 intro k
 induction k with
 | int ik=>intro _ _; exact ⟨rfl,rfl,by cases ik <;> simp [JB,K.zero]⟩
 | bool=>intro _ _; exact ⟨rfl,rfl⟩
 | id e=>intro _ _; exact ⟨rfl,by show _=[Fr.iN 0]; rw [Fr.aeP]; rfl⟩
 | str=>intro _ _; exact ⟨rfl,ByteArray.empty,rfl,rfl⟩
 | sl e k ih=>
  intro _ ht
  unfold Ow
  rw [if_pos (ht e (by simp [K.tys]))]
  exact ⟨none,0,0,rfl,rfl,apu _, .inl ⟨rfl,rfl⟩⟩
 | unit=>intro _ _; exact ⟨rfl,rfl⟩
 | pair a b iha ihb=>
  intro hg ht
  simp [gN] at hg
  exact ⟨bV a,bV b,[],[],rfl, .refl _,iha hg.1 (fun t h=>ht t (by simp [K.tys,h])),ihb hg.2 (fun t h=>ht t (by simp [K.tys,h]))⟩
 | st f ih=>intro hg ht; exact ih hg ht
 | gap n=>intro hg; simp [gN] at hg
end
section
open Go
variable [Fr]
structure V7 where
 base:Option (Nat×Nat×Nat)
 bl:List Nat
 kp:Bool
structure Cx where
 nt:Nat
 w0:World
 ext:Nat→Nat→Prop
 par:Nat→Option V7
 ptrs:Nat→List Stp→List TypeId→Value→Prop
 refs:Nat→Value→Prop
structure dK where
 loc:Nat→Nat×Nat
 hdr:Nat→List Value
 fo:Nat→List Nat
def eB (α:dK) (R:Root) (r:Nat):Option (Nat×Nat):=match R.kind with
 | .var _=>some (α.loc r)
 | .par=>some (α.loc r)
 | _=>none
def blk (α:dK) (R:Root) (r:Nat):List Nat:=(match eB α R r with
 | some q=>[q.1]
 | none=>[])++α.fo r
def aR (σ:St) (r:Nat) (R:Root):Prop:=σ.roots r=some R∧R.aX=false
def mG (cx:Cx) (b:Nat):Prop:=∃j pi o n,cx.par j=some pi∧pi.base=some (b,o,n)
def iT (cx:Cx) (σ:St) (α:dK) (F:List Nat) (w:World) (T:List Tag) (b:Nat):Prop:=
 b<w.heap.size∧b∉F∧¬mG cx b∧(∀r R,aR σ r R→b∈blk α R r→∃n,(r,n)∈T)∧
 (b<cx.w0.heap.size→(∃j n,(qp j,n)∈T∧cx.ext j b)∨∃j pi,cx.par j=some pi∧b∈pi.bl)
def bq (σ:St) (R:Root):Prop:=R.aX=false∧bg σ R.Dw R.tags=true
def Ml (σ:St) (α:dK) (F:List Nat) (w:World) (T:List Tag) (b:Nat):Prop:=
 b<w.heap.size∧b∉F∧∀r R,aR σ r R→b∈blk α R r→∃n,(r,n)∈T
def MB (cx:Cx) (σ:St) (α:dK) (F:List Nat) (w:World) (bt:TypeId) (k:K) (x:El k) (T:List Tag) (v:Value):Prop:=
 (∃b o,v=.pointer (some ⟨b,o,none⟩))∧(bg σ (bt :: k.tys) T=true→∃b o cs,v=.pointer (some ⟨b,o,none⟩)∧Cells (hp w) b o cs∧Vw (hp w) (iT cx σ α F w T) k x cs∧Ml σ α F w T b∧
  ((bt=SENT∧∀t∈T,fP t.1=true)∨(wH (hp w) b bt∧¬mG cx b)))
def kK (cx:Cx) (σ:St) (α:dK) (F:List Nat) (w:World):List (TypeId×Dat×List Tag)→List Value→Prop
 | [],[]=>True
 | c :: cs,v :: vs=>MB cx σ α F w c.1 c.2.1.1 c.2.1.2 c.2.2 v∧kK cx σ α F w cs vs
 | _,_=>False
def kL:List Stp→K→Option (Nat×K)
 | [],k=>some (0,k)
 | .gL n :: p, .st c=>match bD n c with
  | some q=>match kL p q.2 with
   | some r=>some (q.1+r.1,r.2)
   | none=>none
  | none=>none
 | _,_=>none
def afo (α:dK) (h:Heap) (r:Nat) (R:Root) (p:List Stp) (q:Nat) (Q:Root) (v:Value):Prop:=
 ∃(e:TypeId) (kk:K) (xs:List (El kk)) (wh:Option (Nat×Nat)) (b:Option Addr) (n c:Nat) (ce:List Value) (hq:Value) (b1 o1 c1:Nat) (arr:Array Value) (lo hi:Nat),
  aT p R.k R.x=some ⟨.sl e kk,xs⟩∧nX p R.k R.x∧(∀t∈ah p R.k,ay t R.own=true)∧bF h p R.k (α.hdr r) (eB α R r)=some ([.slice b n c],wh)∧
  (Q.k=QO e kk∧Q.kind=.anon)∧α.hdr q=ce++[hq]∧ce.length=kk.size∧v=.slice (some ⟨b1,o1,none⟩) (n+1) c1∧n+1≤c1∧
  h b1=some (.cells arr e (lo,hi))∧(∀i,i<arr.size→¬(lo≤i∧i<hi))∧o1+c1 * kk.size≤arr.size∧Cells h b1 (o1+n * kk.size) ce∧
  ((b=some ⟨b1,o1,none⟩∧b1∈α.fo r∧hq=.slice none 0 0∧c=c1)∨(hq=.slice (some ⟨b1,o1,none⟩) 0 c1∧b1∈α.fo q∧(0<n→∃b0 o0,b=some ⟨b0,o0,none⟩∧b0∈α.fo r∧∀i,i<n * kk.size→cellAt h b1 (o1+i)=cellAt h b0 (o0+i))))
def bI (cx:Cx) (σ:St) (α:dK) (F:List Nat) (w:World):AV→Value→Prop
 | .undef,_=>True
 | .val k x T,v=>(k.flat=true∨bg σ k.tys T=true)→∃cs,VC k v cs∧Vw (hp w) (iT cx σ α F w T) k x cs
 | .iQ,v=>∃a,v=.slice a 0 0
 | .ref r g,v=>∀R,aR σ r R→R.g=g→R.kind=.anon∧VC R.k v (α.hdr r)
 | .xy r p n,v=>∀R,σ.roots r=some R→bq σ R→R.yO=n→∀d,aT p R.k R.x=some d→
   nX p R.k R.x∧(∀t∈ah p R.k,ay t R.own=true)∧∃cs wh,bF (hp w) p R.k (α.hdr r) (eB α R r)=some (cs,wh)∧VC d.1 v cs
 | .ptr r p n,v=>(∃b o,v=.pointer (some ⟨b,o,none⟩))∧∀R,σ.roots r=some R→bq σ R→clean R.h n (eD p R.k)=true→(∀t∈ah p R.k,ay t R.own=true)→(aT p R.k R.x).isSome=true→
   nX p R.k R.x∧∃cs b o,bF (hp w) p R.k (α.hdr r) (eB α R r)=some (cs,some (b,o))∧v=.pointer (some ⟨b,o,none⟩)
 | .je bt k x T,v=>MB cx σ α F w bt k x T v
 | .sG,v=>v=.pointer none
 | .Bz e,v=>∃b,v=.bool b∧(b=true→e=true)
 | .part r g lo hi sz,v=>∃b' b n c,v=.slice b' (hi - lo) (c - lo)∧(lo=0∨c≠lo→b'=b.map (·.add (lo * sz)))∧lo≤hi∧hi≤n∧n≤c∧∀R,aR σ r R→R.g=g→R.kind=.anon∧VC R.k (.slice b n c) (α.hdr r)
 | .K5 r g k p,v=>∃u b off k1,v=.pointer (some ⟨b,off,none⟩)∧Ml σ α F w [] b∧Cells (hp w) b 0 u.cells.toList∧kL p k=some (off,k1)∧∀R,aR σ r R→R.g=g→R.kind=.anon∧VC R.k u (α.hdr r)
 | .yL r p n m,v=>∃b c,v=.slice b m c∧∀R,σ.roots r=some R→bq σ R→R.yO=n→∀d,aT p R.k R.x=some d→
   nX p R.k R.x∧(∀t∈ah p R.k,ay t R.own=true)∧∃q wh,bF (hp w) p R.k (α.hdr r) (eB α R r)=some ([.slice b q c],wh)∧m≤q
 | .app r p n q,v=>∀R,σ.roots r=some R→bq σ R→R.yO=n→∀Q,aR σ q Q→Q.yO=0→afo α (hp w) r R p q Q v
 | .fn f cs,v=>∃vs:List Value,v=.func (.func f) #[] vs.toArray∧kK cx σ α F w cs vs
def fG (cx:Cx) (σ:St) (α:dK) (F:List Nat) (w:World):List AV→List Value→Prop
 | [],[]=>True
 | a :: l,v :: vs=>bI cx σ α F w a v∧fG cx σ α F w l vs
 | _,_=>False
def jT (cx:Cx) (σ:St) (α:dK) (F:List Nat) (w:World):yQ→Value→Prop
 | .one a,v=>bI cx σ α F w a v
 | .J7 l,v=>∃vs:List Value,v=.tuple vs.toArray∧fG cx σ α F w l vs
def Gl (σ:St) (t:Tag):Prop:=fP t.1=true∨∃R,σ.roots t.1=some R∧(R.aX=true∨t.2≤gG R.w)
def fD (σ:St) (T:List Tag):Prop:=∀t∈T,Gl σ t
def tF (σ:St):AV→Prop
 | .val _ _ T=>fD σ T
 | .ref r g=>∃R,σ.roots r=some R∧(R.aX=true∨g≤R.g)
 | .xy r _ n=>∃R,σ.roots r=some R∧(R.aX=true∨n≤R.yO)
 | .K5 r g _ _=>∃R,σ.roots r=some R∧(R.aX=true∨g≤R.g)
 | .part r g _ _ _=>∃R,σ.roots r=some R∧(R.aX=true∨g≤R.g)
 | .yL r _ n _=>∃R,σ.roots r=some R∧(R.aX=true∨n≤R.yO)
 | .app r _ n q=>(∃R,σ.roots r=some R∧(R.aX=true∨n≤R.yO))∧∃R,σ.roots q=some R
 | .ptr r _ n=>∃R,σ.roots r=some R∧(R.aX=true∨n≤gG R.h)
 | .je _ _ _ T=>fD σ T
 | .fn _ cs=>∀c∈cs,fD σ c.2.2
 | _=>True
def Ah (σ:St):yQ→Prop
 | .one a=>tF σ a
 | .J7 l=>∀a∈l,tF σ a
def adF (cx:Cx) (w:World):Prop:=
 w.os=cx.w0.os∧w.tape=cx.w0.tape∧w.output=cx.w0.output∧cx.w0.heap.size≤w.heap.size∧
 (∀b,b<cx.w0.heap.size→(∀j pi,cx.par j=some pi→b∉pi.bl)→hp w b=hp cx.w0 b)∧
 (∀j pi b o n,cx.par j=some pi→pi.base=some (b,o,n)→gT (hp cx.w0) (hp w) b o n)
def mine (cx:Cx) (w:World) (b:Nat):Prop:=b<w.heap.size∧(cx.w0.heap.size≤b∨∃j pi,cx.par j=some pi∧b∈pi.bl)
structure uZ (cx:Cx) (σ:St) (α:dK) (F:List Nat) (w:World) (r:Nat) (R:Root):Prop where
 ow:bq σ R→Ow (hp w) R.own (iT cx σ α F w R.tags) R.k R.x (α.hdr r) (α.fo r)
 len:(α.hdr r).length=R.k.size
 mem:∀b o,eB α R r=some (b,o)→Cells (hp w) b o (α.hdr r)∧∃arr e lo hi,hp w b=some (.cells arr e (lo,hi))∧(∀i,i<arr.size→¬(lo≤i∧i<hi))∧o+R.k.size≤arr.size∧(∀t,R.kind=.var t→e=t)
 nd:(blk α R r).Nodup
 mine:∀b∈blk α R r,Ow.mine cx w b
structure Rel (cx:Cx) (σ:St) (α:dK) (F:List Nat) (a:Act) (w:World):Prop where
 defs:a.defers=[]
 sz:cx.nt≤a.tmps.size
 mQ:∀j pi b o n,cx.par j=some pi→pi.base=some (b,o,n)→∃R,aR σ (au j) R∧R.kind=.par∧α.loc (au j)=(b,o)∧R.k.size=n
 JA:∀r R,aR σ r R→R.kind=.par→∃j pi n,r=au j∧cx.par j=some pi∧pi.base=some ((α.loc r).1,(α.loc r).2,n)
 slots:∀s,jT cx σ α F w (σ.slots s) (a.tmps.getD s undef)
 AR:∀s,Ah σ (σ.slots s)
 roots:∀r R,aR σ r R→uZ cx σ α F w r R
 dD:∀r R,σ.roots r=some R→fD σ R.tags∧fP r=false∧(∀n,(r,n)∉R.tags)
 MX:∀r R r' R',aR σ r R→aR σ r' R'→r≠r'→∀b∈blk α R r,b∉blk α R' r'
 fl:∀b∈F,mine cx w b
 Ca:F.Nodup
 jB:∀r R,aR σ r R→∀b∈blk α R r,b∉F
 frame:adF cx w
 wP:∀j pi,cx.par j=some pi→pi.kp=true→∃R,σ.roots (au j)=some R∧(R.aX=false→∀b∈pi.bl,¬mG cx b→
  (∃e,q8 (hp cx.w0) b=some e∧(e∈R.w∨e∈R.ew))∨(hp w b=hp cx.w0 b∧b∉F∧∀q Q,aR σ q Q→b∈blk α Q q→q=au j))
 qA:(∀j pi,cx.par j=some pi→∀b∈pi.bl,b<cx.w0.heap.size)∧(∀b,Fr.free b→b<cx.w0.heap.size∧∀j pi,cx.par j=some pi→b∉pi.bl)∧∀b,Fr.free b→hp cx.w0 b=Fr.obj b
 zw:∀j p ts v,cx.ptrs j p ts v→(∃b o,v=.pointer (some ⟨b,o,none⟩))∧∃R,σ.roots (au j)=some R∧((∀t∈ts,t∉R.eh)→bI cx σ α F w (.ptr (au j) p 0) v)
 zy:∀j v,cx.refs j v→(∃R,σ.roots (au j)=some R)∧bI cx σ α F w (.ref (au j) 0) v
theorem Rel.VG {cx:Cx} {σ:St} {α:dK} {F:List Nat} {a:Act} {w:World} (H:Rel cx σ α F a w) {b:Nat} (hm:mine cx w b):¬Fr.free b:=by
 intro hf
 obtain ⟨h1,h2⟩:=H.qA.2.1 b hf
 rcases hm.2 with h | ⟨j,pi,h3,h4⟩
 ·omega
 ·exact h2 j pi h3 h4
theorem Rel.fixed {cx:Cx} {σ:St} {α:dK} {F:List Nat} {a:Act} {w:World} (H:Rel cx σ α F a w) {b:Nat} (hf:Fr.free b):hp w b=Fr.obj b:=by
 obtain ⟨h1,h2⟩:=H.qA.2.1 b hf
 rw [H.frame.2.2.2.2.1 b h1 h2]
 exact H.qA.2.2 b hf
theorem Rel.UX {cx:Cx} {σ:St} {α:dK} {F:List Nat} {a:Act} {w:World} (H:Rel cx σ α F a w) {b:Nat} {t:TypeId} (hm:mine cx w b) (h:wH (hp w) b t):q8 (hp w) b=some t:=h.resolve_right (H.VG hm)
theorem qd {A:Type} (l:List A):gG l=l.length:=by induction l <;> simp_all [gG]
theorem aL {n:Nat} {l:List Nat}:ay n l=true↔n∈l:=by
 induction l with
 | nil=>simp [ay]
 | cons m l ih=>
  simp only [ay,apq]
  cases h:Nat.beq n m with
  | true=>simp [aph h]
  | false=>simp [ih,Nat.ne_of_beq_eq_false h]
theorem aV {n:Nat} {l:List Nat}:ay n l=false↔n∉l:=by rw [←aL]; simp
theorem Qh (a l:List Nat) {n:Nat} (h:n≤gG l):since (a++l) n=a++since l n:=by
 unfold since
 rw [qd] at h
 simp only [qd,apl]
 rw [List.take_append,List.take_of_length_le (by omega)]
 congr 2
 omega
theorem qa {a l:List Nat} {n:Nat} {tys:List Nat} (h:n≤gG l):clean (a++l) n tys=true↔(∀t∈a,t∉tys)∧clean l n tys=true:=by
 unfold clean
 rw [Qh a l h,List.all_append,apj,apt]
 simp [aV]
theorem Q6 {σ:St} {tys:List TypeId} {t:Tag} {T:List Tag}:bg σ tys (t :: T)=true↔(fP t.1=true∨∃R,σ.roots t.1=some R∧R.aX=false∧clean R.w t.2 tys=true)∧bg σ tys T=true:=by
 obtain ⟨r,n⟩:=t
 simp only [bg,apj]
 cases he:fP r with
 | true=>simp
 | false=>
  simp only [cond_false,apg,false_or]
  cases hr:σ.roots r with
  | none=>simp
  | some R=>simp
theorem o8 {σ:St} {tys:List TypeId} {T:List Tag}:bg σ tys T=true↔∀t∈T,fP t.1=true∨∃R,σ.roots t.1=some R∧R.aX=false∧clean R.w t.2 tys=true:=by
 induction T with
 | nil=>simp [bg]
 | cons t T ih=>rw [Q6,ih]; simp
def Views (cx:Cx) (σ:St) (α:dK) (F:List Nat) (w:World) (σ':St) (α':dK) (F':List Nat) (w':World):Prop:=
 ∀T tys,fD σ T→bg σ' tys T=true→bg σ tys T=true∧
  (∀b,iT cx σ α F w T b→((∃t∈tys,wH (hp w) b t)∨∀t∈T,fP t.1=true)→iT cx σ' α' F' w' T b∧hp w' b=hp w b)∧
  ∀b,Ml σ α F w T b→((∃t∈tys,wH (hp w) b t)∧¬mG cx b∨∀t∈T,fP t.1=true)→Ml σ' α' F' w' T b∧hp w' b=hp w b
theorem Views.vw {cx:Cx} {σ σ':St} {α α':dK} {F F':List Nat} {w w':World} (H:Views cx σ α F w σ' α' F' w') {T:List Tag} {tys:List TypeId} (hw:fD σ T) (hc:bg σ' tys T=true)
  {k:K} {x:El k} {cs:List Value} (hk:∀t∈k.tys,t∈tys) (h:Vw (hp w) (iT cx σ α F w T) k x cs):Vw (hp w') (iT cx σ' α' F' w' T) k x cs:=by
 obtain ⟨_,h2,_⟩:=H T tys hw hc
 exact fT (fun b hb=>(h2 b hb.1 (.inl hb.2)).2) (fun b hb=>(h2 b hb.1 (.inl hb.2)).1) (KG tys hk h)
theorem Views.ro {cx:Cx} {σ σ':St} {α α':dK} {F F':List Nat} {w w':World} (H:Views cx σ α F w σ' α' F' w') {bt:TypeId} {k:K} {x:El k} {T:List Tag} {v:Value} (hw:fD σ T)
  (h:MB cx σ α F w bt k x T v):MB cx σ' α' F' w' bt k x T v:=by
 refine ⟨h.1,fun hc=>?_⟩
 obtain ⟨h1,_,h2⟩:=H T _ hw hc
 obtain ⟨b,o,cs,e,hcs,hv,hok,hb⟩:=h.2 h1
 have hb':Ml σ' α' F' w' T b∧hp w' b=hp w b:=h2 b hok (by
  rcases hb with ⟨_,hb⟩ | hb
  ·exact .inr hb
  ·exact .inl ⟨⟨bt,by simp,hb.1⟩,hb.2⟩)
 exact ⟨b,o,cs,e,hcs.congr hb'.2,H.vw hw hc (fun t ht=>by simp [ht]) hv,hb'.1,hb.imp id (fun h=>⟨Lb hb'.2 h.1,h.2⟩)⟩
theorem Views.caps {cx:Cx} {σ σ':St} {α α':dK} {F F':List Nat} {w w':World} (H:Views cx σ α F w σ' α' F' w') :
  ∀{cs:List (TypeId×Dat×List Tag)} {vs:List Value},(∀c∈cs,fD σ c.2.2)→kK cx σ α F w cs vs→kK cx σ' α' F' w' cs vs
 | [],[],_,h=>h
 | c :: cs,v :: vs,hw,h=>⟨H.ro (hw c (by simp)) h.1,H.caps (fun c hc=>hw c (by simp [hc])) h.2⟩
 | [],_ :: _,_,h=>h.elim
 | _ :: _,[],_,h=>h.elim
theorem vY {cx:Cx} {σ σ':St} {α α':dK} {F F':List Nat} {w w':World} (H:Views cx σ α F w σ' α' F' w') {R:Root} (hw:fD σ R.tags) (h:bq σ' R):bq σ R:=
 ⟨h.1,(H R.tags R.Dw hw h.2).1⟩
end
section
open Go
variable [Fr]
theorem upd_same {A:Type} (f:Nat→A) (n:Nat) (v:A):upd f n v n=v:=by simp [upd]
theorem upd_ne {A:Type} (f:Nat→A) {n m:Nat} (v:A) (h:m≠n):upd f n v m=f m:=by
 unfold upd
 cases h':Nat.beq m n with
 | true=>exact absurd (aph h') h
 | false=>rfl
structure Same (σ:St) (α:dK) (σ':St) (α':dK) (r:Nat):Prop where
 root:σ'.roots r=σ.roots r
 loc:α'.loc r=α.loc r
 hdr:α'.hdr r=α.hdr r
 fo:α'.fo r=α.fo r
theorem Same.wh {σ σ':St} {α α':dK} {r:Nat} (h:Same σ α σ' α' r) (R:Root):eB α' R r=eB α R r:=by unfold eB; rw [h.loc]
theorem Same.blk {σ σ':St} {α α':dK} {r:Nat} (h:Same σ α σ' α' r) (R:Root):blk α' R r=blk α R r:=by unfold Ow.blk; rw [h.wh,h.fo]
theorem Same.live {σ σ':St} {α α':dK} {r:Nat} (h:Same σ α σ' α' r) (R:Root):aR σ' r R↔aR σ r R:=by unfold aR; rw [h.root]
def Stepped (σ:St) (α:dK) (σ':St) (α':dK) (lw lh:Nat→List Nat) (r:Nat) (R R':Root):Prop:=
 R'.w=lw r++R.w∧R'.h=lh r++R.h∧R.g≤R'.g∧R'.kind=R.kind∧α'.loc r=α.loc r∧(R.kind=.par→R'.k.size=R.k.size)∧((lw r≠[]∨lh r≠[])∨(lw r=[]∧lh r=[]∧Same σ α σ' α' r))
def Loose (cx:Cx) (σ':St) (lw:Nat→List Nat) (w:World) (r b:Nat):Prop:=
 (∀R',σ'.roots r=some R'→R'.aX=true)∨(∃e∈lw r,q8 (hp w) b=some e)∨(mG cx b∧lw r≠[])
structure nE (cx:Cx) (σ:St) (α:dK) (F:List Nat) (w:World) (σ':St) (α':dK) (F':List Nat) (w':World) (lw lh:Nat→List Nat):Prop where
 slots:σ'.slots=σ.slots
 os:w'.os=w.os∧w'.tape=w.tape∧w'.output=w.output
 size:w.heap.size≤w'.heap.size
 old:∀r R,σ.roots r=some R→∃R',σ'.roots r=some R'∧((R'.aX=true∧R.kind≠.par)∨(R.aX=false∧Stepped σ α σ' α' lw lh r R R'))
 wr:∀r R',σ'.roots r=some R'→¬Same σ α σ' α' r→fD σ' R'.tags∧fP r=false∧(∀n,(r,n)∉R'.tags)
 aio:∀r R',σ.roots r=none→σ'.roots r=some R'→R'.kind≠.par
 SI:∀b,b<w.heap.size→hp w' b≠hp w b→b∈F∨∃r R,aR σ r R∧b∈blk α R r∧Loose cx σ' lw w r b
 new:∀b,((∃r R',aR σ' r R'∧b∈blk α' R' r∧¬∃R,aR σ r R∧b∈blk α R r)∨b∈F')→b∈F∨(w.heap.size≤b∧b<w'.heap.size)∨∃r R,aR σ r R∧b∈blk α R r∧Loose cx σ' lw w r b
 Ca:F'.Nodup
 jB:∀r R',aR σ' r R'→¬Same σ α σ' α' r→∀b∈blk α' R' r,b∉F'
 MX:∀r R r' R',aR σ' r R→aR σ' r' R'→r≠r'→¬Same σ α σ' α' r→¬Same σ α σ' α' r'→∀b∈blk α' R r,b∉blk α' R' r'
 base:∀j pi b o n,cx.par j=some pi→pi.base=some (b,o,n)→hp w' b≠hp w b→gT (hp cx.w0) (hp w') b o n
 ev:∀r R R',σ.roots r=some R→σ'.roots r=some R'→R'.aX=false→R'.ew=R.ew∧R'.eh=R.eh
section
variable {cx:Cx} {σ:St} {α:dK} {F:List Nat} {a:Act} {w:World} {σ':St} {α':dK} {F':List Nat} {w':World} {lw lh:Nat→List Nat}
theorem nE.tag (T:nE cx σ α F w σ' α' F' w' lw lh) {t:Tag} (h:Gl σ t):Gl σ' t:=by
 rcases h with h | ⟨R,h1,h2⟩
 ·exact .inl h
 ·obtain ⟨R',g1,g2⟩:=T.old _ R h1
  refine .inr ⟨R',g1, ?_⟩
  rcases g2 with ⟨g2,_⟩ | ⟨gd,g2,_⟩
  ·exact .inl g2
  ·rcases h2 with h2 | h2
   ·rw [gd] at h2; simp at h2
   ·right
    rw [g2]
    simp only [qd,apl] at h2 ⊢
    omega
theorem nE.tF (T:nE cx σ α F w σ' α' F' w' lw lh) {x:AV} (h:tF σ x):tF σ' x:=by
 have key:∀(q:Nat) (f:Root→Nat) (n:Nat),(∀R R',Stepped σ α σ' α' lw lh q R R'→f R≤f R')→(∃Q,σ.roots q=some Q∧(Q.aX=true∨n≤f Q))→∃Q,σ'.roots q=some Q∧(Q.aX=true∨n≤f Q):=by
  intro q f n hf ⟨Q,h1,h2⟩
  obtain ⟨R',g1,g2⟩:=T.old _ Q h1
  refine ⟨R',g1, ?_⟩
  rcases g2 with ⟨g2,_⟩ | ⟨gd,g2⟩
  ·exact .inl g2
  ·rcases h2 with h2 | h2
   ·rw [gd] at h2; simp at h2
   ·exact .inr (Nat.le_trans h2 (hf _ _ g2))
 cases x with
 | undef=>trivial
 | val k x Tg=>exact fun t ht=>T.tag (h t ht)
 | iQ=>trivial
 | ref q g=>exact key q (·.g) g (fun R R' h=>h.2.2.1) h
 | K5 q g k p=>exact key q (·.g) g (fun R R' h=>h.2.2.1) h
 | xy q p n=>exact key q Root.yO n (fun R R' h=>by simp only [Root.yO,h.1,h.2.1,qd,apl]; omega) h
 | ptr q p n=>exact key q (fun R=>gG R.h) n (fun R R' h=>by simp only [h.2.1,qd,apl]; omega) h
 | je bt k x Tg=>exact fun t ht=>T.tag (h t ht)
 | sG=>trivial
 | Bz _=>trivial
 | part q g _ _ _=>exact key q (·.g) g (fun R R' h=>h.2.2.1) h
 | yL q p n _=>exact key q Root.yO n (fun R R' h=>by simp only [Root.yO,h.1,h.2.1,qd,apl]; omega) h
 | app q p n q2=>
  refine ⟨key q Root.yO n (fun R R' h=>by simp only [Root.yO,h.1,h.2.1,qd,apl]; omega) h.1, ?_⟩
  obtain ⟨R,hR⟩:=h.2
  obtain ⟨R',g1,_⟩:=T.old _ R hR
  exact ⟨R',g1⟩
 | fn f cs=>exact fun c hc t ht=>T.tag (h c hc t ht)
theorem nE.Ah (T:nE cx σ α F w σ' α' F' w' lw lh) {x:yQ} (h:Ah σ x):Ah σ' x:=by
 cases x with
 | one a=>exact T.tF h
 | J7 l=>exact fun a ha=>T.tF (h a ha)
theorem nE.held (H:Rel cx σ α F a w) (T:nE cx σ α F w σ' α' F' w' lw lh) {Tg:List Tag} {tys:List TypeId} (hw:fD σ Tg) (hc:bg σ' tys Tg=true) {r n b:Nat} {R:Root} (hr:aR σ r R) (hn:(r,n)∈Tg) (hbr:b∈blk α R r)
  (hty:(∃t∈tys,wH (hp w) b t)∧¬mG cx b∨∀t∈Tg,fP t.1=true):clean R.w n tys=true∧¬Loose cx σ' lw w r b:=by
 have hnr:fP r=false:=(H.dD r R hr.1).2.1
 rw [o8] at hc
 rcases hc (r,n) hn with h | ⟨Q,h1,h2,h3⟩
 ·simp only at h; rw [hnr] at h; simp at h
 ·obtain ⟨R',g1,g2⟩:=T.old _ R hr.1
  simp only at h1 h3
  rw [g1] at h1
  simp only [apd] at h1
  subst h1
  rcases g2 with ⟨g2,_⟩ | ⟨gd,g2,_⟩
  ·rw [h2] at g2; simp at g2
  ·have hb:n≤gG R.w:=by
    rcases hw (r,n) hn with h | ⟨Q,q1,q2⟩
    ·simp only at h; rw [hnr] at h; simp at h
    ·simp only at q1 q2
     rw [hr.1] at q1
     simp only [apd] at q1
     subst q1
     rcases q2 with q2 | q2
     ·rw [hr.2] at q2; simp at q2
     ·exact q2
   rw [g2,qa hb] at h3
   refine ⟨h3.2, ?_⟩
   rintro (hx | ⟨e,he,hel⟩ | ⟨hx,_⟩)
   rotate_left 2
   ·rcases hty with ⟨_,hnb⟩ | hty
    ·exact hnb hx
    ·have:=hty (r,n) hn
     simp only at this
     rw [hnr] at this
     simp at this
   ·have:=hx R' g1
    rw [h2] at this
    simp at this
   ·rcases hty with ⟨⟨t,ht,Y9⟩,_⟩ | hty
    ·have Y9:=H.UX ((H.roots r R hr).mine b hbr) Y9
     rw [hel] at Y9
     simp only [apd] at Y9
     subst Y9
     exact h3.1 e he ht
    ·have:=hty (r,n) hn
     simp only at this
     rw [hnr] at this
     simp at this
theorem nE.views (H:Rel cx σ α F a w) (T:nE cx σ α F w σ' α' F' w' lw lh):Views cx σ α F w σ' α' F' w':=by
 intro Tg tys hw hc
 refine ⟨?_, ?_⟩
 ·rw [o8]
  intro t ht
  have hc':=o8.1 hc t ht
  rcases hw t ht with h | ⟨R,h1,h2⟩
  ·exact .inl h
  ·cases hd:R.aX with
   | false=>
    refine .inr ⟨R,h1,hd, ?_⟩
    rcases hc' with hx | ⟨Q,q1,q2,q3⟩
    ·have:=(H.dD _ _ h1).2.1
     rw [hx] at this
     simp at this
    ·obtain ⟨R',g1,g2⟩:=T.old _ R h1
     rw [g1] at q1
     simp only [apd] at q1
     subst q1
     rcases g2 with ⟨g2,_⟩ | ⟨_,g2,_⟩
     ·rw [q2] at g2; simp at g2
     ·rcases h2 with h2 | h2
      ·rw [hd] at h2; simp at h2
      ·rw [g2,qa h2] at q3
       exact q3.2
   | true=>
    rcases hc' with hx | ⟨Q,q1,q2,q3⟩
    ·exact .inl hx
    ·obtain ⟨R',g1,g2⟩:=T.old _ R h1
     rw [g1] at q1
     simp only [apd] at q1
     subst q1
     rcases g2 with ⟨g2,_⟩ | ⟨g2,_⟩
     ·rw [q2] at g2; simp at g2
     ·rw [hd] at g2; simp at g2
 ·have hQ:∀b,Ml σ α F w Tg b→((∃t∈tys,wH (hp w) b t)∧¬mG cx b∨∀t∈Tg,fP t.1=true)→Ml σ' α' F' w' Tg b∧hp w' b=hp w b:=by
   intro b hb hty
   obtain ⟨hb1,hb2,hb3⟩:=hb
   have hno:¬∃r R,aR σ r R∧b∈blk α R r∧Loose cx σ' lw w r b:=by
    rintro ⟨r,R,hr,hbr,hl⟩
    obtain ⟨n,hn⟩:=hb3 r R hr hbr
    exact (T.held H hw hc hr hn hbr hty).2 hl
   have hsame:hp w' b=hp w b:=by
    refine apA fun hne=>?_
    rcases T.SI b hb1 hne with h | h
    ·exact hb2 h
    ·exact hno h
   have hnew:¬(b∈F∨(w.heap.size≤b∧b<w'.heap.size)∨∃r R,aR σ r R∧b∈blk α R r∧Loose cx σ' lw w r b):=by
    rintro (h | h | h)
    ·exact hb2 h
    ·omega
    ·exact hno h
   refine ⟨⟨Nat.lt_of_lt_of_le hb1 T.size,fun hF=>hnew (T.new b (.inr hF)), ?_⟩,hsame⟩
   intro q Q hq hbq
   by_cases e:∃R,aR σ q R∧b∈blk α R q
   ·obtain ⟨R,hR,hbR⟩:=e
    exact hb3 q R hR hbR
   ·exact absurd (T.new b (.inl ⟨q,Q,hq,hbq,e⟩)) hnew
  refine ⟨fun b hb hty=>?_,hQ⟩
  obtain ⟨hb1,hb2,hb5,hb3,hb4⟩:=hb
  obtain ⟨⟨g1,g2,g3⟩,g4⟩:=hQ b ⟨hb1,hb2,hb3⟩ (hty.imp (fun h=>⟨h,hb5⟩) id)
  exact ⟨⟨g1,g2,hb5,g3,hb4⟩,g4⟩
theorem nE.stay (H:Rel cx σ α F a w) (T:nE cx σ α F w σ' α' F' w' lw lh) {q:Nat} {Q:Root} (hq:aR σ q Q) (hs:Same σ α σ' α' q):∀b∈blk α Q q,¬(b∈F∨(w.heap.size≤b∧b<w'.heap.size)∨∃r R,aR σ r R∧b∈blk α R r∧Loose cx σ' lw w r b):=by
 rintro b hb (h | h | ⟨r,R,hr,hbr,hl⟩)
 ·exact H.jB q Q hq b hb h
 ·have:=((H.roots q Q hq).mine b hb).1; omega
 ·by_cases e:q=r
  ·subst e
   obtain ⟨R',g1,g2⟩:=T.old _ Q hq.1
   have hR':R'=Q:=by
    have:=hs.root
    rw [g1,hq.1] at this
    simpa using this
   subst hR'
   rcases g2 with ⟨g2,_⟩ | ⟨_,g2,_⟩
   ·rw [hq.2] at g2; simp at g2
   ·have hw0:lw q=[]:=by
     have:=congrArg List.length g2
     simp at this
     exact this
    rcases hl with hl | ⟨e,he,_⟩ | ⟨_,hl⟩
    ·have:=hl R' g1
     rw [hq.2] at this
     simp at this
    ·rw [hw0] at he; simp at he
    ·exact hl hw0
  ·exact H.MX q Q r R hq hr e b hb hbr
theorem nE.other (H:Rel cx σ α F a w) (T:nE cx σ α F w σ' α' F' w' lw lh) {q:Nat} {Q:Root} (hq:aR σ q Q) (hs:Same σ α σ' α' q):∀b∈blk α Q q,hp w' b=hp w b:=by
 intro b hb
 refine apA fun hne=>?_
 have:=T.stay H hq hs b hb
 rcases T.SI b ((H.roots q Q hq).mine b hb).1 hne with h | h
 ·exact this (.inl h)
 ·exact this (.inr (.inr h))
theorem nE.av (H:Rel cx σ α F a w) (T:nE cx σ α F w σ' α' F' w' lw lh)
  (Ia:∀r R,aR σ r R→¬Same σ α σ' α' r→∀p n v,n≤gG R.h→bI cx σ α F w (.ptr r p n) v→bI cx σ' α' F' w' (.ptr r p n) v)
  (Dt:∀r R,aR σ r R→¬Same σ α σ' α' r→∀g v,g≤R.g→bI cx σ α F w (.ref r g) v→bI cx σ' α' F' w' (.ref r g) v)
  {x:AV} {v:Value} (hx:Ow.tF σ x) (h:bI cx σ α F w x v):bI cx σ' α' F' w' x v:=by
 have hV:=T.views H
 have Dr:∀{q:Nat} {Q:Root} {p:List Stp},σ.roots q=some Q→Same σ α σ' α' q→bq σ' Q→nX p Q.k Q.x→(∀t∈ah p Q.k,ay t Q.own=true)→
   bF (hp w') p Q.k (α'.hdr q) (eB α' Q q)=bF (hp w) p Q.k (α.hdr q) (eB α Q q):=by
  intro q Q p hq hs hv hin hty
  have hv':=vY hV (H.dD q Q hq).1 hv
  have hlive:aR σ q Q:=⟨hq,hv'.1⟩
  rw [hs.hdr,hs.wh]
  exact Mh p ((H.roots q Q hlive).ow hv') hin hty (fun b hb=>T.other H hlive hs b (apf _ hb))
 have hlive:∀{q:Nat} {Q R':Root},σ.roots q=some Q→σ'.roots q=some R'→R'.aX=false→aR σ q Q∧Stepped σ α σ' α' lw lh q Q R':=by
  intro q Q R' h1 h2 hd
  obtain ⟨R'',g1,g2⟩:=T.old _ Q h1
  rw [h2] at g1
  simp only [apd] at g1
  subst g1
  rcases g2 with ⟨g2,_⟩ | ⟨gd,g2⟩
  ·rw [hd] at g2; simp at g2
  ·exact ⟨⟨h1,gd⟩,g2⟩
 have Zp:∀q g v,Ow.tF σ (.ref q g)→bI cx σ α F w (.ref q g) v→bI cx σ' α' F' w' (.ref q g) v:=by
  intro q g v hx h
  obtain ⟨Q,h1,h2⟩:=hx
  intro R' hR' hg
  obtain ⟨hl,hst⟩:=hlive h1 hR'.1 hR'.2
  by_cases e:Same σ α σ' α' q
  ·have hQ:R'=Q:=by
    have:=e.root
    rw [hR'.1,h1] at this
    simpa using this
   subst hQ
   have:=h R' hl hg
   rw [e.hdr]
   exact this
  ·rcases h2 with h2 | h2
   ·rw [hl.2] at h2; simp at h2
   ·exact Dt q Q hl e g v h2 h R' hR' hg
 have acZ:∀{q:Nat} {Q R':Root} {n:Nat},σ.roots q=some Q→(Q.aX=true∨n≤Q.yO)→σ'.roots q=some R'→R'.aX=false→R'.yO=n→aR σ q Q∧Same σ α σ' α' q:=by
  intro q Q R' n h1 h2 hR' hd hn
  obtain ⟨hl,hst⟩:=hlive h1 hR' hd
  obtain ⟨s1,s2,_,_,_,_,s6⟩:=hst
  rcases s6 with s6 | ⟨_,_,e⟩
  ·exfalso
   rcases h2 with h2 | h2
   ·rw [hl.2] at h2; simp at h2
   ·simp only [Root.yO,s1,s2,qd,apl] at hn h2
    rcases s6 with g5 | g5 <;> (have:=List.length_pos_iff.2 g5; omega)
  ·exact ⟨hl,e⟩
 cases x with
 | undef=>trivial
 | val k x Tg=>
  intro hc
  rcases hc with hc | hc
  ·obtain ⟨cs,h1,h2⟩:=h (.inl hc)
   exact ⟨cs,h1,iA hc h2⟩
  ·obtain ⟨cs,h1,h2⟩:=h (.inr (hV Tg _ hx hc).1)
   exact ⟨cs,h1,hV.vw hx hc (fun _ h=>h) h2⟩
 | iQ=>exact h
 | ref q g=>exact Zp q g v hx h
 | K5 q g k p=>
  obtain ⟨u,b,off,k1,e1,hq,hc,e2,hr⟩:=h
  obtain ⟨h1,h2⟩:=(hV [] [] (fun _ h=>by simp at h) rfl).2.2 b hq (.inr (fun _ h=>by simp at h))
  exact ⟨u,b,off,k1,e1,h1,hc.congr h2,e2,Zp q g u hx hr⟩
 | xy q p n=>
  obtain ⟨Q,h1,h2⟩:=hx
  intro R' hR' hv hn d hd
  obtain ⟨hl,hst⟩:=hlive h1 hR' hv.1
  obtain ⟨s1,s2,_,_,_,_,s6⟩:=hst
  rcases s6 with s6 | ⟨_,_,e⟩
  ·exfalso
   rcases h2 with h2 | h2
   ·rw [hl.2] at h2; simp at h2
   ·simp only [Root.yO,s1,s2,qd,apl] at hn h2
    rcases s6 with g5 | g5 <;> (have:=List.length_pos_iff.2 g5; omega)
  ·have hQ:R'=Q:=by
    have:=e.root
    rw [hR',h1] at this
    simpa using this
   subst hQ
   have hv':=vY hV (H.dD q R' h1).1 hv
   obtain ⟨h1',h2',cs,wh,h3,h4⟩:=h R' h1 hv' hn d hd
   exact ⟨h1',h2',cs,wh,by rw [Dr h1 e hv h1' h2']; exact h3,h4⟩
 | ptr q p n=>
  obtain ⟨Q,h1,h2⟩:=hx
  refine ⟨h.1, ?_⟩
  intro R' hR' hv hn hty hs
  obtain ⟨hl,hst⟩:=hlive h1 hR' hv.1
  by_cases e:Same σ α σ' α' q
  ·have hQ:R'=Q:=by
    have:=e.root
    rw [hR',h1] at this
    simpa using this
   subst hQ
   have hv':=vY hV (H.dD q R' h1).1 hv
   obtain ⟨h1',cs,b,o,h3,h4⟩:=h.2 R' h1 hv' hn hty hs
   exact ⟨h1',cs,b,o,by rw [Dr h1 e hv h1' hty]; exact h3,h4⟩
  ·rcases h2 with h2 | h2
   ·rw [hl.2] at h2; simp at h2
   ·exact (Ia q Q hl e p n v h2 h).2 R' hR' hv hn hty hs
 | je bt k x Tg=>exact hV.ro hx h
 | sG=>exact h
 | Bz _=>exact h
 | part q g lo hi sz=>
  obtain ⟨b',b,n,c,e1,e2,e3,e4,e5,hr⟩:=h
  exact ⟨b',b,n,c,e1,e2,e3,e4,e5,Zp q g (.slice b n c) hx hr⟩
 | yL q p n m=>
  obtain ⟨Q,h1,h2⟩:=hx
  obtain ⟨b,c,ev,h⟩:=h
  refine ⟨b,c,ev, ?_⟩
  intro R' hR' hv hn d hd
  obtain ⟨hl,e⟩:=acZ h1 h2 hR' hv.1 hn
  have hQ:R'=Q:=by
   have:=e.root
   rw [hR',h1] at this
   simpa using this
  subst hQ
  have hv':=vY hV (H.dD q R' h1).1 hv
  obtain ⟨h1',h2',n',wh,h3,h4⟩:=h R' h1 hv' hn d hd
  exact ⟨h1',h2',n',wh,by rw [Dr h1 e hv h1' h2']; exact h3,h4⟩
 | app q p n q2=>
  obtain ⟨⟨Q,h1,h2⟩,⟨Q2,h12⟩⟩:=hx
  intro R' hR' hv hn R2 hR2 hn2
  obtain ⟨hl,e⟩:=acZ h1 h2 hR' hv.1 hn
  have hQ:R'=Q:=by
   have:=e.root
   rw [hR',h1] at this
   simpa using this
  subst hQ
  obtain ⟨hl2,amx⟩:=hlive h12 hR2.1 hR2.2
  have e2:Same σ α σ' α' q2:=by
   obtain ⟨s1,s2,_,_,_,_,s6⟩:=amx
   rcases s6 with s6 | ⟨_,_,e⟩
   ·exfalso
    simp only [Root.yO,s1,s2,qd,apl] at hn2
    rcases s6 with g5 | g5 <;> (have:=List.length_pos_iff.2 g5; omega)
   ·exact e
  have hQ2:R2=Q2:=by
   have:=e2.root
   rw [hR2.1,h12] at this
   simpa using this
  subst hQ2
  have hv':=vY hV (H.dD q R' h1).1 hv
  obtain ⟨te,kk,xs,wh,b,m,c,ce,hq,b1,o1,c1,arr,lo,hi,a1,a2,a3,a4,a5,a6,a7,a8,a9,a10,Yq,a12,a13,a14⟩:=h R' h1 hv' hn R2 hl2 hn2
  have hsR:∀b∈α.fo q,hp w' b=hp w b:=fun b hb=>T.other H hl e b (apf _ hb)
  have hsQ:∀b∈α.fo q2,hp w' b=hp w b:=fun b hb=>T.other H hl2 e2 b (apf _ hb)
  have hb1:hp w' b1=hp w b1:=by
   rcases a14 with ⟨_,h,_⟩ | ⟨_,h,_⟩
   ·exact hsR b1 h
   ·exact hsQ b1 h
  refine ⟨te,kk,xs,wh,b,m,c,ce,hq,b1,o1,c1,arr,lo,hi,a1,a2,a3,by rw [Dr h1 e hv a2 a3]; exact a4,a5,by rw [e2.hdr]; exact a6,a7,a8,a9,hb1.trans a10,Yq,a12,a13.congr hb1, ?_⟩
  rcases a14 with ⟨z1,z2,z3⟩ | ⟨z1,z2,z3⟩
  ·exact .inl ⟨z1,by rw [e.fo]; exact z2,z3⟩
  ·refine .inr ⟨z1,by rw [e2.fo]; exact z2,fun hm=>?_⟩
   obtain ⟨b0,o0,y1,y2,y3⟩:=z3 hm
   exact ⟨b0,o0,y1,by rw [e.fo]; exact y2,fun i hi'=>by rw [vO hb1,vO (hsR b0 y2)]; exact y3 i hi'⟩
 | fn f cs=>
  obtain ⟨vs,h1,h2⟩:=h
  exact ⟨vs,h1,hV.caps hx h2⟩
theorem L6 {cx:Cx} {σ σ':St} {α α':dK} {F F':List Nat} {w w':World} {P:AV→Prop} (h:∀x v,P x→bI cx σ α F w x v→bI cx σ' α' F' w' x v) :
  ∀{l:List AV} {vs:List Value},(∀x∈l,P x)→fG cx σ α F w l vs→fG cx σ' α' F' w' l vs
 | [],[],_,_=>trivial
 | x :: l,v :: vs,hp,hl=>⟨h x v (hp x (by simp)) hl.1,L6 h (fun y hy=>hp y (by simp [hy])) hl.2⟩
 | [],_ :: _,_,hl=>hl.elim
 | _ :: _,[],_,hl=>hl.elim
theorem VW {cx:Cx} {σ σ':St} {α α':dK} {F F':List Nat} {w w':World} (h:∀x v,tF σ x→bI cx σ α F w x v→bI cx σ' α' F' w' x v) {x:yQ} {v:Value} (hx:Ah σ x) (hv:jT cx σ α F w x v):jT cx σ' α' F' w' x v:=by
 cases x with
 | one a=>exact h a v hx hv
 | J7 l=>
  obtain ⟨vs,h1,h2⟩:=hv
  exact ⟨vs,h1,L6 h hx h2⟩
theorem Rel.turn (H:Rel cx σ α F a w) (T:nE cx σ α F w σ' α' F' w' lw lh)
  (hroot:∀r R,aR σ' r R→¬Same σ α σ' α' r→(bq σ' R→Ow (hp w') R.own (iT cx σ' α' F' w' R.tags) R.k R.x (α'.hdr r) (α'.fo r))∧(α'.hdr r).length=R.k.size∧
   (∀b o,eB α' R r=some (b,o)→Cells (hp w') b o (α'.hdr r)∧∃arr e lo hi,hp w' b=some (.cells arr e (lo,hi))∧(∀i,i<arr.size→¬(lo≤i∧i<hi))∧o+R.k.size≤arr.size∧(∀t,R.kind=.var t→e=t))∧
   (blk α' R r).Nodup)
  (Ia:∀r R,aR σ r R→¬Same σ α σ' α' r→∀p n v,n≤gG R.h→bI cx σ α F w (.ptr r p n) v→bI cx σ' α' F' w' (.ptr r p n) v)
  (Dt:∀r R,aR σ r R→¬Same σ α σ' α' r→∀g v,g≤R.g→bI cx σ α F w (.ref r g) v→bI cx σ' α' F' w' (.ref r g) v) :
  Rel cx σ' α' F' a w':=by
 have hV:=T.views H
 have Zj:∀{r R b},aR σ r R→b∈blk α R r→mine cx w' b:=fun hr hb=>by
  have:=(H.roots _ _ hr).mine _ hb
  exact ⟨Nat.lt_of_lt_of_le this.1 T.size,this.2⟩
 have jJ:∀b,(b∈F∨(w.heap.size≤b∧b<w'.heap.size)∨∃r R,aR σ r R∧b∈blk α R r∧Loose cx σ' lw w r b)→mine cx w' b:=by
  rintro b (hb | hb | ⟨r,R,hr,hb,_⟩)
  ·have:=H.fl b hb
   exact ⟨Nat.lt_of_lt_of_le this.1 T.size,this.2⟩
  ·exact ⟨hb.2, .inl (Nat.le_trans H.frame.2.2.2.1 hb.1)⟩
  ·exact Zj hr hb
 have Zi:∀{r R b},aR σ' r R→b∈blk α' R r→mine cx w' b:=by
  intro r R b hr hb
  by_cases e:∃Q,aR σ r Q∧b∈blk α Q r
  ·obtain ⟨Q,hQ,hbQ⟩:=e
   exact Zj hQ hbQ
  ·exact jJ b (T.new b (.inl ⟨r,R,hr,hb,e⟩))
 have RG:∀{q Q r R b},aR σ' q Q→Same σ α σ' α' q→aR σ' r R→r≠q→b∈blk α' Q q→b∉blk α' R r:=by
  intro q Q r R b hq hs hr hne hb hb'
  have hq':=(hs.live Q).1 hq
  rw [hs.blk] at hb
  by_cases e:∃R0,aR σ r R0∧b∈blk α R0 r
  ·obtain ⟨R0,h1,h2⟩:=e
   exact H.MX q Q r R0 hq' h1 (Ne.symm hne) b hb h2
  ·exact T.stay H hq' hs b hb (T.new b (.inl ⟨r,R,hr,hb',e⟩))
 constructor
 ·exact H.defs
 ·exact H.sz
 ·intro j pi b o n hj hb
  obtain ⟨R,h1,h2,h3,h4⟩:=H.mQ j pi b o n hj hb
  obtain ⟨R',g1,g2⟩:=T.old _ R h1.1
  rcases g2 with g2 | ⟨_,g2⟩
  ·exact absurd h2 g2.2
  ·refine ⟨R',⟨g1, ?_⟩,g2.2.2.2.1.trans h2,g2.2.2.2.2.1.trans h3,(g2.2.2.2.2.2.1 h2).trans h4⟩
   unfold Root.aX
   rw [g2.2.2.2.1,h2]
 ·intro q Q hq hk
  cases hs:σ.roots q with
  | none=>exact absurd hk (T.aio q Q hs hq.1)
  | some R=>
   obtain ⟨R',g1,g2⟩:=T.old q R hs
   rw [hq.1] at g1
   simp only [apd] at g1
   subst g1
   rcases g2 with ⟨g2,_⟩ | ⟨gd,g2⟩
   ·rw [hq.2] at g2; simp at g2
   ·rw [g2.2.2.2.2.1]
    exact H.JA q R ⟨hs,gd⟩ (g2.2.2.2.1▸hk)
 ·intro s
  rw [T.slots]
  exact VW (fun x v hx h=>T.av H Ia Dt hx h) (H.AR s) (H.slots s)
 ·intro s
  rw [T.slots]
  exact T.Ah (H.AR s)
 ·intro q Q hq
  by_cases e:Same σ α σ' α' q
  ·have hq':=(e.live Q).1 hq
   have K:=H.roots q Q hq'
   have hsame:=T.other H hq' e
   constructor
   ·intro hv
    have hv':=vY hV (H.dD q Q hq'.1).1 hv
    rw [e.hdr,e.fo]
    have hO:=K.ow hv'
    obtain ⟨_,g2,_⟩:=hV Q.tags Q.Dw (H.dD q Q hq'.1).1 hv.2
    exact bC (fun b hb=>(g2 b hb.1 (.inl hb.2)).2) (fun b hb=>(g2 b hb.1 (.inl hb.2)).1) (fun b hb=>hsame b (apf _ hb)) (tq Q.Dw (fun _ h=>h) hO)
   ·rw [e.hdr]; exact K.len
   ·intro b o hb
    rw [e.wh] at hb
    rw [e.hdr]
    obtain ⟨h1,arr,te,lo,hi,h2,h3⟩:=K.mem b o hb
    have hbb:hp w' b=hp w b:=hsame b (by unfold blk; rw [hb]; simp)
    exact ⟨h1.congr hbb,arr,te,lo,hi,hbb.trans h2,h3⟩
   ·rw [e.blk]; exact K.nd
   ·exact fun b hb=>Zi hq hb
  ·obtain ⟨h1,h2,h3,h4⟩:=hroot q Q hq e
   exact ⟨h1,h2,h3,h4,fun b hb=>Zi hq hb⟩
 ·intro q Q hq
  by_cases e:Same σ α σ' α' q
  ·obtain ⟨h1,h2,h3⟩:=H.dD q Q (by rw [←e.root]; exact hq)
   exact ⟨fun t ht=>T.tag (h1 t ht),h2,h3⟩
  ·exact T.wr q Q hq e
 ·intro q Q q' Q' hq hq' hne b hb hb'
  by_cases e:Same σ α σ' α' q
  ·exact RG hq e hq' (Ne.symm hne) hb hb'
  ·by_cases e':Same σ α σ' α' q'
   ·exact RG hq' e' hq hne hb' hb
   ·exact T.MX q Q q' Q' hq hq' hne e e' b hb hb'
 ·exact fun b hb=>jJ b (T.new b (.inr hb))
 ·exact T.Ca
 ·intro q Q hq b hb hF
  by_cases e:Same σ α σ' α' q
  ·rw [e.blk] at hb
   exact T.stay H ((e.live Q).1 hq) e b hb (T.new b (.inr hF))
  ·exact T.jB q Q hq e b hb hF
 ·obtain ⟨f1,f2,f3,f4,f5,f6⟩:=H.frame
  refine ⟨T.os.1.trans f1,T.os.2.1.trans f2,T.os.2.2.trans f3,Nat.le_trans f4 T.size, ?_, ?_⟩
  ·intro b hb hno
   have:hp w' b=hp w b:=by
    refine apA fun hne=>?_
    have hm:mine cx w b:=by
     rcases T.SI b (Nat.lt_of_lt_of_le hb f4) hne with h | ⟨r,R,hr,h,_⟩
     ·exact H.fl b h
     ·exact (H.roots r R hr).mine b h
    rcases hm.2 with h | ⟨j,pi,h1,h2⟩
    ·omega
    ·exact hno j pi h1 h2
   exact this.trans (f5 b hb hno)
  ·intro j pi b o n hj hb
   by_cases hne:hp w' b=hp w b
   ·have:=f6 j pi b o n hj hb
    obtain ⟨arr,kP,e,fr,h1,h2,h3⟩:=this
    exact ⟨arr,kP,e,fr,h1,hne.trans h2,h3⟩
   ·exact T.base j pi b o n hj hb hne
 ·intro j pi hj hk
  obtain ⟨R,h1,h2⟩:=H.wP j pi hj hk
  obtain ⟨R',g1,g2⟩:=T.old _ R h1
  refine ⟨R',g1,fun hd b hb hnb=>?_⟩
  rcases g2 with ⟨g2,_⟩ | ⟨gd,g2,_⟩
  ·rw [hd] at g2; simp at g2
  ·have hev:=(T.ev _ R R' h1 g1 hd).1
   rcases h2 gd b hb hnb with ⟨e,he,yJ⟩ | ⟨hs,hF,hown⟩
   ·refine .inl ⟨e,he, ?_⟩
    rw [g2,hev]
    rcases yJ with h | h
    ·exact .inl (apf _ h)
    ·exact .inr h
   ·by_cases yJ:∃e∈lw (au j),q8 (hp w) b=some e
    ·obtain ⟨e,he,hel⟩:=yJ
     exact .inl ⟨e,(Lc hs).symm.trans hel, .inl (by rw [g2]; exact api _ he)⟩
    ·have hno:¬∃r Q,aR σ r Q∧b∈blk α Q r∧Loose cx σ' lw w r b:=by
      rintro ⟨r,Q,hr,hbr,hl⟩
      have e:=hown r Q hr hbr
      subst e
      rcases hl with hl | hl | ⟨hl,_⟩
      ·have:=hl R' g1
       rw [hd] at this
       simp at this
      ·exact yJ hl
      ·exact hnb hl
     by_cases hlt:b<w.heap.size
     ·refine .inr ⟨?_, ?_, ?_⟩
      ·refine Eq.trans ?_ hs
       refine apA fun hne=>?_
       rcases T.SI b hlt hne with h | h
       ·exact hF h
       ·exact hno h
      ·intro hF'
       rcases T.new b (.inr hF') with h | h | h
       ·exact hF h
       ·omega
       ·exact hno h
      ·intro q Q hq hbq
       by_cases e:∃R,aR σ q R∧b∈blk α R q
       ·obtain ⟨R0,hR0,hbR⟩:=e
        exact hown q R0 hR0 hbR
       ·rcases T.new b (.inl ⟨q,Q,hq,hbq,e⟩) with h | h | h
        ·exact absurd h hF
        ·omega
        ·exact absurd h hno
     ·exact absurd (H.qA.1 j pi hj b hb) (by have:=H.frame.2.2.2.1; omega)
 ·exact H.qA
 ·intro j p ts v hv
  obtain ⟨hvp,R,h1,h2⟩:=H.zw j p ts v hv
  obtain ⟨R',g1,g2⟩:=T.old _ R h1
  refine ⟨hvp,R',g1,fun ht=>?_⟩
  cases hd:R'.aX with
  | true=>
   rcases g2 with ⟨_,g2⟩ | ⟨gd,g2⟩
   ·refine ⟨hvp,fun Q hQ hv'=>?_⟩
    rw [g1] at hQ
    simp only [apd] at hQ
    subst hQ
    have:=hv'.1
    rw [hd] at this
    simp at this
   ·have:R'.aX=R.aX:=by unfold Root.aX; rw [g2.2.2.2.1]
    rw [hd,gd] at this
    simp at this
  | false=>
   have hev:=(T.ev _ R R' h1 g1 hd).2
   exact T.av H Ia Dt (show Ow.tF σ (.ptr (au j) p 0) from ⟨R,h1, .inr (apM _)⟩) (h2 (by rw [←hev]; exact ht))
 ·intro j v hv
  obtain ⟨⟨R,h1⟩,h2⟩:=H.zy j v hv
  obtain ⟨R',g1,_⟩:=T.old _ R h1
  exact ⟨⟨R',g1⟩,T.av H Ia Dt (show Ow.tF σ (.ref (au j) 0) from ⟨R,h1, .inr (apM _)⟩) h2⟩
end
def az (σ:St) (r:Nat) (R:Root):St:={ σ with roots:=upd σ.roots r (some R) }
def aJ (α:dK) (r:Nat) (loc:Nat×Nat) (hdr:List Value) (fo:List Nat):dK:=⟨upd α.loc r loc,upd α.hdr r hdr,upd α.fo r fo⟩
theorem aK (σ:St) (r:Nat) (R:Root):(az σ r R).roots r=some R:=upd_same _ _ _
theorem bZ (σ:St) {r q:Nat} (R:Root) (h:q≠r):(az σ r R).roots q=σ.roots q:=upd_ne _ _ h
theorem Ma {σ:St} {r q:Nat} {R Q:Root} (h:q≠r):aR (az σ r R) q Q↔aR σ q Q:=by unfold aR; rw [bZ σ R h]
theorem eX {σ:St} {r:Nat} {R Q:Root} (h:aR (az σ r R) r Q):Q=R∧R.aX=false:=by
 have h1:=h.1
 rw [aK] at h1
 simp only [apd] at h1
 subst h1
 exact ⟨rfl,h.2⟩
theorem iy {σ:St} {α:dK} {r q:Nat} {R:Root} {loc:Nat×Nat} {hdr:List Value} {fo:List Nat} (h:q≠r):Same σ α (az σ r R) (aJ α r loc hdr fo) q:=
 ⟨bZ σ R h,upd_ne _ _ h,upd_ne _ _ h,upd_ne _ _ h⟩
theorem mo (σ:St) (α:dK) (q:Nat):Same σ α σ α q:=⟨rfl,rfl,rfl,rfl⟩
def iF (R:Root) (loc:Nat×Nat) (fo:List Nat):List Nat:=(match R.kind with
 | .var _=>[loc.1]
 | .par=>[loc.1]
 | _=>[])++fo
theorem eO {α:dK} {r:Nat} {loc:Nat×Nat} {hdr:List Value} {fo:List Nat} {Q:Root}:blk (aJ α r loc hdr fo) Q r=iF Q loc fo:=by
 unfold blk iF eB aJ
 simp only [upd_same] <;> cases Q.kind <;> rfl
theorem bT (α:dK) (R:Root) (r:Nat):blk α R r=iF R (α.loc r) (α.fo r):=by
 unfold blk iF eB
 cases R.kind <;> rfl
def xG (R:Root) (loc:Nat×Nat):Option (Nat×Nat):=match R.kind with
 | .var _=>some loc
 | .par=>some loc
 | _=>none
theorem jN {α:dK} {r:Nat} {loc:Nat×Nat} {hdr:List Value} {fo:List Nat} {Q:Root}:eB (aJ α r loc hdr fo) Q r=xG Q loc:=by
 unfold eB xG aJ
 simp only [upd_same] <;> cases Q.kind <;> rfl
theorem uW (α:dK) (R:Root) (r:Nat):eB α R r=xG R (α.loc r):=rfl
end
end Go.Proofs.YtdknpknohipffaaGreat.Ow

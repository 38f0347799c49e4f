/- A verified reading of translated code, part A of 7. No condition. -/
import Derived.Calls
import Derived.Orders
import Derived.Laws.Cells
import Derived.Laws.IdiomCopy
import Derived.Laws.Entries
import Derived.ChangeKeysEq
import Derived.WalkKit
set_option linter.unusedSectionVars false
set_option linter.unusedVariables false
set_option linter.unusedSimpArgs false
namespace Go.Proofs.YtailcbngagacaaaGreat.Ow
open Go
abbrev ane := @Option.some.injEq
abbrev anf := @Option.bind_some
abbrev ang := @List.mem_append_right
abbrev anh := @Bool.false_eq_true
abbrev ani := @Nat.eq_of_beq_eq_true
abbrev anj := @List.mem_append_left
abbrev ank := @Bool.and_eq_true
abbrev anl := @List.nodup_append
abbrev anm := @List.length_append
abbrev ann := @List.mem_append
abbrev ano := @Int.toNat_natCast
abbrev anp := @Prod.mk.injEq
abbrev anq := @List.mem_cons
abbrev anr := @List.getD_eq_getElem?_getD
abbrev ant := @List.getElem?_eq_getElem
abbrev anu := @List.all_eq_true
abbrev anv := @Nat.le_refl
abbrev anw := @List.mem_filter
abbrev anx := @Result.andThen_ok
abbrev anz := @List.mem_singleton
abbrev anA := @List.length_singleton
abbrev anB := @List.append_assoc
abbrev anC := @Classical.byContradiction
abbrev anD := @List.length_cons
abbrev anE := @List.mem_cons_of_mem
abbrev anF := @Sem.run_bind
abbrev anG := @Int.ofNat_lt
abbrev anH := @Bool.not_true
abbrev anI := @List.getElem_mem
abbrev anJ := @List.append_nil
abbrev anK := @Sem.run_pure
abbrev anL := @Nat.mul_le_mul_right
abbrev anM := @List.mem_cons_self
abbrev anN := @List.nodup_cons
abbrev anO := @Nat.zero_le
abbrev anP := @Option.some.inj
abbrev anQ := @List.mem_map
abbrev anR := @List.mem_flatMap
abbrev anS := @Bool.not_false
abbrev anT := @List.flatMap_cons
abbrev anU := @List.getElem?_cons_zero
abbrev anV := @List.mem_of_getElem?
abbrev anW := @List.cons_append
abbrev anX := @List.nil_append
abbrev anY := @Nat.zero_add
abbrev anZ := @List.getElem?_eq_some_iff
abbrev an0 := @cond_true
abbrev an1 := @Option.map_some
abbrev an2 := @Array.getD_eq_getD_getElem?
abbrev an3 := @cond_false
abbrev an4 := @List.nodup_nil
abbrev an5 := @Nat.lt_of_lt_of_le
abbrev an6 := @List.mem_of_mem_take
abbrev an7 := @Bool.not_eq_true'
abbrev an8 := @Addr.mk.injEq
abbrev an9 := @and_true
abbrev aoa := @List.flatten_cons
abbrev aob := @List.flatten_nil
abbrev aoc := @List.mem_iff_getElem
abbrev aod := @Array.ext'
abbrev aoe := @Nat.le_of_ble_eq_true
abbrev aof := @if_true
abbrev aog := @if_false
abbrev aoh := @List.map_cons
abbrev aoi := @if_pos
abbrev aoj := @Option.getD_some
abbrev aok := @if_neg
abbrev aol := @Bool.or_eq_true
abbrev aom := @List.eq_nil_of_length_eq_zero
abbrev aon := @List.map_append
abbrev aoo := @List.Sublist.append_left
abbrev aop := @List.pairwise_append
abbrev aoq := @Array.length_toList
abbrev aor := @Bool.or_eq_false_iff
abbrev aos := @Bool.false_or
abbrev aot := @List.not_mem_nil
abbrev aou := @Nat.ne_of_beq_eq_false
abbrev aov := @Nat.le_trans
abbrev aow := @List.length_filter_le
abbrev aox := @decide_true
abbrev aoy := @List.length_map
abbrev aoz := @List.filter_append
abbrev aoA := @decide_eq_true
abbrev aoB := @List.mem_flatten
abbrev aoC := @List.ext_getElem
abbrev aoD := @List.Perm.append_left
abbrev aoE := @List.Perm.append_right
abbrev aoF := @List.perm_append_comm
abbrev aoG := @List.getElem?_map
abbrev aoH := @List.getElem?_range
abbrev aoI := @List.getElem?_append_left
abbrev aoJ := @List.getElem?_append_right
abbrev aoK := @Nat.add_assoc
abbrev aoL := @List.drop_drop
abbrev aoM := @List.drop_eq_getElem_cons
abbrev aoN := @List.take_append_drop
abbrev aoO := @Nat.add_mul
abbrev aoP := @Nat.one_mul
abbrev aoQ := @List.getElem?_eq_none
abbrev aoR := @run_underlying
abbrev aoS := @Nat.add_zero
abbrev aoT := @Array.getElem?_modify
abbrev aoU := @Array.getElem?_setIfInBounds_self_of_lt
abbrev aoV := @Array.getElem?_setIfInBounds_ne
abbrev aoW := @List.take_of_length_le
abbrev aoX := @List.length_take
abbrev aoY := @decide_eq_false
abbrev aoZ := @List.pairwise_iff_getElem
abbrev ao0 := @List.mem_or_eq_of_mem_set
abbrev ao1 := @decide_eq_true_eq
abbrev ao2 := @Bool.true_and
abbrev ao3 := @Int.le_refl
abbrev ao4 := @List.drop_suffix
abbrev ao5 := @List.length_drop
abbrev ao6 := @List.length_nil
abbrev ao7 := @Int.tdiv_eq_ediv_of_nonneg
abbrev ao8 := @Int.tmod_eq_emod_of_nonneg
abbrev ao9 := @Int.eq_ofNat_of_zero_le
abbrev apa := @List.filter_map
abbrev apb := @List.map_map
abbrev apc := @Int.lt_irrefl
abbrev apd := @decide_false
abbrev ape := @List.take_length
abbrev apf := @List.drop_zero
abbrev apg := @List.filter_cons
abbrev aph := @Bool.false_ne_true
abbrev api := @List.drop_length
abbrev apj := @List.take_succ_eq_append_getElem
abbrev apk := @List.flatMap_append
abbrev apl := @List.flatMap_nil
abbrev apm := @List.length_replicate
abbrev apn := @List.getElem?_take_of_lt
abbrev apo := @List.getElem?_drop
abbrev apq := @List.mapM_cons
abbrev apr := @List.cons.injEq
abbrev aps := @Nat.sub_self
abbrev apt := @Array.getElem?_toList
abbrev apu := @List.drop_eq_nil_of_le
abbrev apv := @Option.bind_eq_some_iff
abbrev apw := @Array.eq_empty_of_size_eq_zero
abbrev apx := @List.flatten_append
abbrev apy := @List.getElem?_take
abbrev apz := @List.getElem_append_left
abbrev apA := @List.getElem_append_right
abbrev apB := @run_firstCells_none
abbrev apC := @run_firstCells_some
abbrev apD := @List.ext_getElem?
abbrev apE := @List.size_toArray
abbrev apF := @Array.getElem?_append_left
abbrev apG := @Array.toList_map
abbrev apH := @List.zip_cons_cons
abbrev apI := @List.getElem?_cons_succ
abbrev apJ := @decide_eq_decide
abbrev apK := @ByteArray.toList_eq
abbrev apL := @Option.getD_none
abbrev apM := @Value.slice.injEq
abbrev apN := @List.length_pos_iff
abbrev apO := @List.getLastD_eq_getLast?
section
open Go
inductive K where
 | int (k:IntKind)
 | bool
 | str
 | sl (e:TypeId) (k:K)
 | unit
 | pair (a b:K)
 | st (f:K)
 | gap (n:Nat)
 | id (e:TypeId)
 deriving Inhabited
abbrev El:K->Type
 | .int _=>Int
 | .bool=>Bool
 | .str=>List Int
 | .sl _ k=>List (El k)
 | .unit=>Unit
 | .pair a b=>El a×El b
 | .st f=>El f
 | .gap _=>Unit
 | .id _=>Nat
def K.size:K->Nat
 | .int _ | .bool | .str | .sl _ _ | .id _=>1
 | .unit=>0
 | .pair a b=>a.size+b.size
 | .st f=>f.size
 | .gap n=>n
def K.zero:(k:K)->El k
 | .int _=>(0:Int)
 | .bool=>false
 | .str=>([]:List Int)
 | .sl _ _=>[]
 | .unit=>()
 | .pair a b=>(a.zero,b.zero)
 | .st f=>f.zero
 | .gap _=>()
 | .id _=>(0:Nat)
def yD:IntKind->IntKind->Bool
 | .i8, .i8 | .i16, .i16 | .i32, .i32 | .i64, .i64 | .u8, .u8 | .u16, .u16 | .u32, .u32 | .u64, .u64=>true
 | _,_=>false
def K.beq:K->K->Bool
 | .int a, .int b=>yD a b
 | .bool, .bool=>true
 | .str, .str=>true
 | .sl e a, .sl f b=>Nat.beq e f && a.beq b
 | .unit, .unit=>true
 | .pair a b, .pair c d=>a.beq c && b.beq d
 | .st a, .st b=>a.beq b
 | .gap n, .gap m=>Nat.beq n m
 | .id e, .id f=>Nat.beq e f
 | _,_=>false
theorem yZ {a b:IntKind} (h:yD a b=true):a=b:=by cases a <;> cases b <;> simp_all [yD]
theorem K.eq_of_beq:∀{a b:K},a.beq b=true->a=b:=by
 intro a
 induction a with
 | int k=>intro b h; cases b <;> simp_all [K.beq]; exact yZ h
 | sl e k ih=>intro b h; cases b <;> simp_all [K.beq]; exact ih h.2
 | pair a b iha ihb=>intro c h; cases c <;> simp_all [K.beq]; exact ⟨iha h.1,ihb h.2⟩
 | st f ih=>intro b h; cases b <;> simp_all [K.beq]; exact ih h
 | gap n=>intro b h; cases b <;> simp_all [K.beq]
 | id e=>intro b h; cases b <;> simp_all [K.beq]
 | _=>intro b h; cases b <;> simp_all [K.beq]
def K.like:K->K->Bool
 | .gap n,k=>Nat.beq n k.size
 | .pair a b, .pair c d=>a.like c && b.like d
 | .st a, .st b=>a.like b
 | a,b=>a.beq b
def bQ (a b:K) (x:El a):Option (El b):=if h:a.beq b=true then some (K.eq_of_beq h▸x) else none
def K.hole:K->K
 | .sl _ _=>.gap 1
 | .pair a b=>.pair a.hole b.hole
 | .st f=>.st f.hole
 | k=>k
def tX:(k:K)->El k->El k.hole
 | .sl _ _,_=>()
 | .pair a b,x=>(tX a x.1,tX b x.2)
 | .st f,x=>tX f x
 | .int _,x=>x
 | .bool,x=>x
 | .str,x=>x
 | .unit,_=>()
 | .gap _,_=>()
 | .id _,x=>x
def K.tys:K->List TypeId
 | .sl e k=>e :: k.tys
 | .pair a b=>a.tys++b.tys
 | .st f=>f.tys
 | _=>[]
def K.flat:K->Bool
 | .sl _ _ | .gap _=>false
 | .pair a b=>a.flat && b.flat
 | .st f=>f.flat
 | _=>true
def Cont:List K->Type
 | []=>Unit
 | k :: ks=>El k×Cont ks
def Cont.app:(ks ls:List K)->Cont ks->Cont ls->Cont (ks++ls)
 | [],_,_,d=>d
 | _ :: ks,ls,c,d=>(c.1,Cont.app ks ls c.2 d)
inductive Stp where
 | gu (n:Nat)
 | idx (i:Int)
abbrev Dat:=(k:K)×El k
def q8 (d:Dat):Dat:=⟨d.1.hole,tX d.1 d.2⟩
def aP:Nat->(c:K)->El c->Option Dat
 | 0, .pair a _,x=>some ⟨a,x.1⟩
 | n+1, .pair _ b,x=>aP n b x.2
 | _,_,_=>none
def aR:List Stp->(k:K)->El k->Option Dat
 | [],k,x=>some ⟨k,x⟩
 | .gu n :: p, .st c,x=>match aP n c x with
  | some d=>aR p d.1 d.2
  | none=>none
 | .idx i :: p, .sl _ k,xs=>aR p k ((show List (El k) from xs).getD i.toNat k.zero)
 | _,_,_=>none
def dm:Nat->(c:K)->El c->Dat->Option Dat
 | 0, .pair _ b,x,d=>some ⟨.pair d.1 b,(d.2,x.2)⟩
 | n+1, .pair a b,x,d=>match dm n b x.2 d with
  | some z=>some ⟨.pair a z.1,(x.1,z.2)⟩
  | none=>none
 | _,_,_,_=>none
def eF:List Stp->(k:K)->El k->Dat->Option Dat
 | [],_,_,d=>some d
 | .gu n :: p, .st c,x,d=>match aP n c x with
  | some s=>match eF p s.1 s.2 d with
   | some t=>match dm n c x t with
    | some z=>some ⟨.st z.1,z.2⟩
    | none=>none
   | none=>none
  | none=>none
 | .idx i :: p, .sl e k,xs,d=>match eF p k ((show List (El k) from xs).getD i.toNat k.zero) d with
  | some t=>match bQ t.1 k t.2 with
   | some y=>some ⟨.sl e k,(show List (El k) from xs).set i.toNat y⟩
   | none=>none
  | none=>none
 | _,_,_,_=>none
def Stp.lJ:Stp->Bool
 | .gu _=>true
 | .idx _=>false
def ah:List Stp->K->List TypeId
 | .gu n :: p, .st c=>match Eo n c with
  | some k=>ah p k
  | none=>[]
 | .idx _ :: p, .sl e k=>e :: ah p k
 | _,_=>[]
where Eo:Nat->K->Option K
 | 0, .pair a _=>some a
 | n+1, .pair _ b=>Eo n b
 | _,_=>none
abbrev Tag:=Nat×Nat
inductive AV where
 | undef
 | val (k:K) (x:El k) (tags:List Tag)
 | jy
 | ref (r g:Nat)
 | rH (r:Nat) (p:List Stp) (v:Nat)
 | ptr (r:Nat) (p:List Stp) (h:Nat)
 | jE (bt:TypeId) (k:K) (x:El k) (tags:List Tag)
 | rA
 | FM (r g:Nat) (k:K) (p:List Stp)
 | yI (e:Bool)
 | part (r g lo hi sz:Nat)
 | wT (r:Nat) (p:List Stp) (v m:Nat)
 | app (r:Nat) (p:List Stp) (v q:Nat)
 | sub (r:Nat) (p:List Stp) (v lo hi sz:Nat)
 | sel (r:Nat) (p:List Stp) (v q a b:Nat)
 | fn (f:Nat) (caps:List (TypeId×Dat×List Tag))
inductive wL where
 | one (a:AV)
 | Hq (l:List AV)
 | lit (t:TypeId) (c:K) (l:List AV)
inductive DK where
 | anon
 | var (t:TypeId)
 | par
 | dead
structure Root where
 k:K
 x:El k
 own:List TypeId
 tags:List Tag
 w:List TypeId
 h:List TypeId
 g:Nat
 kind:DK
 fixed:Bool
 keep:Bool
 ew:List TypeId:=[]
 eh:List TypeId:=[]
def Root.bg (R:Root):Bool:=match R.kind with
 | .dead=>true
 | _=>false
def Root.isVar (R:Root):Bool:=match R.kind with
 | .var _=>true
 | _=>false
def bT:Root:={ k:=.unit,x:=(),own:=[],tags:=[],w:=[],h:=[],g:=0,kind:=.dead,fixed:=true,keep:=true }
structure St where
 slots:Nat->wL
 roots:Nat->Option Root
inductive Loc where
 | s (n:Nat)
 | r (n:Nat)
inductive Wr where
 | s (n:Nat) (a:wL)
 | r (n:Nat) (o:Option Root)
def Loc.beq:Loc->Loc->Bool
 | .s a, .s b=>Nat.beq a b
 | .r a, .r b=>Nat.beq a b
 | _,_=>false
def Wr.loc:Wr->Loc
 | .s n _=>.s n
 | .r n _=>.r n
def upd {J:Type} (f:Nat->J) (n:Nat) (v:J):Nat->J:=fun m=>bif Nat.beq m n then v else f m
def Wr.app (w:Wr) (Z:St):St:=match w with
 | .s n a=>{ Z with slots:=upd Z.slots n a }
 | .r n (some R)=>{ Z with roots:=upd Z.roots n (some R) }
 | .r n none=>{ Z with roots:=upd Z.roots n (some bT) }
def aB:List Wr->St->St
 | [],Z=>Z
 | w :: ws,Z=>aB ws (w.app Z)
inductive Prog (J:Type):Type 1 where
 | ret (a:J)
 | fail
 | slot (n:Nat) (k:wL->Prog J)
 | root (r:Nat) (k:Option Root->Prog J)
 | tQ (c:Prop) (d:Decidable c) (k:Prog J)
 | br (c:Bool) (t e:Prog J)
 | opt (β:Type) (o:Option β) (k:β->Prog J)
def Prog.bind {J β:Type}:Prog J->(J->Prog β)->Prog β
 | .ret a,f=>f a
 | .fail,_=>.fail
 | .slot n k,f=>.slot n fun v=>(k v).bind f
 | .root r k,f=>.root r fun v=>(k v).bind f
 | .tQ c d k,f=>.tQ c d (k.bind f)
 | .br c t e,f=>.br c (t.bind f) (e.bind f)
 | .opt β o k,f=>.opt β o fun b=>(k b).bind f
def Prog.run {J R:Type}:Prog J->St->(J->Option R)->Option R
 | .ret a,_,K=>K a
 | .fail,_,_=>none
 | .slot n k,Z,K=>(k (Z.slots n)).run Z K
 | .root r k,Z,K=>(k (Z.roots r)).run Z K
 | .tQ c d k,Z,K=>@ite _ c d (k.run Z K) none
 | .br c t e,Z,K=>if c=true then t.run Z K else e.run Z K
 | .opt _ o k,Z,K=>o.bind fun b=>(k b).run Z K
def Prog.EC {J R:Type}:Prog J->St->List Loc->(J->List Loc->Option R)->Option R
 | .ret a,_,l,K=>K a l
 | .fail,_,_,_=>none
 | .slot n k,Z,l,K=>(k (Z.slots n)).EC Z (.s n :: l) K
 | .root r k,Z,l,K=>(k (Z.roots r)).EC Z (.r r :: l) K
 | .tQ c d k,Z,l,K=>@ite _ c d (k.EC Z l K) none
 | .br c t e,Z,l,K=>if c=true then t.EC Z l K else e.EC Z l K
 | .opt _ o k,Z,l,K=>o.bind fun b=>(k b).EC Z l K
def ze:List Wr->Nat->Option wL
 | [],_=>none
 | .s m a :: ws,n=>match ze ws n with
  | some b=>some b
  | none=>bif Nat.beq n m then some a else none
 | .r _ _ :: ws,n=>ze ws n
def AO:List Wr->Nat->Option (Option Root)
 | [],_=>none
 | .r m o :: ws,n=>match AO ws n with
  | some b=>some b
  | none=>bif Nat.beq n m then some (some (o.getD bT)) else none
 | .s _ _ :: ws,n=>AO ws n
def Prog.over {J:Type} (ws:List Wr):Prog J->Prog J
 | .ret a=>.ret a
 | .fail=>.fail
 | .slot n k=>match ze ws n with
  | some v=>(k v).over ws
  | none=>.slot n fun v=>(k v).over ws
 | .root r k=>match AO ws r with
  | some v=>(k v).over ws
  | none=>.root r fun v=>(k v).over ws
 | .tQ c d k=>.tQ c d (k.over ws)
 | .br c t e=>.br c (t.over ws) (e.over ws)
 | .opt β o k=>.opt β o fun b=>(k b).over ws
def Yn (p q:Prog (List Wr)):Prog (List Wr):=p.bind fun ws=>(q.over ws).bind fun vs=>.ret (ws++vs)
end
section
open Go
def az (n:Nat):List Nat->Bool
 | []=>false
 | m :: l=>bif Nat.beq n m then true else az n l
def mY (l m:List Nat):Bool:=l.all fun n=>az n m
def gY {J:Type}:List J->Nat
 | []=>0
 | _ :: l=>gY l+1
def aA (j:Nat):Nat:=4 * j
def pO (j:Nat):Nat:=4 * j+1
def aY (d c:Nat):Nat:=4 * (8 * d+c)+2
def gy (r:Nat):Bool:=Nat.beq (r % 4) 1
def since (l:List Nat) (n:Nat):List Nat:=l.take (gY l - n)
def clean (l:List Nat) (n:Nat) (tys:List Nat):Bool:=(since l n).all fun t=>!az t tys
def bytesOf (s:ByteArray):List Int:=s.data.toList.map fun b=>(b.toNat:Int)
inductive gq where
 | val (k:K) (iQ:List Nat)
 | ro (k:K)
 | rw (k:K) (ow wt ht:List TypeId)
 | into (j:Nat) (p:List (Option Nat))
 | lI (k:K) (ow wt:List TypeId)
 | own (k:K) (ow:List TypeId)
 | fn (f:Nat) (ks:List K)
inductive xJ where
 | val (k:K) (exts iQ:List Nat)
 | own (k:K) (ow:List TypeId) (exts iQ:List Nat)
 | ptr (t:TypeId) (k:K) (ow:List TypeId) (exts:List Nat)
 | into (j:Nat) (p:List (Option Nat))
def gq.kin:gq->List K
 | .val k _ | .ro k | .rw k _ _ _ | .lI k _ _ | .own k _=>[k]
 | .into _ p=>p.filterMap fun | none=>some (.int .i64) | some _=>none
 | .fn _ ks=>ks
def gq.lH:gq->List K
 | .rw k _ _ _ | .lI k _ _=>[k]
 | _=>[]
def xJ.iZ:xJ->List K
 | .val k _ _ | .own k _ _ _ | .ptr _ k _ _=>[k]
 | .into _ _=>[.int .i64]
def kin:List gq->List K
 | []=>[]
 | p :: ps=>p.kin++kin ps
def lH:List gq->List K
 | []=>[]
 | p :: ps=>p.lH++lH ps
def iZ:List xJ->List K
 | []=>[]
 | p :: ps=>p.iZ++iZ ps
structure Entry where
 f:FuncId
 ps:List gq
 rs:List xJ
 F:Nat->Cont (kin ps)->Option (Cont (iZ rs++lH ps))
structure jh where
 ty:TypeId->Option K
 bytes:TypeId->Nat
 ptr:TypeId->Bool
 eq:TypeId->Bool
 ids:Bool:=false
structure Hint where
 nt:Nat
 ai4:List Nat
 loops:List (Nat×List Nat×List Nat)
 less:List (Nat×List TypeId)
 calls:List (Nat×Option Nat×Entry)
 jD:List (Nat×K×List TypeId×List TypeId)
 wide:List (Nat×List Nat):=[]
 parts:List Nat:=[]
 apps:List Nat:=[]
section
variable {J:Type}
def nP:List Tag->List TypeId->Prog J->Prog J
 | [],_,k=>k
 | (r,n) :: ts,tys,k=>bif gy r then nP ts tys k else .root r fun
  | some R=>bif !R.bg && clean R.w n tys then nP ts tys k else .fail
  | none=>.fail
def aV (own:List TypeId):K->List TypeId
 | .sl e k=>bif az e own then aV own k else e :: k.tys
 | .pair a b=>aV own a++aV own b
 | .st f=>aV own f
 | _=>[]
def Root.z8 (R:Root):List TypeId:=aV R.own R.k
def oK (r:Nat) (k:Root->Prog J):Prog J:=.root r fun
 | some R=>bif R.bg then .fail else nP R.tags R.z8 (k R)
 | none=>.fail
def Root.qJ (R:Root):Nat:=gY R.w+gY R.h
def Root.out (R:Root) (r:Nat) (k:K):List Tag:=bif k.flat then [] else bif k.tys.any (fun t=>az t R.own) then (r,gY R.w) :: R.tags else R.tags
def iL (r:Nat) (k:Prog J):Prog J:=.root r fun
 | none=>k
 | some _=>.fail
def inK:IntKind->Int->Bool
 | .u8,n=>Int.blt n 256 && Int.ble 0 n
 | _,_=>true
where
 Int.blt (a b:Int):Bool:=decide (a<b)
 Int.ble (a b:Int):Bool:=decide (a<=b)
def VP:Value->AV
 | .int k n=>bif inK k n then .val (.int k) n [] else .undef
 | .bool b=>.val .bool b []
 | .string s=>.val .str (bytesOf s) []
 | .slice none 0 0=>.jy
 | .pointer none=>.rA
 | _=>.undef
def uz (x:Operand) (k:wL->Prog J):Prog J:=match x with
 | .tmp t=>.slot t k
 | .const v=>k (.one (VP v))
 | .func f=>k (.one (.fn f []))
 | .global _=>.fail
def dU (x:Operand) (k:AV->Prog J):Prog J:=uz x fun
 | .one a=>k a
 | _=>.fail
def uB (a:AV) (k:(kk:K)->El kk->List Tag->Prog J):Prog J:=match a with
 | .val kk x tags=>nP tags kk.tys (k kk x tags)
 | .ref r g=>oK r fun R=>bif Nat.beq R.g g then k R.k R.x (R.out r R.k) else .fail
 | .rH r p h=>oK r fun R=>bif Nat.beq R.qJ h then
   match aR p R.k R.x with
   | some d=>k d.1 d.2 (R.out r d.1)
   | none=>.fail
  else .fail
 | _=>.fail
def asInt (a:AV) (k:IntKind->Int->Prog J):Prog J:=match a with
 | .val (.int ik) n _=>k ik n
 | _=>.fail
def asBool (a:AV) (k:Bool->Prog J):Prog J:=match a with
 | .val .bool b _=>k b
 | _=>.fail
def Wr.tF:Wr->List Nat
 | .r n _=>[n]
 | .s _ _=>[]
def CE:List Nat->Bool
 | []=>true
 | n :: l=>!az n l && CE l
def yO (ws:List Wr) (tags:List Tag):Bool:=tags.all fun t=>!az t.1 (ws.flatMap Wr.tF)
def Co (ws:List Wr) (tags:List Tag):Bool:=CE (ws.flatMap Wr.tF) && yO ws tags
structure iW where
 k:K
 x:El k
 own:List TypeId
 tags:List Tag
 ws:List Wr
 keep:Bool
abbrev qh:Nat:=4294967294
def eT:List Stp->K->List TypeId
 | [],_=>[]
 | p,k=>qh :: ah p k
def rX (k:K):List TypeId:=match k.tys with
 | []=>[qh]
 | _=>[]
def Af (R:Root) (p:List Stp) (d:Dat):Option Root:=
 match eF p R.k R.x (q8 d) with
 | some z=>some { R with k:=z.1,x:=z.2,w:=d.1.tys++R.w,h:=rX d.1++d.1.tys++R.h }
 | none=>none
def wG (want:K) (a:AV) (k:iW->Prog J):Prog J:=match a with
 | .val kk x tags=>nP tags kk.tys (k ⟨kk,x,[],tags,[],false⟩)
 | .jy=>match want with
  | .sl e kk=>k ⟨.sl e kk,[],e :: kk.tys,[],[],false⟩
  | _=>.fail
 | .ref r g=>oK r fun R=>bif Nat.beq R.g g && !R.fixed then k ⟨R.k,R.x,R.own,R.tags,[.r r none],R.keep⟩ else .fail
 | .rH r p h=>oK r fun R=>bif Nat.beq R.qJ h then
   match aR p R.k R.x with
   | some d=>bif p.all Stp.lJ && !R.fixed && (!p.isEmpty || R.isVar) then
     match Af R p d with
     | some R'=>k ⟨d.1,d.2,d.1.tys.filter (fun t=>az t R.own),R.tags,[.r r (some R')],R.keep⟩
     | none=>.fail
    else nP (R.out r d.1) d.1.tys (k ⟨d.1,d.2,[],R.out r d.1,[],false⟩)
   | none=>.fail
  else .fail
 | .part r g lo hi sz=>oK r fun R=>bif Nat.beq R.g g && !R.fixed && Nat.beq lo 0 then match R.k,R.x with
   | .sl e kk,xs=>bif kk.flat && az e R.own && Nat.beq kk.size sz then k ⟨.sl e kk,(show List (El kk) from xs).take hi,R.own,R.tags,[.r r none],R.keep⟩ else .fail
   | _,_=>.fail
  else .fail
 | _=>.fail
def yE:List Int->List Int->Bool
 | _,[]=>false
 | [],_ :: _=>true
 | a :: x,b :: y=>decide (a<b) || (decide (a=b) && yE x y)
def x8:(k:K)->El k->El k->Bool
 | .int _,x,y=>decide ((show Int from x)=y)
 | .bool,x,y=>(show Bool from x) == y
 | .str,x,y=>decide ((show List Int from x)=y)
 | .pair .unit .unit,_,_=>true
 | .pair a .unit,x,y=>x8 a x.1 y.1
 | .pair a b,x,y=>x8 a x.1 y.1 && x8 b x.2 y.2
 | .st f,x,y=>x8 f x y
 | _,_,_=>true
def v1 (k:K) (x:El k):wL:=.one (.val k x [])
def Qo (op:BinOp) (ik:IntKind) (x y:Int) (k:wL->Prog J):Prog J:=match op with
 | .add=>k (v1 (.int ik) (ik.wrap (x+y)))
 | .sub=>k (v1 (.int ik) (ik.wrap (x - y)))
 | .mul=>k (v1 (.int ik) (ik.wrap (x * y)))
 | .quo=>.tQ (y≠0) inferInstance (k (v1 (.int ik) (ik.wrap (x.tdiv y))))
 | .rem=>.tQ (y≠0) inferInstance (k (v1 (.int ik) (x.tmod y)))
 | .and=>k (v1 (.int ik) (ik.wrap (BitVec.ofInt ik.bits x &&& BitVec.ofInt ik.bits y).toNat))
 | .or=>k (v1 (.int ik) (ik.wrap (BitVec.ofInt ik.bits x ||| BitVec.ofInt ik.bits y).toNat))
 | .xor=>k (v1 (.int ik) (ik.wrap (BitVec.ofInt ik.bits x ^^^ BitVec.ofInt ik.bits y).toNat))
 | .andNot=>k (v1 (.int ik) (ik.wrap (BitVec.ofInt ik.bits x &&& ~~~ BitVec.ofInt ik.bits y).toNat))
 | .eql=>k (v1 .bool (decide (x=y)))
 | .neq=>k (v1 .bool (!decide (x=y)))
 | .lss=>k (v1 .bool (decide (x<y)))
 | .leq=>k (v1 .bool (decide (x<=y)))
 | .gtr=>k (v1 .bool (decide (x>y)))
 | .geq=>k (v1 .bool (decide (x>=y)))
 | _=>.fail
def WC (op:BinOp) (x y:List Int) (k:wL->Prog J):Prog J:=match op with
 | .add=>.tQ (x.length+y.length<=9223372036854775807) inferInstance (k (v1 .str (x++y)))
 | .eql=>k (v1 .bool (decide (x=y)))
 | .neq=>k (v1 .bool (!decide (x=y)))
 | .lss=>k (v1 .bool (yE x y))
 | .leq=>k (v1 .bool (yE x y || decide (x=y)))
 | .gtr=>k (v1 .bool (!(yE x y || decide (x=y))))
 | .geq=>k (v1 .bool (!yE x y))
 | _=>.fail
def MI (a b:AV):Option Bool:=match a,b with
 | .rA, .rA=>some true
 | .rA, .ptr _ _ _ | .ptr _ _ _, .rA=>some false
 | .rA, .jE _ _ _ _ | .jE _ _ _ _, .rA=>some false
 | _,_=>none
def Lu (T:jh) (t:TypeId) (op:BinOp) (a b:AV) (k:wL->Prog J):Prog J:=match a,b with
 | .val (.int ik) x _, .val (.int jk) y _=>match op with
  | .shl=>.tQ (0<=y) inferInstance (k (v1 (.int ik) (ik.wrap (x * 2 ^ min y.toNat ik.bits))))
  | .shr=>.tQ (0<=y) inferInstance (k (v1 (.int ik) (x.fdiv (2 ^ min y.toNat ik.bits))))
  | _=>bif yD ik jk then Qo op ik x y k else .fail
 | .val .bool x _, .val .bool y _=>match T.ty t,op with
  | some .bool, .eql=>k (v1 .bool (x == y))
  | some .bool, .neq=>k (v1 .bool (!(x == y)))
  | _,_=>.fail
 | .val .str x _, .val .str y _=>WC op x y k
 | .val (.st c) x _, .val (.st d) y _=>match bQ (.st d) (.st c) y with
  | some y'=>bif (c.flat && T.eq t) && (match T.ty t with | some kk=>kk.beq (.st c) | none=>false) then match op with
    | .eql=>k (v1 .bool (x8 c x y'))
    | .neq=>k (v1 .bool (!x8 c x y'))
    | _=>.fail
   else .fail
  | none=>.fail
 | a,b=>bif T.ptr t then match MI a b,op with
  | some t, .eql=>k (v1 .bool t)
  | some t, .neq=>k (v1 .bool (!t))
  | _,_=>.fail
  else .fail
def Vz:Operand->Bool
 | .const (.slice none 0 0)=>true
 | _=>false
def Zw:BinOp->Bool
 | .eql=>true
 | _=>false
def afZ (T:jh) (t:TypeId) (a:AV) (k:AV->Prog J):Prog J:=match T.ty t with
 | some (.sl _ _)=>uB a fun kk x _=>match kk,x with
  | .sl _ kk,xs=>k (.yI (show List (El kk) from xs).isEmpty)
  | _,_=>.fail
 | _=>.fail
def NR (T:jh) (t:TypeId) (op:BinOp) (x y:Operand) (k:wL->Prog J):Prog J:=
 bif Vz y && Zw op then dU x fun a=>afZ T t a fun v=>k (.one v) else dU x fun a=>dU y fun b=>Lu T t op a b k
def unP (op:UnOp) (a:AV) (k:wL->Prog J):Prog J:=match op,a with
 | .neg, .val (.int ik) x _=>k (v1 (.int ik) (ik.wrap (0 - x)))
 | .xor, .val (.int ik) x _=>k (v1 (.int ik) (ik.wrap (BitVec.ofInt ik.bits (if ik.signed then -1 else ik.max) ^^^ BitVec.ofInt ik.bits x).toNat))
 | .not, .val .bool b _=>k (v1 .bool (!b))
 | _,_=>.fail
def aK (k:K) (x:El k) (ow:List TypeId) (tags:List Tag) (kind:DK) (keep:Bool:=false):Root:={ k,x,own:=ow,tags,w:=[],h:=[],g:=0,kind,fixed:=false,keep }
def Root.bt (R:Root):TypeId:=match R.kind with
 | .var t=>t
 | _=>4294967295
def eO (R:Root) (p:List Stp):TypeId:=(ah p R.k).getLastD R.bt
def EN (p:List Stp) (R:Root):Bool:=(ah p R.k).all fun t=>az t R.own
def addrOf (a:AV) (rd:Root->Nat->List Stp->Dat->Prog J) (ro:TypeId->Dat->List Tag->Prog J):Prog J:=match a with
 | .ptr r p h=>oK r fun R=>bif clean R.h h (eT p R.k) && EN p R then
   match aR p R.k R.x with
   | some d=>rd R r p d
   | none=>.fail
  else .fail
 | .jE bt k x tags=>nP tags (bt :: k.tys) (ro bt ⟨k,x⟩ tags)
 | _=>.fail
def BO (T:jh) (rH:Bool) (t:TypeId) (a:AV) (k:AV->Prog J):Prog J:=
 match T.ty t with
 | none=>.fail
 | some kk=>match a with
  | .FM r g k0 p=>oK r fun R=>bif Nat.beq R.g g && R.k.beq k0 && p.all Stp.lJ then
    match aR p R.k R.x with
    | some d=>bif d.1.beq kk then (bif d.1.flat then k (.val d.1 d.2 []) else k (.rH r p R.qJ)) else .fail
    | none=>.fail
   else .fail
  | a=>addrOf a
   (fun R r p d=>bif d.1.beq kk then (bif rH && !d.1.flat then k (.rH r p R.qJ) else k (.val d.1 d.2 (R.out r d.1))) else .fail)
   (fun _ d tags=>bif d.1.beq kk then k (.val d.1 d.2 (bif d.1.flat then [] else tags)) else .fail)
def bM (own bad:List TypeId):List TypeId:=own.filter fun t=>!az t bad
def jq:List Tag->List Tag->List Tag
 | [],m=>m
 | (r,n) :: l,m=>bif m.any fun t=>Nat.beq t.1 r && Nat.beq t.2 n then jq l m else (r,n) :: jq l m
def wz (r:Nat) (l:List Tag):List Tag:=l.filter fun t=>!Nat.beq t.1 r
def iW.bad (tk:iW):List TypeId:=aV tk.own tk.k
def KS (R:Root) (r:Nat) (tags:List Tag) (bad:List TypeId):Bool:=tags.all (fun t=>!Nat.beq t.1 r) || match R.kind with
 | .par=>false
 | .var t=>!az t bad
 | _=>true
def KM (R:Root) (r:Nat) (p:List Stp) (d:Dat) (tk:iW):Option (Root×Dat):=
 bif !d.1.flat && p.all Stp.lJ && !R.keep && (!p.isEmpty || R.isVar) && tk.tags.all (fun t=>!Nat.beq t.1 r) then
  match Af R p d with
  | some Rg=>match tk.own.filter (fun t=>!az t R.own && az t d.1.tys && !az t Rg.k.tys) with
   | []=>none
   | l=>some ({ Rg with own:=l++R.own },q8 d)
  | none=>none
 else none
def storeAt (kk:K) (r:Nat) (p:List Stp) (tk:iW) (R:Root) (d:Dat) (k:List Wr->Prog J):Prog J:=
 bif (d.1.beq kk || (d.1.beq kk.hole && p.all Stp.lJ)) && (kk.flat || KS R r tk.tags tk.bad) && (ah p R.k).all (fun t=>!az t tk.bad) then
  match eF p R.k R.x ⟨tk.k,tk.x⟩ with
  | some z=>bif R.keep && !kk.tys.all (fun t=>!az t R.own || az t tk.own) then .fail else
   k (tk.ws++[.r r (some { R with
    keep:=R.keep || tk.keep
    k:=z.1,x:=z.2
    own:=bM R.own tk.bad
    tags:=bif kk.flat then R.tags else jq (wz r tk.tags) R.tags
    w:=eO R p :: R.w
    h:=(bif d.1.beq kk then [] else rX kk)++kk.tys++R.h })])
  | none=>.fail
 else .fail
def Ph (T:jh) (t:TypeId) (a v:AV) (k:List Wr->Prog J):Prog J:=
 match T.ty t,a with
 | some kk, .ptr r p h=>wG kk v fun tk=>bif tk.k.beq kk && tk.ws.all (fun w=>!w.loc.beq (.r r)) then
   oK r fun R=>bif clean R.h h (eT p R.k) && EN p R && yO tk.ws R.tags then
    match aR p R.k R.x with
    | some d=>match KM R r p d tk with
     | some q=>nP q.1.tags q.1.z8 (storeAt kk r p tk q.1 q.2 k)
     | none=>storeAt kk r p tk R d k
    | none=>.fail
   else .fail
  else .fail
 | _,_=>.fail
def F3 (kk:K) (a:AV) (n:Nat) (k:AV->Prog J):Prog J:=match a with
 | .val (.st c) x tags=>bif (K.st c).beq kk then match aP n c x with
  | some d=>nP tags c.tys (k (.val d.1 d.2 (bif d.1.flat then [] else tags)))
  | none=>.fail
  else .fail
 | .ref r g=>oK r fun R=>bif Nat.beq R.g g && R.k.beq kk then
   match aR [.gu n] R.k R.x with
   | some d=>bif d.1.flat then k (.val d.1 d.2 []) else k (.rH r [.gu n] R.qJ)
   | none=>.fail
  else .fail
 | .rH r p h=>oK r fun R=>bif Nat.beq R.qJ h then
   match aR p R.k R.x,aR (p++[.gu n]) R.k R.x with
   | some d0,some d=>bif !d0.1.beq kk then .fail else bif d.1.flat then k (.val d.1 d.2 []) else k (.rH r (p++[.gu n]) R.qJ)
   | _,_=>.fail
  else .fail
 | _=>.fail
def Kl (kk:K) (n:Nat):Bool:=match kk with
 | .st c=>(ah.Eo n c).isSome
 | _=>false
def Jd:List Stp->K->Option K
 | [],k=>some k
 | .gu n :: p, .st c=>match ah.Eo n c with
  | some k=>Jd p k
  | none=>none
 | _,_=>none
def XC (a:AV) (kk:K) (yes:Nat->Nat->Prog J) (no:Prog J):Prog J:=match a with
 | .ref r g=>.root r fun
  | some R=>bif R.fixed then (oK r fun R=>bif Nat.beq R.g g && R.k.beq kk then yes r g else .fail) else no
  | none=>no
 | _=>no
def vB (kk:K) (a:AV) (n:Nat) (k:AV->Prog J):Prog J:=match a with
 | .ptr r p h=>.root r fun
  | some R=>match aR p R.k R.x with
   | some d=>bif d.1.like kk && Kl kk n then k (.ptr r (p++[.gu n]) h) else .fail
   | none=>.fail
  | none=>.fail
 | .jE bt (.st c) x tags=>bif (K.st c).beq kk then match aP n c x with
  | some d=>nP tags (bt :: c.tys) (k (.jE bt d.1 d.2 tags))
  | none=>.fail
  else .fail
 | .FM r g k0 p=>match Jd p k0 with
  | some k1=>bif k1.beq kk && Kl kk n then k (.FM r g k0 (p++[.gu n])) else .fail
  | none=>.fail
 | _=>.fail
def aL (i:Int) (n:Nat):Prop:=0<=i/\i<(n:Int)
instance (i:Int) (n:Nat):Decidable (aL i n):=inferInstanceAs (Decidable (_/\_))
def vE (k0:K) (a:AV) (i:Int) (k:AV->Prog J):Prog J:=match a with
 | .val (.sl e kk) xs tags=>bif (K.sl e kk).beq k0 then nP tags (e :: kk.tys) (.tQ (aL i (show List (El kk) from xs).length) inferInstance
   (k (.jE e kk ((show List (El kk) from xs).getD i.toNat kk.zero) tags))) else .fail
 | .ref r g=>oK r fun R=>bif Nat.beq R.g g then
   match R.k,R.x with
   | .sl e kk,xs=>bif az e R.own && (K.sl e kk).beq k0 then .tQ (aL i (show List (El kk) from xs).length) inferInstance (k (.ptr r [.idx i] (gY R.h))) else .fail
   | _,_=>.fail
  else .fail
 | .rH r p h=>oK r fun R=>bif Nat.beq R.qJ h then
   match aR p R.k R.x with
   | some ⟨.sl e kk,xs⟩=>bif !(K.sl e kk).beq k0 then .fail else bif az e R.own then .tQ (aL i (show List (El kk) from xs).length) inferInstance (k (.ptr r (p++[.idx i]) (gY R.h)))
     else .tQ (aL i (show List (El kk) from xs).length) inferInstance (k (.jE e kk ((show List (El kk) from xs).getD i.toNat kk.zero) (R.out r (.sl e kk))))
   | _=>.fail
  else .fail
 | _=>.fail
structure Bn where
 k:K
 x:El k
 bad:List TypeId
 tags:List Tag
 ws:List Wr
 keep:Bool
 all:List Tag
def iW.iD (tk:iW):List Tag:=match tk.bad with
 | []=>[]
 | _=>tk.tags
def Ao:List (Nat×AV)->Bn->(Bn->Prog J)->Prog J
 | [],b,k=>k b
 | (n,a) :: l,b,k=>match b.k,b.x with
  | .st c,x=>match aP n c x with
   | some d=>wG d.1 a fun tk=>bif tk.k.beq d.1 then
     match dm n c x ⟨tk.k,tk.x⟩ with
     | some z=>Ao l { k:=.st z.1,x:=z.2,bad:=tk.bad++b.bad,tags:=jq (tk.iD) b.tags,ws:=b.ws++tk.ws,keep:=tk.keep || b.keep,all:=tk.tags++b.all } k
     | none=>.fail
    else .fail
   | none=>.fail
  | _,_=>.fail
def Ad:List (Nat×Operand)->(List (Nat×AV)->Prog J)->Prog J
 | [],k=>k []
 | (n,x) :: l,k=>dU x fun a=>Ad l fun r=>k ((n,a) :: r)
def kH:List Operand->(List AV->Prog J)->Prog J
 | [],k=>k []
 | x :: l,k=>dU x fun a=>kH l fun r=>k (a :: r)
structure u7 (kk:K) where
 xs:List (El kk)
 bad:List TypeId
 tags:List Tag
 ws:List Wr
 keep:Bool
 all:List Tag
def FV (kk:K):List (Nat×AV)->u7 kk->(u7 kk->Prog J)->Prog J
 | [],b,k=>k b
 | (n,a) :: l,b,k=>wG kk a fun tk=>match bQ tk.k kk tk.x with
  | some y=>bif Nat.beq n (gY b.xs) then FV kk l { xs:=b.xs++[y],bad:=tk.bad++b.bad,tags:=jq (tk.iD) b.tags,ws:=b.ws++tk.ws,keep:=tk.keep || b.keep,all:=tk.tags++b.all } k else .fail
  | none=>.fail
def WB (e:TypeId) (kk:K) (a:AV) (k:u7 kk->Prog J):Prog J:=match a with
 | .val .str s _=>match bQ (.int .u8) kk (0:Int) with
  | some _=>match bQ (.sl e (.int .u8)) (.sl e kk) (show List Int from s) with
   | some xs=>k ⟨xs,[],[],[],false,[]⟩
   | none=>.fail
  | none=>.fail
 | .jy=>k ⟨[],[],[],[],false,[]⟩
 | .ref r g=>oK r fun R=>bif Nat.beq R.g g then
   match bQ R.k (.sl e kk) R.x with
   | some xs=>bif kk.flat then k ⟨xs,[],[],[],false,[]⟩ else bif R.fixed then .fail else k ⟨xs,bif az e R.own then aV R.own kk else kk.tys,bif az e R.own && kk.tys.all (fun t=>az t R.own) then [] else R.tags,[.r r none],R.keep,R.tags⟩
   | none=>.fail
  else .fail
 | a=>uB a fun k' x tags=>match bQ k' (.sl e kk) x with
   | some xs=>k ⟨xs,kk.tys,bif kk.flat then [] else tags,[],false,[]⟩
   | none=>.fail
def zH (T:jh) (d:Nat) (t:TypeId) (a b:AV) (k:List Wr->Prog J):Prog J:=
 match T.ty t with
 | some (.sl e kk)=>WB e kk b fun s=>bif az e s.bad then .fail else match a with
  | .jy=>.tQ (s.xs.length * T.bytes e<=140737488355328) inferInstance (iL (aY d 0)
    (k (s.ws++[.r (aY d 0) (some (aK (.sl e kk) s.xs (e :: bM kk.tys s.bad) s.tags .anon s.keep)), .s d (.one (.ref (aY d 0) 0))])))
  | .ref r g=>oK r fun R=>bif Nat.beq R.g g && !R.fixed && az e R.own && !(R.keep && !kk.tys.all (fun t=>!az t R.own || !az t s.bad)) && s.ws.all (fun w=>!w.loc.beq (.r r)) && yO s.ws R.tags then
    match bQ R.k (.sl e kk) R.x with
    | some xs=>.tQ (((show List (El kk) from xs).length+s.xs.length) * T.bytes e<=140737488355328) inferInstance
      (k (s.ws++[.r r (some { R with
        k:=.sl e kk,x:=(show List (El kk) from xs)++s.xs
        own:=bM R.own s.bad
        tags:=jq (wz r s.tags) R.tags
        w:=e :: R.w,h:=qh :: e :: R.h,g:=R.g+1,keep:=R.keep || s.keep }), .s d (.one (.ref r (R.g+1)))]))
    | none=>.fail
   else .fail
  | .rH r p h=>oK r fun R=>bif Nat.beq R.qJ h && p.all Stp.lJ && (!p.isEmpty || R.isVar) && !R.fixed && az e R.own && !(R.keep && !kk.tys.all (fun t=>!az t R.own || !az t s.bad)) && s.ws.all (fun w=>!w.loc.beq (.r r)) && yO s.ws R.tags then
    match aR p R.k R.x with
    | some dd=>match bQ dd.1 (.sl e kk) dd.2,Af R p dd with
     | some xs,some R'=>.tQ (((show List (El kk) from xs).length+s.xs.length) * T.bytes e<=140737488355328) inferInstance (iL (aY d 0)
       (k (s.ws++[.r r (some R'), .r (aY d 0) (some (aK (.sl e kk) ((show List (El kk) from xs)++s.xs)
          (bM ((e :: kk.tys).filter fun t=>az t R.own) s.bad) (jq s.tags R.tags) .anon (R.keep || s.keep))), .s d (.one (.ref (aY d 0) 0))])))
     | _,_=>.fail
    | none=>.fail
   else .fail
  | _=>.fail
 | _=>.fail
def ownRow (r g:Nat) (k:Root->(e:TypeId)->(kk:K)->List (El kk)->Prog J):Prog J:=oK r fun R=>bif Nat.beq R.g g then match R.k,R.x with
  | .sl e kk,xs=>bif kk.flat && az e R.own then k R e kk (show List (El kk) from xs) else .fail
  | _,_=>.fail
 else .fail
def agi (k0:K) (r:Nat) (p:List Stp) (n:Nat) (lo hi:Option Int) (k:AV->Prog J):Prog J:=match k0 with
 | .sl e kk=>oK r fun R=>bif Nat.beq R.qJ n then match aR p R.k R.x with
   | some dd=>match bQ dd.1 (.sl e kk) dd.2 with
    | some xs=>.tQ (0<=lo.getD 0/\lo.getD 0<=hi.getD ((show List (El kk) from xs).length:Int)/\hi.getD ((show List (El kk) from xs).length:Int)<=((show List (El kk) from xs).length:Int)) inferInstance
      (k (.sub r p n (lo.getD 0).toNat (hi.getD ((show List (El kk) from xs).length:Int)).toNat kk.size))
    | none=>.fail
   | none=>.fail
  else .fail
 | _=>.fail
def MQ (k0:K) (a:AV) (lo hi mx:Option Int) (k:AV->Prog J):Prog J:=match a with
 | .ref r g=>ownRow r g fun _ e kk xs=>bif (K.sl e kk).beq k0 then
   match mx with
   | none=>.tQ (0<=lo.getD 0/\lo.getD 0<=hi.getD (xs.length:Int)/\hi.getD (xs.length:Int)<=(xs.length:Int)) inferInstance (k (.part r g (lo.getD 0).toNat (hi.getD (xs.length:Int)).toNat kk.size))
   | some m=>bif hi.isSome then .tQ (0<=lo.getD 0/\lo.getD 0<=hi.getD 0/\hi.getD 0<=m/\m<=(xs.length:Int)) inferInstance (k .undef) else .fail
  else .fail
 | .part r g l0 h0 sz=>ownRow r g fun _ e kk xs=>bif (K.sl e kk).beq k0 && Nat.beq kk.size sz && mx.isNone then
   .tQ (0<=lo.getD 0/\lo.getD 0<=hi.getD ((h0 - l0:Nat):Int)/\(l0:Int)+hi.getD ((h0 - l0:Nat):Int)<=(xs.length:Int)) inferInstance
    (k (.part r g (l0+(lo.getD 0).toNat) (l0+(hi.getD ((h0 - l0:Nat):Int)).toNat) sz))
  else .fail
 | .rH r p n=>bif mx.isNone then agi k0 r p n lo hi k else .fail
 | _=>.fail
def N9 (k0:K) (a:AV) (k:List Wr->Prog J):Prog J:=match a with
 | .part r g lo hi sz=>ownRow r g fun R e kk xs=>bif (K.sl e kk).beq k0 && Nat.beq kk.size sz then
   k [.r r (some { R with k:=.sl e kk,x:=xs.take lo++List.replicate (hi - lo) kk.zero++xs.drop hi,w:=e :: R.w })]
  else .fail
 | _=>.fail
def Oa (k0:K) (d:Nat) (a b:AV) (k:List Wr->Prog J):Prog J:=match a,b with
 | .part r g l0 h0 sz, .part r' g' l1 h1 sz'=>ownRow r g fun R e kk xs=>bif (K.sl e kk).beq k0 && Nat.beq r r' && Nat.beq g g' && Nat.beq sz sz' && Nat.beq l0 0 && Nat.beq kk.size sz then
   .tQ (h0<=l1) inferInstance (k [.r r (some { R with k:=.sl e kk,x:=xs.take h0++(xs.take h1).drop l1++xs.drop (h0+(h1 - l1)),w:=e :: R.w }), .s d (.one (.part r g 0 (h0+(h1 - l1)) sz))])
  else .fail
 | _,_=>.fail
def UD (k0:K) (d:Nat) (a b:AV) (k:List Wr->Prog J):Prog J:=match a with
 | .ref r g=>ownRow r g fun R e kk xs=>bif (K.sl e kk).beq k0 then WB e kk b fun s=>
   .tQ (s.xs.length<=xs.length) inferInstance (k [.r r (some { R with k:=.sl e kk,x:=s.xs++xs.drop s.xs.length,w:=e :: R.w }), .s d (.one (.val (.int .i64) (s.xs.length:Int) []))])
  else .fail
 | _=>.fail
abbrev Lr (e:TypeId) (kk:K):K:=.st (.pair kk (.pair (.sl e (.gap kk.size)) .unit))
def Mq:List Stp->List Int
 | []=>[]
 | .gu _ :: p=>Mq p
 | .idx i :: p=>i :: Mq p
def ug:List Stp->List Stp->Bool
 | [],[]=>true
 | .gu n :: p, .gu m :: q=>Nat.beq n m && ug p q
 | .idx _ :: p, .idx _ :: q=>ug p q
 | _,_=>false
def aaz (T:jh) (d:Nat) (t:TypeId) (a b:AV) (k:List Wr->Prog J):Prog J:=match T.ty t,a,b with
 | some (.sl e kk), .rH r p h, .ref rb gb=>oK rb fun B=>bif Nat.beq B.g gb && !B.fixed && !Nat.beq r rb && p.all Stp.lJ && !az qh (K.sl e kk).tys && (K.sl e kk).tys.all (fun t=>az t B.own) then
   match bQ B.k (.sl e kk) B.x with
   | some ys=>oK r fun R=>bif Nat.beq R.qJ h && !R.fixed && (K.sl e kk).tys.all (fun t=>az t R.own) && R.tags.all (fun t=>!Nat.beq t.1 rb) then
     match aR p R.k R.x with
     | some dd=>match bQ dd.1 (.sl e kk) dd.2 with
      | some xs=>match eF p R.k R.x dd with
       | some z=>.tQ ((show List (El kk) from ys).length=1/\((show List (El kk) from xs).length+1) * T.bytes e<=140737488355328) inferInstance (iL (aY d 0)
         (k [.r rb none, .r r (some { R with k:=z.1,x:=z.2,w:=e :: R.w,h:=(K.sl e kk).tys++R.h }), .r (aY d 0) (some (aK (Lr e kk) ((show List (El kk) from ys).getD 0 kk.zero,(([]:List Unit),())) (e :: kk.tys) [] .anon)),
          .s d (.one (.app r p (gY (e :: R.w)+gY ((K.sl e kk).tys++R.h)) (aY d 0)))]))
       | none=>.fail
      | none=>.fail
     | none=>.fail
    else .fail
   | none=>.fail
  else .fail
 | _,_,_=>.fail
def CF (k0:K) (a:AV) (r:Nat) (p:List Stp) (n q:Nat) (k:List Wr->Prog J):Prog J:=match k0,a with
 | .sl e kk, .ptr r' p' h=>bif Nat.beq r r' && ug p p' && p.all Stp.lJ && !Nat.beq r q then oK q fun Q=>bif Nat.beq Q.qJ 0 && (e :: kk.tys).all (fun t=>az t Q.own) then
    match bQ Q.k (Lr e kk) Q.x with
    | some y=>oK r fun R=>bif Nat.beq R.qJ n && !R.fixed && clean R.h h (eT p' R.k) && (K.sl e kk).tys.all (fun t=>az t R.own) && R.tags.all (fun t=>!Nat.beq t.1 q) then
      match aR p R.k R.x with
      | some dd=>match bQ dd.1 (.sl e kk) dd.2 with
       | some xs=>match eF p R.k R.x ⟨.sl e kk,(show List (El kk) from xs)++[(show El kk from y.1)]⟩ with
        | some z=>k [.r q none, .r r (some { R with k:=z.1,x:=z.2,w:=eO R p :: e :: R.w,h:=(K.sl e kk).tys++R.h })]
        | none=>.fail
       | none=>.fail
      | none=>.fail
     else .fail
    | none=>.fail
   else .fail
  else .fail
 | _,_=>.fail
def CO (k0:K) (a:AV) (r:Nat) (p:List Stp) (n m:Nat) (k:List Wr->Prog J):Prog J:=match k0,a with
 | .sl e kk, .ptr r' p' h=>bif Nat.beq r r' && ug p p' then .tQ (Mq p=Mq p') inferInstance (oK r fun R=>bif Nat.beq R.qJ n && !R.fixed && clean R.h h (eT p' R.k) && (K.sl e kk).tys.all (fun t=>az t R.own) then
      match aR p R.k R.x with
      | some dd=>match bQ dd.1 (.sl e kk) dd.2 with
       | some xs=>match eF p R.k R.x ⟨.sl e kk,(show List (El kk) from xs).take m⟩ with
        | some z=>k [.r r (some { R with k:=z.1,x:=z.2,w:=eO R p :: (K.sl e kk).tys++R.w,h:=(K.sl e kk).tys++R.h })]
        | none=>.fail
       | none=>.fail
      | none=>.fail
     else .fail)
  else .fail
 | _,_=>.fail
def abO (T:jh) (d:Nat) (t:TypeId) (a:AV) (r:Nat) (p:List Stp) (n lo hi sz:Nat) (k:List Wr->Prog J):Prog J:=match T.ty t with
 | some (.sl e kk)=>oK r fun R=>bif Nat.beq kk.size sz && Nat.beq R.qJ n && p.all Stp.lJ && (K.sl e kk).tys.all (fun t=>az t R.own) then
   match aR p R.k R.x with
   | some dd=>match bQ dd.1 (.sl e kk) dd.2 with
    | some xs=>match a with
     | .ref q g=>oK q fun Q=>bif Nat.beq Q.g g && !Q.fixed && !Nat.beq r q && az e Q.own then match bQ Q.k (.sl e kk) Q.x with
       | some ys=>.tQ ((show List (El kk) from ys).length=0/\lo=0/\hi * T.bytes e<=140737488355328) inferInstance (iL (aY d 0)
         (k [.r q none, .r (aY d 0) (some (aK (.sl e (.gap kk.size)) (List.replicate hi ()) [e] [] .anon)), .s d (.one (.sel r p n (aY d 0) hi (show List (El kk) from xs).length))]))
       | none=>.fail
      else .fail
     | .sel r' p' n' q a' b'=>oK q fun Q=>bif Nat.beq r r' && Nat.beq n n' && ug p p' && Nat.beq Q.qJ 0 && !Q.fixed && !Nat.beq r q && az e Q.own then match bQ Q.k (.sl e (.gap kk.size)) Q.x with
       | some _=>.tQ (a'<=lo/\lo<=hi/\hi=(show List (El kk) from xs).length/\b'=(show List (El kk) from xs).length/\(a'+(hi - lo)) * T.bytes e<=140737488355328) inferInstance (iL (aY d 0)
         (k [.r q none, .r (aY d 0) (some (aK (.sl e (.gap kk.size)) (List.replicate (a'+(hi - lo)) ()) [e] [] .anon)), .s d (.one (.sel r p n (aY d 0) a' lo))]))
       | none=>.fail
      else .fail
     | _=>.fail
    | none=>.fail
   | none=>.fail
  else .fail
 | _=>.fail
def Dn (k0:K) (a:AV) (r:Nat) (p:List Stp) (n q a' b':Nat) (k:List Wr->Prog J):Prog J:=match k0,a with
 | .sl e kk, .ptr r' p' h=>bif Nat.beq r r' && ug p p' && p.all Stp.lJ && !Nat.beq r q then oK q fun Q=>bif Nat.beq Q.qJ 0 && az e Q.own then
    match bQ Q.k (.sl e (.gap kk.size)) Q.x with
    | some _=>oK r fun R=>bif Nat.beq R.qJ n && !R.fixed && clean R.h h (eT p' R.k) && (K.sl e kk).tys.all (fun t=>az t R.own) && R.tags.all (fun t=>!Nat.beq t.1 q) then
      match aR p R.k R.x with
      | some dd=>match bQ dd.1 (.sl e kk) dd.2 with
       | some xs=>match eF p R.k R.x ⟨.sl e kk,(show List (El kk) from xs).take a'++(show List (El kk) from xs).drop b'⟩ with
        | some z=>k [.r q none, .r r (some { R with k:=z.1,x:=z.2,w:=eO R p :: (K.sl e kk).tys++R.w,h:=(K.sl e kk).tys++R.h })]
        | none=>.fail
       | none=>.fail
      | none=>.fail
     else .fail
    | none=>.fail
   else .fail
  else .fail
 | _,_=>.fail
end
end
section
open Go
def Cont.fst:(ks ls:List K)->Cont (ks++ls)->Cont ks
 | [],_,_=>()
 | _ :: ks,ls,c=>(c.1,Cont.fst ks ls c.2)
def Cont.snd:(ks ls:List K)->Cont (ks++ls)->Cont ls
 | [],_,c=>c
 | _ :: ks,ls,c=>Cont.snd ks ls c.2
abbrev SENT:Nat:=4294967295
structure dz where
 ids:List Tag
 wb:Option (Nat×List Stp×List TypeId×List TypeId)
 ws:List Wr
 bt:List TypeId:=[]
def idxOf:(p:List (Option Nat))->List Stp->Option (Cont (gq.into 0 p).kin)
 | [],[]=>some ()
 | some n :: p, .gu m :: q=>bif Nat.beq n m then idxOf p q else none
 | none :: p, .idx i :: q=>match idxOf p q with
  | some c=>some (i,c)
  | none=>none
 | _,_=>none
def pathOf:(p:List (Option Nat))->Cont (gq.into 0 p).kin->List Stp
 | [],_=>[]
 | some n :: p,c=>.gu n :: pathOf p c
 | none :: p,c=>.idx c.1 :: pathOf p c.2
section
variable {J:Type}
def oH (k:K) (own ow:List TypeId):Bool:=k.tys.all fun t=>az t own == az t ow
def P6:(ks:List K)->List (TypeId×Dat×List Tag)->(Cont ks->List Tag->Prog J)->Prog J
 | [],[],k=>k () []
 | kk :: ks,(t,d,tags) :: l,k=>nP tags (t :: d.1.tys) (match bQ d.1 kk d.2 with
  | some x=>P6 ks l fun c ts=>k (x,c) (jq tags ts)
  | none=>.fail)
 | _,_,_=>.fail
def kI:(ps:List gq)->List AV->(Cont (kin ps)->List dz->Prog J)->Prog J
 | [],[],k=>k () []
 | .val kk _ :: ps,a :: l,k=>
  let go (x:El kk) (tags:List Tag):Prog J:=kI ps l fun c is=>k (x,c) (⟨tags,none,[],[]⟩ :: is)
  match a with
  | .jy=>match kk,go with
   | .sl _ _,go=>go [] []
   | _,_=>.fail
  | a=>uB a fun k' x tags=>match bQ k' kk x with
   | some y=>go y (bif kk.flat then [] else tags)
   | none=>.fail
 | .ro kk :: ps,a :: l,k=>
  let go (d:Dat) (tags:List Tag):Prog J:=match bQ d.1 kk d.2 with
   | some y=>kI ps l fun c is=>k (y,c) (⟨tags,none,[],[]⟩ :: is)
   | none=>.fail
  addrOf a (fun R r _ d=>go d ((r,gY R.w) :: R.tags)) (fun _ d tags=>go d tags)
 | .rw kk ow wt ht :: ps,a :: l,k=>match a with
  | .ptr r p h=>oK r fun R=>bif clean R.h h (eT p R.k) && EN p R then
    match aR p R.k R.x with
    | some d=>match bQ d.1 kk d.2 with
     | some y=>bif oH kk R.own ow then kI ps l fun c is=>k (y,c) (⟨R.tags,some (r,p,wt,ht),[],[eO R p]⟩ :: is) else .fail
     | none=>.fail
    | none=>.fail
   else .fail
  | _=>.fail
 | .lI kk ow wt :: ps,a :: l,k=>
  let go (R:Root) (r:Nat) (p:List Stp) (d:Dat):Prog J:=match bQ d.1 kk d.2 with
   | some y=>bif oH kk R.own ow then kI ps l fun c is=>k (y,c) (⟨R.tags,some (r,p,wt,kk.tys),[],[]⟩ :: is) else .fail
   | none=>.fail
  match a with
  | .rH r p h=>oK r fun R=>bif Nat.beq R.qJ h then
    match aR p R.k R.x with
    | some d=>go R r p d
    | none=>.fail
   else .fail
  | .ref r g=>oK r fun R=>bif Nat.beq R.g g then go R r [] ⟨R.k,R.x⟩ else .fail
  | _=>.fail
 | .own kk ow :: ps,a :: l,k=>wG kk a fun tk=>match bQ tk.k kk tk.x with
  | some y=>bif oH kk tk.own ow then kI ps l fun c is=>k (y,c) (⟨tk.tags,none,tk.ws,[]⟩ :: is) else .fail
  | none=>.fail
 | .fn f ks :: ps,a :: l,k=>match a with
  | .fn f' caps=>bif Nat.beq f f' then P6 ks caps fun c tags=>kI ps l fun c' is=>k (Cont.app ks (kin ps) c c') (⟨tags,none,[],[]⟩ :: is) else .fail
  | _=>.fail
 | .into _ [] :: ps,a :: l,k=>match a with
  | .jy=>kI ps l fun c is=>k c (⟨[],none,[],[]⟩ :: is)
  | _=>.fail
 | _,_,_=>.fail
def dz.touched (i:dz):List Nat:=(match i.wb with | some (r,_)=>[r] | none=>[])++i.ws.flatMap Wr.tF
def BU:List dz->Bool
 | []=>true
 | i :: l=>match i.wb with
  | some _=>l.all fun j=>j.wb.isNone
  | none=>BU l
def yF (r:Nat):List dz->Nat->Option Nat
 | [],_=>none
 | i :: is,n=>match i.wb with
  | some (r',_)=>bif Nat.beq r r' then some n else yF r is (n+1)
  | none=>yF r is (n+1)
def wJ (is:List dz):List gq->List dz->Bool
 | .val k iQ :: ps,i :: l=>(iQ.all fun j=>match is[j]? with | some q=>q.wb.isSome | none=>false) && i.ids.all (fun t=>match yF t.1 is 0 with
   | some n=>az n iQ && (match is[n]? with
     | some j=>j.bt.all fun b=>!az b k.tys
     | none=>false)
   | none=>!az t.1 (is.flatMap fun j=>j.ws.flatMap Wr.tF)) && wJ is ps l
 | _ :: ps,i :: l=>i.ids.all (fun t=>!az t.1 (is.flatMap dz.touched)) && wJ is ps l
 | [],[]=>true
 | _,_=>false
def Fp:(ps:List gq)->List dz->Cont (lH ps)->(List Wr->Prog J)->Prog J
 | [],[],_,k=>k []
 | .rw kk _ _ _ :: ps,⟨_,some (r,p,wt,ht),_,_⟩ :: is,c,k=>.root r fun
  | some R=>match eF p R.k R.x ⟨kk,c.1⟩ with
   | some z=>Fp ps is c.2 fun ws=>k (.r r (some { R with k:=z.1,x:=z.2,w:=(eO R p :: wt)++R.w,h:=ht++R.h }) :: ws)
   | none=>.fail
  | none=>.fail
 | .lI kk _ _ :: ps,⟨_,some (r,p,wt,ht),_,_⟩ :: is,c,k=>.root r fun
  | some R=>match eF p R.k R.x ⟨kk,c.1⟩ with
   | some z=>Fp ps is c.2 fun ws=>k (.r r (some { R with k:=z.1,x:=z.2,w:=(SENT :: (kk.tys++wt))++R.w,h:=ht++R.h }) :: ws)
   | none=>.fail
  | none=>.fail
 | .val _ _ :: ps,_ :: is,c,k | .ro _ :: ps,_ :: is,c,k | .own _ _ :: ps,_ :: is,c,k | .fn _ _ :: ps,_ :: is,c,k | .into _ _ :: ps,_ :: is,c,k=>Fp ps is c k
 | _,_,_,_=>.fail
def MK (ws:List Wr):List Nat->(List Tag->Prog J)->Prog J
 | [],k=>k []
 | r :: l,k=>bif gy r then MK ws l fun ts=>k ((r,0) :: ts) else
  match ws.find? (fun w=>w.loc.beq (.r r)) with
  | some (.r _ (some R))=>MK ws l fun ts=>k ((r,gY R.w) :: ts)
  | some _=>.fail
  | none=>.root r fun
   | some R=>MK ws l fun ts=>k ((r,gY R.w) :: ts)
   | none=>.fail
def BK (is:List dz) (exts iQ:List Nat):List Nat:=
 exts.flatMap (fun j=>match is[j]? with | some i=>i.ids.map (·.1) | none=>[])++
 iQ.flatMap (fun j=>match is[j]? with
  | some i=>match i.wb with
   | some q=>[q.1]
   | none=>[]
  | none=>[])
def wP:List Nat->List Nat
 | []=>[]
 | n :: l=>bif az n l then wP l else n :: wP l
def uQ (d:Nat) (is:List dz) (ws:List Wr):(rs:List xJ)->(c:Nat)->Cont (iZ rs)->(List AV->List Wr->Prog J)->Prog J
 | [],_,_,k=>k [] []
 | .val kk exts iQ :: rs,c,x,k=>MK ws (bif kk.flat then [] else wP (BK is exts iQ)) fun tags=>
   uQ d is ws rs (c+1) x.2 fun as ws'=>k (.val kk x.1 tags :: as) ws'
 | .own kk ow exts iQ :: rs,c,x,k=>MK ws (bif kk.tys.all (fun t=>az t ow) then [] else wP (BK is exts iQ)) fun tags=>
   iL (aY d c) (uQ d is ws rs (c+1) x.2 fun as ws'=>k (.ref (aY d c) 0 :: as) (.r (aY d c) (some (aK kk x.1 ow tags .anon)) :: ws'))
 | .ptr t kk ow exts :: rs,c,x,k=>MK ws (bif kk.tys.all (fun t=>az t ow) then [] else wP (BK is exts [])) fun tags=>
   iL (aY d c) (uQ d is ws rs (c+1) x.2 fun as ws'=>k (.ptr (aY d c) [] 0 :: as) (.r (aY d c) (some (aK kk x.1 ow tags (.var t))) :: ws'))
 | .into j p :: rs,c,x,k=>bif Nat.beq c 0 && p.isEmpty && rs.isEmpty then match is[j]? with
   | some i=>match i.wb with
    | some (r,q,_,ht)=>match ws.find? (fun w=>w.loc.beq (.r r)) with
     | some (.r _ (some R))=>bif az qh ht then .fail else k [.wT r q (gY R.w+gY R.h) (show Int from x.1).toNat] []
     | _=>.fail
    | none=>.fail
   | none=>.fail
  else .fail
def Uw:List AV->wL
 | [a]=>.one a
 | l=>.Hq l
def UA (n:Nat) (E:Entry) (dst:Option Nat) (IM:List AV) (k:List Wr->Prog J):Prog J:=
 kI E.ps IM fun c is=>bif CE (is.flatMap dz.touched) && BU is && wJ is E.ps is then
  .opt _ (E.F n c) fun out=>Fp E.ps is (Cont.snd (iZ E.rs) (lH E.ps) out) fun ws=>
   match dst with
   | some d=>uQ d is ws E.rs 0 (Cont.fst (iZ E.rs) (lH E.ps) out) fun as ws'=>k (is.flatMap dz.ws++ws++ws'++[.s d (Uw as)])
   | none=>k (is.flatMap dz.ws++ws)
 else .fail
def tV (f d:Nat):List (Nat×Option Nat×Entry)->Option Entry
 | []=>none
 | (g,none,E) :: l=>bif Nat.beq f g then some E else tV f d l
 | (g,some e,E) :: l=>bif Nat.beq f g && Nat.beq d e then some E else tV f d l
def SG (mx:Bool):IntKind->Int->List AV->(Int->Prog J)->Prog J
 | _,x,[],k=>k x
 | ik,x, .val (.int jk) y _ :: l,k=>bif yD ik jk then SG mx ik (if mx then (if y>x then y else x) else (if y<x then y else x)) l k else .fail
 | _,_,_,_=>.fail
def UC (T:jh) (d:Nat) (src dst:TypeId) (a:AV) (k:List Wr->Prog J):Prog J:=match T.ty src,T.ty dst with
 | some _,some (.int ik)=>match a with
  | .val (.int _) n _=>k [.s d (v1 (.int ik) (ik.wrap n))]
  | _=>.fail
 | some .str,some .str=>match a with
  | .val .str s _=>k [.s d (v1 .str s)]
  | _=>.fail
 | some (.sl _ (.int .u8)),some .str=>match a with
  | .jy=>k [.s d (v1 .str [])]
  | a=>uB a fun kk x _=>match kk,x with
   | .sl _ (.int .u8),xs=>k [.s d (v1 .str xs)]
   | _,_=>.fail
 | some .str,some (.sl e (.int .u8))=>match a with
  | .val .str s _=>iL (aY d 0) (k [.r (aY d 0) (some (aK (.sl e (.int .u8)) s [e] [] .anon)), .s d (.one (.ref (aY d 0) 0))])
  | _=>.fail
 | _,_=>.fail
def Rq:List AV->(List (TypeId×Dat×List Tag)->Prog J)->Prog J
 | [],k=>k []
 | a :: l,k=>addrOf a
   (fun R r p d=>bif Nat.beq (eO R p) SENT then .fail else Rq l fun cs=>k ((eO R p,d,(r,gY R.w) :: R.tags) :: cs))
   (fun bt d tags=>Rq l fun cs=>k ((bt,d,tags) :: cs))
def Pd (k0:K) (a:AV) (lo hi:Option Int) (k:AV->Prog J):Prog J:=match a with
 | .val .str s _=>bif !k0.beq .str then .fail else
  let n:=(show List Int from s).length
  match lo,hi with
  | none,none=>k (.val .str s [])
  | some l,none=>.tQ (0<=l/\l<=(n:Int)) inferInstance (k (.val .str ((show List Int from s).drop l.toNat) []))
  | none,some h=>.tQ (0<=h/\h<=(n:Int)) inferInstance (k (.val .str ((show List Int from s).take h.toNat) []))
  | some l,some h=>.tQ (0<=l/\l<=h/\h<=(n:Int)) inferInstance (k (.val .str (((show List Int from s).take h.toNat).drop l.toNat) []))
 | a=>uB a fun kk x tags=>match kk,x with
  | .sl e kk,xs=>bif !k0.beq (.sl e kk) then .fail else
   let xs:=(show List (El kk) from xs)
   match lo,hi with
   | none,none=>k (.val (.sl e kk) xs tags)
   | some l,none=>.tQ (0<=l/\l<=(xs.length:Int)) inferInstance (k (.val (.sl e kk) (xs.drop l.toNat) tags))
   | none,some h=>.tQ (0<=h/\h<=(xs.length:Int)) inferInstance (k (.val (.sl e kk) (xs.take h.toNat) tags))
   | some l,some h=>.tQ (0<=l/\l<=h/\h<=(xs.length:Int)) inferInstance (k (.val (.sl e kk) ((xs.take h.toNat).drop l.toNat) tags))
  | _,_=>.fail
def Ew (x:Option Operand) (k:Option Int->Prog J):Prog J:=match x with
 | none=>k none
 | some y=>dU y fun a=>asInt a fun _ i=>k (some i)
def isZero:Option Operand->Bool
 | some (.const (.int _ 0))=>true
 | _=>false
def P5 (hi:Hint) (n:Nat) (dst:Option Nat) (c:Call) (k:List Wr->Prog J):Prog J:=match c.callee with
 | .value f=>dU f fun
  | .fn f caps=>kH c.args.toList fun l=>match tV f (dst.getD 0) hi.calls with
   | some E=>bif Nat.beq E.f f then UA n E dst (l++caps.map fun (t,dd,tags)=>.jE t dd.1 dd.2 tags) k else .fail
   | none=>.fail
  | _=>.fail
 | _=>.fail
def vC (d:Nat):List (Nat×List TypeId)->List TypeId
 | []=>[]
 | (e,l) :: m=>bif Nat.beq d e then l else vC d m
def Qt (hi:Hint) (d:Nat) (k:K):List TypeId:=match vC d hi.less with
 | []=>k.tys
 | l=>bM k.tys l
def Be {A:Type}:Nat->List A->List (Nat×A)
 | _,[]=>[]
 | i,a :: l=>(i,a) :: Be (i+1) l
def VQ:K->List (Nat×AV)->Nat->Prog J->Prog J
 | .pair kk r,(n,a) :: l,i,p=>bif Nat.beq n i then wG kk a fun tk=>bif tk.k.beq kk then VQ r l (i+1) p else .fail else .fail
 | .unit,[],_,p=>p
 | _,_,_,_=>.fail
def NU (e:TypeId) (d:Nat) (a:AV) (k:List Wr->Prog J):Prog J:=match a with
 | .ref r g=>ownRow r g fun R e' kk xs=>bif (K.sl e' kk).beq (.sl e (.int .u8)) then .tQ (0<xs.length) inferInstance (k [.r r (some { R with k:=.sl e' kk,x:=xs,w:=e' :: R.w }), .s d (.one (.ref r g))]) else .fail
 | _=>.fail
def He (T:jh) (o:Oper) (d:Nat) (k:List Wr->Prog J):Prog J:=match o.op with
 | .slice t x lo hi mx=>match T.ty t with
  | some kk=>dU x fun a=>Ew lo fun lo=>Ew hi fun hi=>Ew mx fun mx=>MQ kk a lo hi mx fun u=>k [.s d (.one u)]
  | none=>.fail
 | .call c=>match c.callee with
  | .builtin .len=>kH c.args.toList fun
   | [.part _ _ lo hi _]=>match (c.argTypes[0]?).bind T.ty with
    | some (.sl _ _)=>k [.s d (.one (.val (.int .i64) ((hi - lo:Nat):Int) []))]
    | _=>.fail
   | _=>.fail
  | .builtin .append=>kH c.args.toList fun
   | [a,b]=>match (c.argTypes[0]?).bind T.ty,(c.argTypes[1]?).bind T.ty with
    | some (.sl e0 k0),some (.sl _ _)=>Oa (.sl e0 k0) d a b k
    | _,_=>.fail
   | _=>.fail
  | .builtin .copy=>kH c.args.toList fun
   | [a,b]=>match (c.argTypes[0]?).bind T.ty,(c.argTypes[1]?).bind T.ty with
    | some (.sl e0 k0),some (.sl _ _)=>UD (.sl e0 k0) d a b k
    | _,_=>.fail
   | _=>.fail
  | _=>.fail
 | .build t ps=>match T.ty t with
  | some (.st c)=>Ad ps.toList fun l=>VQ c l 0 (k [.s d (.lit t c (l.map (·.2)))])
  | _=>.fail
 | .convert s t x=>match T.ty t with
  | some (.sl e (.int .u8))=>bif Nat.beq s t then dU x fun a=>NU e d a k else .fail
  | _=>.fail
 | _=>.fail
def abA (T:jh) (s:Nat) (k:List Wr->Prog J):Prog J:=.slot s fun
 | .lit t c l=>bif (match T.ty t with | some kk=>kk.beq (.st c) | none=>false) then Ao (Be 0 l) ⟨.st c,(K.st c).zero,[],[],[],false,[]⟩ fun b=>
   bif !Co b.ws b.all then .fail else iL (aY s 1) (k (b.ws++[.r (aY s 1) (some (aK b.k b.x (bM b.k.tys b.bad) b.tags .anon b.keep)), .s s (.one (.ref (aY s 1) 0))]))
  else .fail
 | _=>.fail
def zm:List Stp->List Stp->Bool
 | [.gu i],[.gu j]=>!Nat.beq i j
 | _,_=>false
def freshen (r:Nat) (p:List Stp) (v v':Nat):AV->AV
 | .rH q p' n=>bif Nat.beq r q && Nat.beq n v && zm p p' then .rH q p' v' else .rH q p' n
 | a=>a
def OA (r:Nat) (p:List Stp) (v:Nat):List Wr->AV->AV
 | [.r _ (some R)]=>freshen r p v R.qJ
 | _=>fun a=>a
def Pe (s s2:Nat) (k:List Wr->Prog J):Prog J:=.slot s fun
 | .one (.rH r p v)=>wG .unit (.rH r p v) fun tk=>bif Nat.beq s s2 || tk.ws.isEmpty then .fail else iL (aY s 1) (.slot s2 fun
  | .lit t c l=>k (tk.ws++[.r (aY s 1) (some (aK tk.k tk.x tk.own tk.iD .anon tk.keep)), .s s (.one (.ref (aY s 1) 0)), .s s2 (.lit t c (l.map (OA r p v tk.ws)))])
  | _=>.fail)
 | _=>.fail
def shares (r:Nat) (l:List AV):Bool:=l.any fun
 | .rH q _ _=>Nat.beq r q
 | _=>false
def splits (s2:Nat):List (Nat×Operand)->Prog (List Wr)
 | []=>.ret []
 | (_, .tmp s) :: l=>.slot s fun
  | .one (.rH r _ _)=>.slot s2 fun
   | .lit _ _ m=>bif shares r m then Yn (Pe s s2 .ret) (splits s2 l) else splits s2 l
   | _=>.fail
  | _=>splits s2 l
 | _ :: l=>splits s2 l
def zI:List (Nat×Operand)->(Nat->Prog J)->Prog J
 | [],_=>.fail
 | (_, .tmp s) :: l,k=>.slot s fun
  | .lit _ _ _=>k s
  | _=>zI l k
 | _ :: l,k=>zI l k
def aaB (T:jh) (d:Nat) (t:TypeId) (ps:Array (Nat×Operand)):Prog (List Wr):=match T.ty t with
 | some (.st c)=>Ad ps.toList fun l=>Ao l ⟨.st c,(K.st c).zero,[],[],[],false,[]⟩ fun b=>bif !Co b.ws b.all then .fail else bif b.k.tys.all fun t=>az t b.bad then
   .ret (b.ws++[.s d (.one (.val b.k b.x b.tags))])
  else iL (aY d 0) (.ret (b.ws++[.r (aY d 0) (some (aK b.k b.x (bM b.k.tys b.bad) b.tags .anon b.keep)), .s d (.one (.ref (aY d 0) 0))]))
 | _=>.fail
def Jt (T:jh) (d:Nat) (t:TypeId) (ps:Array (Nat×Operand)):Prog (List Wr):=
 zI ps.toList fun s=>Yn (splits s ps.toList) (Yn (abA T s .ret) (aaB T d t ps))
def KV (T:jh) (o:Oper) (d:Nat) (k:List Wr->Prog J):Prog J:=match o.op with
 | .build t ps=>(Jt T d t ps).bind k
 | .call c=>match c.callee with
  | .builtin .append=>kH c.args.toList fun
   | [a,b]=>match c.argTypes[0]?,(c.argTypes[1]?).bind T.ty with
    | some t,some (.sl _ _)=>match b with
     | .sub r p n lo hi sz=>abO T d t a r p n lo hi sz k
     | b=>aaz T d t a b k
    | _,_=>.fail
   | _=>.fail
  | _=>.fail
 | .load t x=>dU x fun a=>BO T true t a fun u=>match T.ty t with
  | some kk=>wG kk u fun tk=>iL (aY d 0) (k (tk.ws++[Wr.r (aY d 0) (some (aK tk.k tk.x tk.own tk.iD .anon tk.keep)),Wr.s d (.one (.ref (aY d 0) 0))]))
  | none=>.fail
 | _=>.fail
def Pj (T:jh) (t:TypeId) (a v:AV) (k:List Wr->Prog J):Prog J:=match v with
 | .wT r p n m=>match T.ty t with
  | some k0=>CO k0 a r p n m k
  | none=>.fail
 | .app r p n q=>match T.ty t with
  | some k0=>CF k0 a r p n q k
  | none=>.fail
 | .sel r p n q a' b'=>match T.ty t with
  | some k0=>Dn k0 a r p n q a' b' k
  | none=>.fail
 | v=>Ph T t a v k
def ZI (T:jh) (hi:Hint) (n:Nat) (o:Oper) (k:List Wr->Prog J):Prog J:=match o.op with
 | .store t x v=>dU x fun a=>dU v fun v=>Pj T t a v k
 | .call c=>match c.callee with
  | .builtin .clear=>kH c.args.toList fun
   | [a]=>match (c.argTypes[0]?).bind T.ty with
    | some (.sl e0 k0)=>N9 (.sl e0 k0) a k
    | _=>.fail
   | _=>.fail
  | _=>P5 hi n none c k
 | _=>.fail
def ZH (T:jh) (hi:Hint) (n:Nat) (o:Oper) (d:Nat) (k:List Wr->Prog J):Prog J:=
 let put (a:AV):Prog J:=k [.s d (.one a)]
 match o.op with
 | .move x=>uz x fun a=>k [.s d a]
 | .assign x=>uz x fun
  | .one .jy=>match T.ty o.type with
   | some (.sl e kk)=>.root (aY d 0) fun
    | none=>k [.r (aY d 0) (some (aK (.sl e kk) [] (e :: Qt hi d kk) [] .anon)), .s d (.one (.ref (aY d 0) 0))]
    | some _=>k [.s d (.one .jy)]
   | _=>.fail
  | a=>k [.s d a]
 | .pick c a b=>dU c fun c=>asBool c fun c=>uz a fun a=>uz b fun b=>.br c (k [.s d a]) (k [.s d b])
 | .alloc t=>match T.ty t with
  | some kk=>iL (aY d 0) (k [.r (aY d 0) (some (aK kk kk.zero kk.tys [] (.var t))), .s d (.one (.ptr (aY d 0) [] 0))])
  | none=>.fail
 | .box t x=>match T.ty t with
  | some kk=>dU x fun a=>XC a kk (fun r g=>put (.FM r g kk [])) <| wG kk a fun tk=>bif tk.k.beq kk && !az t tk.bad then
    iL (aY d 0) (k (tk.ws++[.r (aY d 0) (some (aK tk.k tk.x tk.own tk.iD (.var t) tk.keep)), .s d (.one (.ptr (aY d 0) [] 0))]))
   else .fail
  | none=>.fail
 | .load t x=>dU x fun a=>BO T (az d hi.ai4) t a put
 | .nilCheck x=>dU x fun
  | .ptr r p h=>put (.ptr r p h)
  | .jE bt kk y tags=>put (.jE bt kk y tags)
  | _=>.fail
 | .binOp op t x y _=>NR T t op x y fun v=>k [.s d v]
 | .unOp op _ x=>dU x fun a=>unP op a fun v=>k [.s d v]
 | .convert s t x=>dU x fun a=>UC T d s t a k
 | .field t x f=>match T.ty t with
  | some kk=>dU x fun a=>F3 kk a f put
  | none=>.fail
 | .fieldAddr t x f=>match T.ty t with
  | some kk=>dU x fun a=>vB kk a f put
  | none=>.fail
 | .indexAddr t x i=>match T.ty t with
  | some kk=>dU x fun a=>dU i fun i=>asInt i fun _ i=>vE kk a i put
  | none=>.fail
 | .index t x i=>dU x fun a=>dU i fun i=>asInt i fun _ i=>match T.ty t,a with
  | some .str, .val .str s _=>.tQ (aL i (show List Int from s).length) inferInstance (put (.val (.int .u8) ((show List Int from s).getD i.toNat 0) []))
  | _,_=>.fail
 | .extract x i=>uz x fun
  | .Hq l=>match l[i]? with
   | some a=>put a
   | none=>.fail
  | _=>.fail
 | .build t ps=>match T.ty t with
  | some (.st c)=>Ad ps.toList fun l=>Ao l ⟨.st c,(K.st c).zero,[],[],[],false,[]⟩ fun b=>bif !Co b.ws b.all then .fail else bif b.k.tys.all fun t=>az t b.bad then
    k (b.ws++[.s d (.one (.val b.k b.x b.tags))])
   else iL (aY d 0) (k (b.ws++[.r (aY d 0) (some (aK b.k b.x (bM b.k.tys b.bad) b.tags .anon b.keep)), .s d (.one (.ref (aY d 0) 0))]))
  | _=>.fail
 | .buildSlice t len ps=>match T.ty t with
  | some (.sl e kk)=>Ad ps.toList fun l=>FV kk l ⟨[],[],[],[],false,[]⟩ fun b=>bif !(Co b.ws b.all && Nat.ble (len * kk.size) 16777216) then .fail else bif Nat.beq (gY b.xs) len && !az e b.bad then
    iL (aY d 0) (k (b.ws++[.r (aY d 0) (some (aK (.sl e kk) b.xs (e :: bM (Qt hi d kk) b.bad) b.tags .anon b.keep)), .s d (.one (.ref (aY d 0) 0))]))
   else bif Nat.beq (gY b.xs) 0 then
    iL (aY d 0) (k [.r (aY d 0) (some (aK (.sl e kk) (List.replicate len kk.zero) (e :: kk.tys) [] .anon)), .s d (.one (.ref (aY d 0) 0))])
   else .fail
  | _=>.fail
 | .makeSlice t x y=>match T.ty t with
  | some (.sl e kk)=>dU x fun a=>dU y fun b=>asInt a fun ik i=>asInt b fun jk j=>bif yD ik .i64 && yD jk .i64 then
    .tQ (i=j/\0<=i/\i * T.bytes e<=140737488355328) inferInstance (iL (aY d 0)
     (k [.r (aY d 0) (some (aK (.sl e kk) (List.replicate i.toNat kk.zero) (e :: kk.tys) [] .anon)), .s d (.one (.ref (aY d 0) 0))]))
   else .fail
  | _=>.fail
 | .makeFunc (.func f) first caps=>bif first.isEmpty then kH caps.toList fun l=>Rq l fun cs=>put (.fn f cs) else .fail
 | .slice t x lo hi mx=>match T.ty t with
  | some kk=>bif isZero lo && isZero hi && isZero mx then match kk with
    | .sl _ _=>dU x fun
     | .jy=>put .jy
     | a=>uB a fun k' _ _=>bif k'.beq kk then put .jy else .fail
    | _=>.fail
   else match mx with
    | none=>dU x fun a=>Ew lo fun lo=>Ew hi fun hi=>Pd kk a lo hi put
    | some _=>.fail
  | none=>.fail
 | .call c=>match c.callee with
  | .builtin .len=>kH c.args.toList fun
   | [.jy]=>match (c.argTypes[0]?).bind T.ty with
    | some (.sl _ _)=>put (.val (.int .i64) 0 [])
    | _=>.fail
   | [.val .str s _]=>match (c.argTypes[0]?).bind T.ty with
    | some .str=>put (.val (.int .i64) ((show List Int from s).length:Int) [])
    | _=>.fail
   | [a]=>match (c.argTypes[0]?).bind T.ty with
    | some (.sl _ _)=>uB a fun kk x _=>match kk,x with
     | .sl _ kk,xs=>put (.val (.int .i64) ((show List (El kk) from xs).length:Int) [])
     | _,_=>.fail
    | _=>.fail
   | _=>.fail
  | .builtin .append=>kH c.args.toList fun
   | [a,b]=>match c.argTypes[0]?,(c.argTypes[1]?).bind T.ty with
    | some t,some (.sl _ _)=>zH T d t a b k
    | some t,some .str=>zH T d t a b k
    | _,_=>.fail
   | _=>.fail
  | .builtin .min=>kH c.args.toList fun
   | .val (.int ik) x _ :: l=>SG false ik x l fun z=>put (.val (.int ik) z [])
   | _=>.fail
  | .builtin .max=>kH c.args.toList fun
   | .val (.int ik) x _ :: l=>SG true ik x l fun z=>put (.val (.int ik) z [])
   | _=>.fail
  | .value _=>P5 hi n (some d) c k
  | _=>.fail
 | _=>.fail
def Eg (T:jh) (hi:Hint) (n:Nat) (o:Oper) (k:List Wr->Prog J):Prog J:=match o.dst with
 | some d=>bif Nat.blt d hi.nt then (bif az d hi.parts then He T o d k else bif az d hi.apps then KV T o d k else ZH T hi n o d k) else .fail
 | none=>ZI T hi n o k
end
variable {R:Type}
def refine (Z:St) (s:Nat) (b:Bool) (T:List Tag):St:={ Z with slots:=upd Z.slots s (.one (.val .bool b T)) }
def guardOf (ops:Array Oper) (o:Oper):Option (Option Nat×Bool):=match o.guard with
 | none=>none
 | some (g,want)=>some ((ops[g]?).bind (·.dst),want)
def guarded (Z:St) (ops:Array Oper) (o:Oper) (go:List Loc->St->Option R) (skip:List Loc->St->Option R):Option R:=match guardOf ops o with
 | none=>go [] Z
 | some (some s,want)=>match Z.slots s with
  | .one (.val .bool b T)=>if b=true then (bif want then go [.s s] (refine Z s true T) else skip [.s s] (refine Z s true T))
    else (bif want then skip [.s s] (refine Z s false T) else go [.s s] (refine Z s false T))
  | .Hq []=>skip [.s s] Z
  | _=>none
 | some (none,_)=>none
def FR (hi:Hint) (o:Oper):Bool:=match o.dst with
 | some d=>Nat.blt d hi.nt
 | none=>true
def Ef (o:Oper):List Wr:=match o.dst with
 | some d=>[.s d (.Hq [])]
 | none=>[]
def BB (T:jh) (hi:Hint) (n:Nat) (ops:Array Oper):List Oper->St->(St->Option R)->Option R
 | [],Z,K=>K Z
 | o :: l,Z,K=>guarded Z ops o
   (fun _ Z=>(Eg T hi n o .ret).run Z fun ws=>BB T hi n ops l (aB ws Z) K)
   (fun _ Z=>bif FR hi o then BB T hi n ops l (aB (Ef o) Z) K else none)
structure Eff where
 i:Nat
 rd:List Loc
 wr:List Loc
def SE (x:Loc):List Loc->Bool
 | []=>false
 | y :: l=>bif x.beq y then true else SE x l
def JX (a b:List Loc):Bool:=a.all fun x=>!SE x b
def binders (ops:Array Oper) (i:Nat):List Nat:=((((ops[i]?).getD default).after.toList.filter (Region.binds .any)).map (·.on))
def leads (ops:Array Oper):Nat->Nat->Nat->Bool
 | 0,_,_=>false
 | f+1,j,i=>az j (binders ops i) || (binders ops i).any fun b=>Nat.blt j b && leads ops f j b
def DT (ops:Array Oper) (e:Eff) (l:List Eff):Bool:=
 (binders ops e.i).all (fun b=>Nat.blt b e.i) && l.all fun b=>az b.i (binders ops e.i) || ((JX b.wr (e.rd++e.wr) && JX b.rd e.wr) || leads ops 6 b.i e.i)
def FY (T:jh) (hi:Hint) (n:Nat) (ops:Array Oper):List Oper->Nat->List Eff->St->(St->Option R)->Option R
 | [],_,_,Z,K=>K Z
 | o :: l,i,es,Z,K=>guarded Z ops o
   (fun g Z=>(Eg T hi n o .ret).EC Z g fun ws rd=>
    bif DT ops ⟨i,rd,ws.map Wr.loc⟩ es then FY T hi n ops l (i+1) (⟨i,rd,ws.map Wr.loc⟩ :: es) (aB ws Z) K else none)
   (fun g Z=>bif FR hi o && DT ops ⟨i,g,(Ef o).map Wr.loc⟩ es then FY T hi n ops l (i+1) (⟨i,g,(Ef o).map Wr.loc⟩ :: es) (aB (Ef o) Z) K else none)
inductive KY where
 | undef
 | val (k:K) (ids:List Nat)
 | jy
 | ref (r:Nat)
 | ptr (r:Nat) (p:List (Option Nat))
 | jE (bt:TypeId) (k:K) (ids:List Nat)
 | rA
 | fn (f:Nat) (caps:List (TypeId×K×List Nat))
def NV:List (TypeId×K×List Nat)->List K
 | []=>[]
 | c :: l=>c.2.1 :: NV l
def KY.ks:KY->List K
 | .val k _ | .jE _ k _=>[k]
 | .ptr _ p=>(gq.into 0 p).kin
 | .fn _ caps=>NV caps
 | _=>[]
structure Lg where
 k:K
 own:List TypeId
 ids:List Nat
 kind:DK
 fixed:Bool
 keep:Bool
 log:Option (K×List TypeId×List TypeId)
def bD (Z:St) (tys:List TypeId):List Tag->Bool
 | []=>true
 | (r,n) :: l=>(bif gy r then true else match Z.roots r with
  | some R=>!R.bg && clean R.w n tys
  | none=>false) && bD Z tys l
def oC (rs:List Nat):List Tag->List Nat
 | []=>[]
 | (r,_) :: l=>bif (gy r || az r rs) && !az r (oC rs l) then r :: oC rs l else oC rs l
def shP:List Stp->List (Option Nat)
 | []=>[]
 | .gu n :: p=>some n :: shP p
 | .idx _ :: p=>none :: shP p
def G8 (rs:List Nat):List (TypeId×Dat×List Tag)->List (TypeId×K×List Nat)
 | []=>[]
 | (t,d,tags) :: l=>(t,d.1,oC rs tags) :: G8 rs l
def UO (rs ex:List Nat):List Nat:=ex.filter fun i=>gy i || az i rs
def shA (rs ex:List Nat):AV->KY
 | .undef=>.undef
 | .val k _ tags=>.val k (oC rs tags++UO rs ex)
 | .jy=>.jy
 | .ref r _=>.ref r
 | .rH _ _ _=>.undef
 | .ptr r p _=>.ptr r (shP p)
 | .jE bt k _ tags=>.jE bt k (oC rs tags)
 | .rA=>.rA
 | .FM _ _ _ _=>.undef
 | .yI _=>.undef
 | .part _ _ _ _ _=>.undef
 | .wT _ _ _ _=>.undef
 | .sub _ _ _ _ _ _=>.undef
 | .sel _ _ _ _ _ _=>.undef
 | .app _ _ _ _=>.undef
 | .fn f caps=>.fn f (G8 rs caps)
def IZ (t:TypeId) (ids:List Nat):Bool:=!Nat.beq t SENT || ids.all gy
def xX (Z:St) (rs:List Nat):(cs:List (TypeId×K×List Nat))->List (TypeId×Dat×List Tag)->Option (Cont (NV cs))
 | [],[]=>some ()
 | (t,k,ids) :: cs,(t',d,tags) :: l=>bif Nat.beq t t' && bD Z (t :: k.tys) tags && mY (oC rs tags) ids && IZ t ids then
   match bQ d.1 k d.2,xX Z rs cs l with
   | some x,some c=>some (x,c)
   | _,_=>none
  else none
 | _,_=>none
def Ry (Z:St) (rs:List Nat):(sh:KY)->AV->Option (Cont sh.ks)
 | .undef,_=>some ()
 | .val k ids, .val k' x tags=>bif bD Z k.tys tags && mY (oC rs tags) ids then
   match bQ k' k x with
   | some y=>some (y,())
   | none=>none
  else none
 | .jy, .jy=>some ()
 | .ref r, .ref r' g=>bif Nat.beq r r' && az r rs && (match Z.roots r with | some R=>Nat.beq R.g g | none=>false) then some () else none
 | .ptr r p, .ptr r' q h=>bif Nat.beq r r' && az r rs && (match Z.roots r with | some R=>clean R.h h (eT q R.k) | none=>false) then idxOf p q else none
 | .jE bt k ids, .jE bt' k' x tags=>bif Nat.beq bt bt' && bD Z (bt :: k.tys) tags && mY (oC rs tags) ids && IZ bt ids then
   match bQ k' k x with
   | some y=>some (y,())
   | none=>none
  else none
 | .rA, .rA=>some ()
 | .fn f cs, .fn f' caps=>bif Nat.beq f f' then xX Z rs cs caps else none
 | _,_=>none
def Gx:(cs:List (TypeId×K×List Nat))->Cont (NV cs)->List (TypeId×Dat×List Tag)
 | [],_=>[]
 | (t,k,ids) :: cs,c=>(t,⟨k,c.1⟩,ids.map fun r=>(r,0)) :: Gx cs c.2
def mkA:(sh:KY)->Cont sh.ks->AV
 | .undef,_=>.undef
 | .val k ids,c=>.val k c.1 (ids.map fun r=>(r,0))
 | .jy,_=>.jy
 | .ref r,_=>.ref r 0
 | .ptr r p,c=>.ptr r (pathOf p c) 0
 | .jE bt k ids,c=>.jE bt k c.1 (ids.map fun r=>(r,0))
 | .rA,_=>.rA
 | .fn f cs,c=>.fn f (Gx cs c)
def shS (wd:List (Nat×List Nat)) (rs:List Nat) (Z:St):List Nat->List (Nat×KY)
 | []=>[]
 | s :: l=>(match Z.slots s with
  | .one a=>(s,shA rs (vC (2 * s) wd) a)
  | _=>(s, .undef)) :: shS wd rs Z l
def Su:List (Nat×KY)->List K
 | []=>[]
 | (_,sh) :: l=>sh.ks++Su l
def jC (r:Nat):List (Nat×K×List TypeId×List TypeId)->Option (K×List TypeId×List TypeId)
 | []=>none
 | (q,l) :: ls=>bif Nat.beq r q then some l else jC r ls
def shR (wd:List (Nat×List Nat)) (jD:List (Nat×K×List TypeId×List TypeId)) (rs:List Nat) (Z:St):List Nat->Option (List (Nat×Lg))
 | []=>some []
 | r :: l=>match Z.roots r,shR wd jD rs Z l with
  | some R,some q=>some ((r,⟨R.k,R.own,oC rs R.tags++(UO rs (vC (2 * r+1) wd)).filter (fun q=>!Nat.beq q r),R.kind,R.fixed,R.keep,jC r jD⟩) :: q)
  | _,_=>none
def WX:List (Nat×Lg)->List K
 | []=>[]
 | (_,sh) :: l=>sh.k :: WX l
def ctS (Z:St) (rs:List Nat):(l:List (Nat×KY))->Option (Cont (Su l))
 | []=>some ()
 | (s,sh) :: l=>match Z.slots s with
  | .one a=>match Ry Z rs sh a,ctS Z rs l with
   | some c,some d=>some (Cont.app sh.ks (Su l) c d)
   | _,_=>none
  | _=>match sh with
   | .undef=>match ctS Z rs l with
    | some d=>some d
    | none=>none
   | _=>none
def Wq:DK->DK->Bool
 | .anon, .anon | .par, .par | .dead, .dead=>true
 | .var a, .var b=>Nat.beq a b
 | _,_=>false
def Ah (R:Root):Option (List TypeId×List TypeId)->Bool
 | some (wt,ht)=>mY R.w wt && mY R.ew wt && mY R.h ht && mY R.eh ht && Nat.beq R.g 0
 | none=>true
def aby (R:Root):Option (K×List TypeId×List TypeId)->Bool
 | some (k,l)=>R.k.beq k && Ah R (some l)
 | none=>true
def vM (R:Root) (l:List TypeId):Root:={ R with own:=bM R.own l,w:=l++R.w }
def VU (l:List TypeId) (r:Nat) (Z:St):St:=match l with
 | []=>Z
 | l=>match Z.roots r with
  | some R=>bif R.bg || !bD Z R.z8 R.tags || !R.own.any (fun t=>az t l) then Z else { Z with roots:=upd Z.roots r (some (vM R l)) }
  | none=>Z
def AP (hi:Hint):List Nat->St->St
 | [],Z=>Z
 | r :: rs,Z=>AP hi rs (VU (vC (1000000+r) hi.less) r Z)
def ctR (Z:St) (rs:List Nat):(l:List (Nat×Lg))->Option (Cont (WX l))
 | []=>some ()
 | (r,sh) :: l=>match Z.roots r with
  | some R=>bif bD Z R.z8 R.tags && mY (oC rs R.tags) sh.ids && oH sh.k R.own sh.own && Wq R.kind sh.kind && (R.fixed == sh.fixed) && (R.keep == sh.keep) && !R.bg && aby R sh.log then
    match bQ R.k sh.k R.x,ctR Z rs l with
    | some x,some d=>some (x,d)
    | _,_=>none
   else none
  | none=>none
def mkS:(l:List (Nat×KY))->Cont (Su l)->Nat->wL
 | [],_,_=>.one .undef
 | (s,sh) :: l,c,n=>bif Nat.beq n s then .one (mkA sh (Cont.fst sh.ks (Su l) c)) else mkS l (Cont.snd sh.ks (Su l) c) n
def afV:Option (K×List TypeId×List TypeId)->List TypeId
 | some (_,l,_)=>l
 | none=>[]
def afU:Option (K×List TypeId×List TypeId)->List TypeId
 | some (_,_,l)=>l
 | none=>[]
def Zy:(l:List (Nat×Lg))->Cont (WX l)->Nat->Option Root
 | [],_,_=>none
 | (r,sh) :: l,c,n=>bif Nat.beq n r then some { k:=sh.k,x:=c.1,own:=sh.own,tags:=sh.ids.map fun r=>(r,0),w:=[],h:=[],g:=0,kind:=sh.kind,fixed:=sh.fixed,keep:=sh.keep,ew:=afV sh.log,eh:=afU sh.log } else Zy l c.2 n
structure Y6 where
 ss:List (Nat×KY)
 rs:List (Nat×Lg)
abbrev Y6.V (s:Y6):Type:=Cont (Su s.ss++WX s.rs)
def abP (wd:List (Nat×List Nat)) (jD:List (Nat×K×List TypeId×List TypeId)) (ss rs:List Nat) (Z:St):Option Y6:=match shR wd jD rs Z rs with
 | some q=>bif jD.all (fun p=>az p.1 rs) then some ⟨shS wd rs Z ss,q⟩ else none
 | none=>none
def Rz (rs:List Nat) (s:Y6) (Z:St):Option s.V:=match ctS Z rs s.ss,ctR Z rs s.rs with
 | some a,some b=>some (Cont.app (Su s.ss) (WX s.rs) a b)
 | _,_=>none
def KE (s:Y6) (c:s.V):St:=⟨mkS s.ss (Cont.fst _ _ c),Zy s.rs (Cont.snd _ _ c)⟩
inductive Ex where
 | normal
 | exit (id:Nat)
 | ret
def rounds {V:Type} (B:(V->Option R)->V->Option R):Nat->V->Option R
 | 0=>fun _=>none
 | n+1=>B (rounds B n)
def L6 (b:Nat):List (Nat×List Nat×List Nat)->Option (List Nat×List Nat)
 | []=>none
 | (c,h) :: l=>bif Nat.beq b c then some h else L6 b l
def Ea {A:Type} (f:A->A->Bool):List A->List A->Bool
 | [],[]=>true
 | a :: l,b :: m=>f a b && Ea f l m
 | _,_=>false
def BA:(k:K)->El k->El k->Bool
 | .int _,x,y=>decide ((show Int from x)=y)
 | .bool,x,y=>(show Bool from x) == y
 | .str,x,y=>decide ((show List Int from x)=y)
 | .sl _ k,xs,ys=>Ea (BA k) xs ys
 | .unit,_,_=>true
 | .pair a b,x,y=>BA a x.1 y.1 && BA b x.2 y.2
 | .st f,x,y=>BA f x y
 | .gap _,_,_=>true
 | .id _,x,y=>Nat.beq x y
def xW:(ks:List K)->Cont ks->Cont ks->Bool
 | [],_,_=>true
 | k :: ks,c,d=>BA k c.1 d.1 && xW ks c.2 d.2
def Za (ks:List K):Option (Cont ks)->Option (Cont ks)->Option (Cont ks)
 | some a,some b=>bif xW ks a b then some a else none
 | _,_=>none
theorem ME {A:Type} {f:A->A->Bool} (hf:∀x y,f x y=true->x=y):∀{l m:List A},Ea f l m=true->l=m
 | [],[],_=>rfl
 | a :: l,b :: m,h=>by
  simp only [Ea,ank] at h
  rw [hf a b h.1,ME hf h.2]
 | [],_ :: _,h=>by simp [Ea] at h
 | _ :: _,[],h=>by simp [Ea] at h
theorem Gv {A:Type} {f:A->A->Bool} (hf:∀x,f x x=true):∀{l:List A},Ea f l l=true
 | []=>rfl
 | a :: l=>by simp [Ea,hf a,Gv hf]
theorem UL:∀{k:K} {x y:El k},BA k x y=true->x=y:=by
 intro k
 induction k with
 | int ik=>intro x y h; exact of_decide_eq_true h
 | bool=>intro x y h; exact eq_of_beq h
 | str=>intro x y h; exact of_decide_eq_true h
 | sl e k ih=>intro x y h; exact ME (fun x y h=>ih h) h
 | unit=>intro x y _; rfl
 | pair a b iha ihb=>
  intro x y h
  simp only [BA,ank] at h
  exact Prod.ext (iha h.1) (ihb h.2)
 | st f ih=>intro x y h; exact ih (x:=x) (y:=y) h
 | gap n=>intro x y _; rfl
 | id e=>intro x y h; exact ani h
theorem Ol:∀{k:K} {x:El k},BA k x x=true:=by
 intro k
 induction k with
 | int ik=>intro x; exact aoA rfl
 | bool=>intro x; exact @beq_self_eq_true Bool _ _ x
 | str=>intro x; exact aoA rfl
 | sl e k ih=>intro x; exact Gv fun x=>ih
 | unit=>intro x; rfl
 | pair a b iha ihb=>intro x; simp [BA,iha,ihb]
 | st f ih=>intro x; exact ih (x:=x)
 | gap n=>intro x; rfl
 | id e=>intro x; exact Nat.beq_refl x
theorem FL:∀{ks:List K} {c d:Cont ks},xW ks c d=true->c=d
 | [],_,_,_=>rfl
 | k :: ks,c,d,h=>by
  simp only [xW,ank] at h
  exact Prod.ext (UL h.1) (FL h.2)
theorem Bz:∀{ks:List K} {c:Cont ks},xW ks c c=true
 | [],_=>rfl
 | k :: ks,c=>by simp [xW,Ol,Bz]
theorem Ur {ks:List K} (a:Option (Cont ks)):Za ks a a=a:=by
 cases a with
 | none=>rfl
 | some a=>simp [Za,Bz]
theorem Us {ks:List K} {a b:Option (Cont ks)} {z:Cont ks} (h:Za ks a b=some z):a=some z/\b=some z:=by
 cases a with
 | none=>simp [Za] at h
 | some a=>
  cases b with
  | none=>simp [Za] at h
  | some b=>
   simp only [Za] at h
   cases hb:xW ks a b with
   | false=>rw [hb] at h; simp at h
   | true=>
    rw [hb] at h
    simp only [an0,ane] at h
    have:=FL hb
    subst h
    exact ⟨rfl,by rw [this]⟩
def den (T:jh) (hi:Hint) (n:Nat) (ag:Option R->Option R->Option R):Nat->Code->St->(Ex->St->Option R)->Option R
 | _, .skip,Z,K=>K .normal Z
 | _, .region _ ops draw,Z,K=>bif draw then FY T hi n ops ops.toList 0 [] Z (K .normal) else BB T hi n ops ops.toList Z (K .normal)
 | b, .seq x y,Z,K=>den T hi n ag b x Z fun
  | .normal,Z'=>den T hi n ag b y Z' K
  | e,Z'=>K e Z'
 | b, .cond c x y,Z,K=>(dU c fun a=>.ret a).run Z fun
  | .yI e=>if e=true then ag (den T hi n ag b x Z K) (den T hi n ag b y Z K) else den T hi n ag b y Z K
  | a=>(asBool a .ret).run Z fun t=>if t=true then den T hi n ag b x Z K else den T hi n ag b y Z K
 | _, .block id x,Z,K=>den T hi n ag id x Z fun
  | .exit i,Z'=>bif Nat.beq i id then K .normal Z' else K (.exit i) Z'
  | e,Z'=>K e Z'
 | b, .loop x,Z,K=>match L6 b hi.loops with
  | some (ss,rs)=>match abP hi.wide hi.jD ss rs (AP hi rs Z) with
   | some s=>match Rz rs s (AP hi rs Z) with
    | some c=>rounds (fun L v=>den T hi n ag b x (KE s v) fun
     | .normal,Z'=>match Rz rs s (AP hi rs Z') with
      | some v'=>L v'
      | none=>none
     | e,Z'=>K e Z') n c
    | none=>none
   | none=>none
  | none=>none
 | _, .exit id,Z,K=>K (.exit id) Z
 | _, .ret,Z,K=>K .ret Z
 | _,_,_,_=>none
def kr:(ps:List gq)->(i:Nat)->Cont (kin ps)->List (Nat×AV)
 | [],_,_=>[]
 | .val k iQ :: ps,i,c=>(i, .val k c.1 (bif k.flat then [] else (pO i,0) :: iQ.map fun j=>(aA j,0))) :: kr ps (i+1) c.2
 | .ro k :: ps,i,c=>(i, .jE SENT k c.1 [(pO i,0)]) :: kr ps (i+1) c.2
 | .rw _ _ _ _ :: ps,i,c=>(i, .ptr (aA i) [] 0) :: kr ps (i+1) c.2
 | .lI _ _ _ :: ps,i,c=>(i, .ref (aA i) 0) :: kr ps (i+1) c.2
 | .own _ _ :: ps,i,c=>(i, .ref (aA i) 0) :: kr ps (i+1) c.2
 | .fn f ks :: ps,i,c=>(i, .fn f (xR i ks (Cont.fst ks (kin ps) c))) :: kr ps (i+1) (Cont.snd ks (kin ps) c)
 | .into _ p :: ps,i,c=>(i, .jy) :: kr ps (i+1) (Cont.snd (gq.into 0 p).kin (kin ps) c)
where xR (i:Nat):(ks:List K)->Cont ks->List (TypeId×Dat×List Tag)
 | [],_=>[]
 | k :: ks,c=>(SENT,⟨k,c.1⟩,[(pO i,0)]) :: xR i ks c.2
def gX:(ps:List gq)->(i:Nat)->Cont (kin ps)->List (Nat×Root)
 | [],_,_=>[]
 | .val _ _ :: ps,i,c=>gX ps (i+1) c.2
 | .ro _ :: ps,i,c=>gX ps (i+1) c.2
 | .rw k ow _ _ :: ps,i,c=>(aA i,aK k c.1 ow (bif k.tys.all (fun t=>az t ow) then [] else [(pO i,0)]) .par true) :: gX ps (i+1) c.2
 | .lI k ow _ :: ps,i,c=>(aA i,{ aK k c.1 ow (bif k.tys.all (fun t=>az t ow) then [] else [(pO i,0)]) .anon true with fixed:=true }) :: gX ps (i+1) c.2
 | .own k ow :: ps,i,c=>(aA i,aK k c.1 ow (bif k.tys.all (fun t=>az t ow) then [] else [(pO i,0)]) .anon) :: gX ps (i+1) c.2
 | .fn _ ks :: ps,i,c=>gX ps (i+1) (Cont.snd ks (kin ps) c)
 | .into _ p :: ps,i,c=>gX ps (i+1) (Cont.snd (gq.into 0 p).kin (kin ps) c)
def ru:List (Nat×AV)->Nat->wL
 | [],_=>.one .undef
 | (s,a) :: l,n=>bif Nat.beq n s then .one a else ru l n
def gZ:List (Nat×Root)->Nat->Option Root
 | [],_=>none
 | (s,a) :: l,n=>bif Nat.beq n s then some a else gZ l n
def cK (ps:List gq) (c:Cont (kin ps)):St:=⟨ru (kr ps 0 c),gZ (gX ps 0 c)⟩
def qp (exts iQ:List Nat) (tags:List Tag):Bool:=tags.all fun t=>
 bif gy t.1 then az (t.1 / 4) exts else bif Nat.beq (t.1 % 4) 0 then az (t.1 / 4) iQ else true
def O6 {J:Type} (T:jh) (own:Bool) (rv:ResultVar) (k:AV->Prog J):Prog J:=match rv with
 | .tmp t=>dU (.tmp t) k
 | .cell t ty=>dU (.tmp t) fun a=>BO T own ty a k
def LY {J:Type} (T:jh):(rs:List xJ)->List ResultVar->(Cont (iZ rs)->List iW->List (List Tag)->Prog J)->Prog J
 | [],[],k=>k () [] []
 | .val kk exts iQ :: rs,v :: vs,k=>
  let go (x:El kk) (tags:List Tag):Prog J:=bif kk.flat || qp exts iQ tags then LY T rs vs fun c ts tg=>k (x,c) ts (tags :: tg) else .fail
  O6 T false v fun a=>match a with
  | .jy=>match kk,go with
   | .sl _ _,go=>go [] []
   | _,_=>.fail
  | a=>uB a fun k' x tags=>match bQ k' kk x with
   | some y=>go y (bif kk.flat then [] else tags)
   | none=>.fail
 | .own kk ow exts iQ :: rs,v :: vs,k=>O6 T true v fun a=>wG kk a fun tk=>match bQ tk.k kk tk.x with
  | some y=>bif mY (kk.tys.filter fun t=>az t ow) tk.own && (kk.tys.all (fun t=>az t ow) || qp exts iQ tk.tags) then LY T rs vs fun c ts tg=>k (y,c) (tk :: ts) tg else .fail
  | none=>.fail
 | _,_,_=>.fail
def EL (Z:St) (i:Nat):Option Root:=match Z.roots (aA i) with
 | some R=>bif R.bg || !bD Z R.z8 R.tags then none else some R
 | none=>none
def mq (Z:St):(ps:List gq)->Nat->Option (Cont (lH ps))
 | [],_=>some ()
 | .rw k ow wt ht :: ps,i=>match EL Z i,mq Z ps (i+1) with
  | some R,some d=>bif oH k R.own ow && Ah R (some (wt,ht)) && (k.tys.all (fun t=>az t ow) || qp [i] [] R.tags) then
    match bQ R.k k R.x with
    | some x=>some (x,d)
    | none=>none
   else none
  | _,_=>none
 | .lI k ow wt :: ps,i=>match EL Z i,mq Z ps (i+1) with
  | some R,some d=>bif oH k R.own ow && Ah R (some (wt,k.tys)) && (k.tys.all (fun t=>az t ow) || qp [i] [] R.tags) then
    match bQ R.k k R.x with
    | some x=>some (x,d)
    | none=>none
   else none
  | _,_=>none
 | .val _ _ :: ps,i=>mq Z ps (i+1)
 | .ro _ :: ps,i=>mq Z ps (i+1)
 | .own _ _ :: ps,i=>mq Z ps (i+1)
 | .fn _ _ :: ps,i=>mq Z ps (i+1)
 | .into _ _ :: ps,i=>mq Z ps (i+1)
def fin (T:jh) (ps:List gq) (rs:List xJ) (rv:List ResultVar) (Z:St):Option (Cont (iZ rs++lH ps)):=
 (LY T rs rv fun c ts tg=>bif Co (ts.flatMap (·.ws)) (ts.flatMap (·.tags)++tg.flatten) then .ret (c,ts.flatMap (·.ws)) else .fail:Prog (Cont (iZ rs)×List Wr)).run Z fun q=>
  match mq (aB q.2 Z) ps 0 with
  | some d=>some (Cont.app (iZ rs) (lH ps) q.1 d)
  | none=>none
def Root.VA (R:Root) (t:TypeId):Bool:=match R.kind with
 | .var u=>Nat.beq t u
 | _=>false
def Yi {J:Type} (t:TypeId) (kk:K) (ow:List TypeId) (exts:List Nat) (a:AV) (k:El kk->Nat->Prog J):Prog J:=match a with
 | .ptr r [] _=>oK r fun R=>bif R.VA t && mY (kk.tys.filter fun t=>az t ow) R.own && (kk.tys.all (fun t=>az t ow) || qp exts [] R.tags) then
   match bQ R.k kk R.x with
   | some y=>k y r
   | none=>.fail
  else .fail
 | _=>.fail
def cutV {J:Type} (j:Nat) (a:AV) (k:Int->Prog J):Prog J:=match a with
 | .ref r g=>bif Nat.beq r (aA j) && Nat.beq g 0 then oK r fun R=>bif Nat.beq R.g 0 then match R.k,R.x with
   | .sl _ kk,xs=>k ((show List (El kk) from xs).length:Int)
   | _,_=>.fail
  else .fail
  else .fail
 | .part r g lo hi _=>bif Nat.beq r (aA j) && Nat.beq g 0 && Nat.beq lo 0 then k (hi:Int) else .fail
 | _=>.fail
def XL (T:jh) (ps:List gq):(rs:List xJ)->List ResultVar->St->Option (Cont (iZ rs++lH ps))
 | [.ptr t kk ow exts],[rv],Z=>(O6 T false rv fun a=>Yi t kk ow exts a fun y r=>.ret (y,r):Prog (El kk×Nat)).run Z fun q=>
   match mq (aB [.r q.2 none] Z) ps 0 with
   | some d=>some (q.1,d)
   | none=>none
 | [.into j []],[rv],Z=>(O6 T false rv fun a=>cutV j a fun m=>.ret m:Prog Int).run Z fun m=>
   match mq Z ps 0 with
   | some d=>some (m,d)
   | none=>none
 | rs,wF,Z=>fin T ps rs wF Z
def vP:List gq->Nat->List (Nat×K×List TypeId×List TypeId)
 | [],_=>[]
 | .rw k _ wt ht :: ps,i=>(aA i,k,wt,ht) :: vP ps (i+1)
 | .lI k _ wt :: ps,i=>(aA i,k,wt,k.tys) :: vP ps (i+1)
 | _ :: ps,i=>vP ps (i+1)
def XF (T:jh) (hi:Hint) (fn:Func) (ps:List gq) (rs:List xJ) (n:Nat) (c:Cont (kin ps)):Option (Cont (iZ rs++lH ps)):=
 match fn.body with
 | some code=>den T { hi with nt:=fn.ntmps,jD:=vP ps 0 } n (Za (iZ rs++lH ps)) 0 code (cK ps c) fun
  | .ret,Z=>XL T ps rs fn.results.toList Z
  | .normal,Z=>XL T ps rs fn.results.toList Z
  | _,_=>none
 | none=>none
end
section
open Go
class Fr where
 free:Nat->Prop
 obj:Nat->Option Obj
 jm:Nat->Value
 abr:jm 0=.slice none 0 0
 afR:∀i,∃a n c,jm i=.slice a n c
abbrev aki:Fr:=⟨fun _=>False,fun _=>none,fun _=>.slice none 0 0,rfl,fun _=>⟨none,0,0,rfl⟩⟩
variable [Fr]
structure zY (n lo hi:Nat):Prop where
 le:lo<=hi
 out:∀i,i<n->¬(lo<=i/\i<hi)
instance {n lo hi:Nat}:CoeFun (zY n lo hi) (fun _=>∀i,i<n->¬(lo<=i/\i<hi)):=⟨zY.out⟩
theorem zY.zero {n:Nat}:zY n 0 0:=⟨anv _,fun _ _=>by omega⟩
abbrev Heap:=Nat->Option Obj
def hp (w:World):Heap:=fun b=>w.heap[b]?
def cellAt (h:Heap) (b o:Nat):Option Value:=match h b with
 | some (.cells c _ _)=>c[o]?
 | _=>none
def qm (h:Heap) (b:Nat):Option TypeId:=match h b with
 | some (.cells _ e _)=>some e
 | _=>none
def Cells (h:Heap) (b o:Nat) (cs:List Value):Prop:=∀i,i<cs.length->cellAt h b (o+i)=cs[i]?
theorem wu (w:World) (b o:Nat):w.cell? ⟨b,o,none⟩=cellAt (hp w) b o:=by
 unfold World.cell? cellAt hp
 cases w.heap[b]? with
 | none=>rfl
 | some x=>cases x <;> rfl
theorem mV {h h':Heap} {b:Nat} (e:h' b=h b) (o:Nat):cellAt h' b o=cellAt h b o:=by unfold cellAt; rw [e]
def vo (h:Heap) (b:Nat) (e:TypeId):Prop:=qm h b=some e\/Fr.free b
theorem FU {h h':Heap} {b:Nat} (e:h' b=h b):qm h' b=qm h b:=by unfold qm; rw [e]
theorem FT {h h':Heap} {b:Nat} {t:TypeId} (e:h' b=h b) (H:vo h b t):vo h' b t:=H.imp (fun H=>(FU e).trans H) id
theorem Cells.congr {h h':Heap} {b o:Nat} {cs:List Value} (e:h' b=h b) (H:Cells h b o cs):Cells h' b o cs:=fun i hi=>(mV e _).trans (H i hi)
def GV:IntKind->Int->Prop
 | .u8,n=>0<=n/\n<256
 | _,_=>True
def Vw (h:Heap) (ok:Nat->Prop):(k:K)->El k->List Value->Prop
 | .int ik,n,cs=>cs=[.int ik n]/\GV ik n
 | .bool,b,cs=>cs=[.bool b]
 | .str,s,cs=>∃B:ByteArray,cs=[.string B]/\(show List Int from s)=bytesOf B
 | .sl e k,xs,cs=>∃a n c,cs=[.slice a n c]/\n=(show List (El k) from xs).length/\n<=c/\
   (0<n->∃b o,a=some ⟨b,o,none⟩/\ok b/\vo h b e/\
    ∀(i:Nat) (hi:i<(show List (El k) from xs).length),∃ds,Cells h b (o+i * k.size) ds/\Vw h ok k ((show List (El k) from xs)[i]) ds)
 | .unit,_,cs=>cs=[]
 | .pair a b,x,cs=>∃c1 c2,cs=c1++c2/\Vw h ok a x.1 c1/\Vw h ok b x.2 c2
 | .st f,x,cs=>Vw h ok f x cs
 | .gap n,_,cs=>cs.length=n
 | .id _,i,cs=>cs=[Fr.jm (show Nat from i)]
def Ow (h:Heap) (own:List TypeId) (ok:Nat->Prop):(k:K)->El k->List Value->List Nat->Prop
 | .sl e k,xs,cs,fo=>if az e own=true then
   ∃a n c,cs=[.slice a n c]/\n=(show List (El k) from xs).length/\n<=c/\
    ((c=0/\fo=[])\/∃b o arr lo hi,a=some ⟨b,o,none⟩/\h b=some (.cells arr e (lo,hi))/\zY arr.size lo hi/\o+c * k.size<=arr.size/\
     ∃bC:List (List Nat),bC.length=(show List (El k) from xs).length/\fo.Perm (b :: bC.flatten)/\
      ∀(i:Nat) (hi:i<(show List (El k) from xs).length),∃ds,Cells h b (o+i * k.size) ds/\Ow h own ok k ((show List (El k) from xs)[i]) ds (bC.getD i []))
  else fo=[]/\Vw h ok (.sl e k) xs cs
 | .pair a b,x,cs,fo=>∃c1 c2 f1 f2,cs=c1++c2/\fo.Perm (f1++f2)/\Ow h own ok a x.1 c1 f1/\Ow h own ok b x.2 c2 f2
 | .st f,x,cs,fo=>Ow h own ok f x cs fo
 | .int ik,n,cs,fo=>fo=[]/\Vw h ok (.int ik) n cs
 | .bool,n,cs,fo=>fo=[]/\Vw h ok .bool n cs
 | .str,n,cs,fo=>fo=[]/\Vw h ok .str n cs
 | .unit,_,cs,fo=>fo=[]/\cs=[]
 | .gap n,_,cs,fo=>fo=[]/\cs.length=n
 | .id e,i,cs,fo=>fo=[]/\Vw h ok (.id e) i cs
theorem mh {h:Heap} {ok:Nat->Prop}:∀{k:K} {x:El k} {cs:List Value},Vw h ok k x cs->cs.length=k.size:=by
 intro k
 induction k with
 | int ik=>intro x cs H; rw [H.1]; rfl
 | bool=>intro x cs H; rw [show cs=_ from H]; rfl
 | id e=>intro x cs H; rw [show cs=_ from H]; rfl
 | str=>intro x cs H; obtain ⟨B,rfl,_⟩:=H; rfl
 | sl e k ih=>intro x cs H; obtain ⟨a,n,c,rfl,_⟩:=H; rfl
 | unit=>intro x cs H; rw [show cs=_ from H]; rfl
 | pair a b iha ihb=>intro x cs H; obtain ⟨c1,c2,rfl,h1,h2⟩:=H; simp [K.size,iha h1,ihb h2]
 | st f ih=>intro x cs H; exact ih (x:=x) H
 | gap n=>intro x cs H; exact H
theorem gH {h h':Heap} {ok ok':Nat->Prop} (hh:∀b,ok b->h' b=h b) (hk:∀b,ok b->ok' b):∀{k:K} {x:El k} {cs:List Value},Vw h ok k x cs->Vw h' ok' k x cs:=by
 intro k
 induction k with
 | int ik=>intro x cs H; exact H
 | bool=>intro x cs H; exact H
 | id e=>intro x cs H; exact H
 | str=>intro x cs H; exact H
 | sl e k ih=>
  intro x cs H
  obtain ⟨a,n,c,e1,e2,e3,H⟩:=H
  refine ⟨a,n,c,e1,e2,e3,fun hn=>?_⟩
  obtain ⟨b,o,ea,hb,ht,H⟩:=H hn
  refine ⟨b,o,ea,hk b hb,FT (hh b hb) ht,fun i hi=>?_⟩
  obtain ⟨ds,h1,h2⟩:=H i hi
  exact ⟨ds,h1.congr (hh b hb),ih h2⟩
 | unit=>intro x cs H; exact H
 | pair a b iha ihb=>intro x cs H; obtain ⟨c1,c2,e,h1,h2⟩:=H; exact ⟨c1,c2,e,iha h1,ihb h2⟩
 | st f ih=>intro x cs H; exact ih (x:=x) H
 | gap n=>intro x cs H; exact H
theorem jA {h h':Heap} {ok ok':Nat->Prop}:∀{k:K} {x:El k} {cs:List Value},k.flat=true->Vw h ok k x cs->Vw h' ok' k x cs:=by
 intro k
 induction k with
 | sl e k ih=>intro x cs h; simp [K.flat] at h
 | gap n=>intro x cs h; simp [K.flat] at h
 | pair a b iha ihb=>
  intro x cs h H
  simp only [K.flat,ank] at h
  obtain ⟨c1,c2,e,h1,h2⟩:=H
  exact ⟨c1,c2,e,iha h.1 h1,ihb h.2 h2⟩
 | st f ih=>intro x cs h H; exact ih (x:=x) h H
 | _=>intro x cs _ H; exact H
theorem E8 {h:Heap} {ok:Nat->Prop}:∀{k:K} {x:El k} {cs:List Value} (ts:List TypeId),(∀t∈k.tys,t∈ts)->Vw h ok k x cs->Vw h (fun b=>ok b/\∃t∈ts,vo h b t) k x cs:=by
 intro k
 induction k with
 | int ik=>intro x cs ts _ H; exact H
 | bool=>intro x cs ts _ H; exact H
 | id e=>intro x cs ts _ H; exact H
 | str=>intro x cs ts _ H; exact H
 | sl e k ih=>
  intro x cs ts hts H
  obtain ⟨a,n,c,e1,e2,e3,H⟩:=H
  refine ⟨a,n,c,e1,e2,e3,fun hn=>?_⟩
  obtain ⟨b,o,ea,hb,ht,H⟩:=H hn
  refine ⟨b,o,ea,⟨hb,e,hts e (by simp [K.tys]),ht⟩,ht,fun i hi=>?_⟩
  obtain ⟨ds,h1,h2⟩:=H i hi
  exact ⟨ds,h1,ih ts (fun t h=>hts t (by simp [K.tys,h])) h2⟩
 | unit=>intro x cs ts _ H; exact H
 | pair a b iha ihb=>
  intro x cs ts hts H
  obtain ⟨c1,c2,e,h1,h2⟩:=H
  exact ⟨c1,c2,e,iha ts (fun t h=>hts t (by simp [K.tys,h])) h1,ihb ts (fun t h=>hts t (by simp [K.tys,h])) h2⟩
 | st f ih=>intro x cs ts hts H; exact ih (x:=x) ts hts H
 | gap n=>intro x cs ts _ H; exact H
theorem cZ {h:Heap} {own:List TypeId} {ok:Nat->Prop}:∀{k:K} {x:El k} {cs:List Value} {fo:List Nat},Ow h own ok k x cs fo->cs.length=k.size:=by
 intro k
 induction k with
 | int ik=>intro x cs fo H; exact mh H.2
 | bool=>intro x cs fo H; exact mh H.2
 | id e=>intro x cs fo H; exact mh H.2
 | str=>intro x cs fo H; exact mh H.2
 | sl e k ih=>
  intro x cs fo H
  unfold Ow at H
  split at H
  ·obtain ⟨a,n,c,rfl,_⟩:=H; rfl
  ·exact mh H.2
 | unit=>intro x cs fo H; rw [H.2]; rfl
 | pair a b iha ihb=>intro x cs fo H; obtain ⟨c1,c2,f1,f2,rfl,_,h1,h2⟩:=H; simp [K.size,iha h1,ihb h2]
 | st f ih=>intro x cs fo H; exact ih (x:=x) H
 | gap n=>intro x cs fo H; exact H.2
theorem rz {bC:List (List Nat)} {i:Nat} {b:Nat} (h:b∈bC.getD i []):b∈bC.flatten:=by
 rw [anr] at h
 cases hi:bC[i]? with
 | none=>rw [hi] at h; simp at h
 | some l=>rw [hi] at h; exact aoB.2 ⟨l,anV hi,by simpa using h⟩
theorem bE {h h':Heap} {own:List TypeId} {ok ok':Nat->Prop} (hh:∀b,ok b->h' b=h b) (hk:∀b,ok b->ok' b) :
  ∀{k:K} {x:El k} {cs:List Value} {fo:List Nat},(∀b∈fo,h' b=h b)->Ow h own ok k x cs fo->Ow h' own ok' k x cs fo:=by
 intro k
 induction k with
 | int ik=>intro x cs fo _ H; exact ⟨H.1,gH hh hk H.2⟩
 | bool=>intro x cs fo _ H; exact ⟨H.1,gH hh hk H.2⟩
 | id e=>intro x cs fo _ H; exact ⟨H.1,gH hh hk H.2⟩
 | str=>intro x cs fo _ H; exact ⟨H.1,gH hh hk H.2⟩
 | sl e k ih=>
  intro x cs fo hfo H
  unfold Ow at H ⊢
  split
  ·rename_i hm
   rw [aoi hm] at H
   obtain ⟨a,n,c,e1,e2,e3,H⟩:=H
   refine ⟨a,n,c,e1,e2,e3, ?_⟩
   rcases H with H | ⟨b,o,arr,lo,hi,ea,hb,hf,hs,bC,hl,hp,H⟩
   ·exact .inl H
   ·have hbb:h' b=h b:=hfo b (hp.mem_iff.2 (by simp))
    refine .inr ⟨b,o,arr,lo,hi,ea,hbb.trans hb,hf,hs,bC,hl,hp,fun i hi=>?_⟩
    obtain ⟨ds,h1,h2⟩:=H i hi
    exact ⟨ds,h1.congr hbb,ih (fun b' hb'=>hfo b' (hp.mem_iff.2 (by simp [rz hb']))) h2⟩
  ·rename_i hm
   rw [aok hm] at H
   exact ⟨H.1,gH hh hk H.2⟩
 | unit=>intro x cs fo _ H; exact H
 | pair a b iha ihb=>
  intro x cs fo hfo H
  obtain ⟨c1,c2,f1,f2,e,hp,h1,h2⟩:=H
  exact ⟨c1,c2,f1,f2,e,hp,iha (fun b hb=>hfo b (hp.mem_iff.2 (by simp [hb]))) h1,ihb (fun b hb=>hfo b (hp.mem_iff.2 (by simp [hb]))) h2⟩
 | st f ih=>intro x cs fo hfo H; exact ih (x:=x) hfo H
 | gap n=>intro x cs fo _ H; exact H
theorem rQ {h:Heap} {own:List TypeId} {ok:Nat->Prop}:∀{k:K} {x:El k} {cs:List Value} {fo:List Nat} (ts:List TypeId),(∀t∈aV own k,t∈ts)->Ow h own ok k x cs fo->Ow h own (fun b=>ok b/\∃t∈ts,vo h b t) k x cs fo:=by
 intro k
 induction k with
 | int ik=>intro x cs fo ts _ H; exact H
 | bool=>intro x cs fo ts _ H; exact H
 | id e=>intro x cs fo ts _ H; exact H
 | str=>intro x cs fo ts _ H; exact H
 | sl e k ih=>
  intro x cs fo ts hts H
  unfold Ow at H ⊢
  split
  ·rename_i hm
   rw [aoi hm] at H
   obtain ⟨a,n,c,e1,e2,e3,H⟩:=H
   refine ⟨a,n,c,e1,e2,e3, ?_⟩
   rcases H with H | ⟨b,o,arr,lo,hi,ea,hb,hf,hs,bC,hl,hp,H⟩
   ·exact .inl H
   ·refine .inr ⟨b,o,arr,lo,hi,ea,hb,hf,hs,bC,hl,hp,fun i hi=>?_⟩
    obtain ⟨ds,h1,h2⟩:=H i hi
    exact ⟨ds,h1,ih ts (fun t ht=>hts t (by simp [aV,hm,ht])) h2⟩
  ·rename_i hm
   rw [aok hm] at H
   exact ⟨H.1,E8 ts (fun t ht=>hts t (by simpa [aV,hm,K.tys] using ht)) H.2⟩
 | unit=>intro x cs fo ts _ H; exact H
 | pair a b iha ihb=>
  intro x cs fo ts hts H
  obtain ⟨c1,c2,f1,f2,e,hp,h1,h2⟩:=H
  exact ⟨c1,c2,f1,f2,e,hp,iha ts (fun t h=>hts t (by simp [aV,h])) h1,ihb ts (fun t h=>hts t (by simp [aV,h])) h2⟩
 | st f ih=>intro x cs fo ts hts H; exact ih (x:=x) ts hts H
 | gap n=>intro x cs fo ts _ H; exact H
theorem lU {h:Heap} {own:List TypeId} {ok:Nat->Prop} (ok':Nat->Prop) (hk:∀b,ok b->ok' b) :
  ∀{k:K} {x:El k} {cs:List Value} {fo:List Nat},(∀b∈fo,ok' b)->Ow h own ok k x cs fo->Vw h ok' k x cs:=by
 intro k
 induction k with
 | int ik=>intro x cs fo _ H; exact gH (fun _ _=>rfl) hk H.2
 | bool=>intro x cs fo _ H; exact gH (fun _ _=>rfl) hk H.2
 | id e=>intro x cs fo _ H; exact gH (fun _ _=>rfl) hk H.2
 | str=>intro x cs fo _ H; exact gH (fun _ _=>rfl) hk H.2
 | sl e k ih=>
  intro x cs fo hfo H
  unfold Ow at H
  split at H
  ·obtain ⟨a,n,c,e1,e2,e3,H⟩:=H
   refine ⟨a,n,c,e1,e2,e3,fun hn=>?_⟩
   rcases H with H | ⟨b,o,arr,lo,hi,ea,hb,hf,hs,bC,hl,hp,H⟩
   ·omega
   ·refine ⟨b,o,ea,hfo b (hp.mem_iff.2 (by simp)),by refine .inl ?_; unfold qm; rw [hb],fun i hi=>?_⟩
    obtain ⟨ds,h1,h2⟩:=H i hi
    exact ⟨ds,h1,ih (fun b' hb'=>hfo b' (hp.mem_iff.2 (by simp [rz hb']))) h2⟩
  ·exact gH (fun _ _=>rfl) hk H.2
 | unit=>intro x cs fo _ H; exact H.2
 | pair a b iha ihb=>
  intro x cs fo hfo H
  obtain ⟨c1,c2,f1,f2,e,hp,h1,h2⟩:=H
  exact ⟨c1,c2,e,iha (fun b hb=>hfo b (hp.mem_iff.2 (by simp [hb]))) h1,ihb (fun b hb=>hfo b (hp.mem_iff.2 (by simp [hb]))) h2⟩
 | st f ih=>intro x cs fo hfo H; exact ih (x:=x) hfo H
 | gap n=>intro x cs fo _ H; exact H.2
theorem uK {h:Heap} {own own':List TypeId} {ok:Nat->Prop} :
  ∀{k:K} {x:El k} {cs:List Value} {fo:List Nat},(∀t∈k.tys,az t own'=true->az t own=true)->Ow h own ok k x cs fo->
   ∃dO fd,fo.Perm (dO++fd)/\Ow h own' (fun b=>ok b\/b∈fd) k x cs dO:=by
 intro k
 induction k with
 | int ik=>intro x cs fo _ H; exact ⟨[],[],by rw [H.1]; exact .refl _,rfl,gH (fun _ _=>rfl) (fun _ h=>.inl h) H.2⟩
 | bool=>intro x cs fo _ H; exact ⟨[],[],by rw [H.1]; exact .refl _,rfl,gH (fun _ _=>rfl) (fun _ h=>.inl h) H.2⟩
 | id e=>intro x cs fo _ H; exact ⟨[],[],by rw [H.1]; exact .refl _,rfl,gH (fun _ _=>rfl) (fun _ h=>.inl h) H.2⟩
 | str=>intro x cs fo _ H; exact ⟨[],[],by rw [H.1]; exact .refl _,rfl,gH (fun _ _=>rfl) (fun _ h=>.inl h) H.2⟩
 | sl e k ih=>
  intro x cs fo ht H
  by_cases hm':az e own'=true
  ·have hm:=ht e (by simp [K.tys]) hm'
   unfold Ow at H
   rw [aoi hm] at H
   obtain ⟨a,n,c,e1,e2,e3,H⟩:=H
   rcases H with ⟨h0,h1⟩ | ⟨b,o,arr,lo,hi,ea,hb,hf,hs,bC,hl,hp,H⟩
   ·refine ⟨[],[],by rw [h1]; exact .refl _, ?_⟩
    unfold Ow
    rw [aoi hm']
    exact ⟨a,n,c,e1,e2,e3, .inl ⟨h0,rfl⟩⟩
   ·
    have step:∀i:Nat,∃p:List Nat×List Nat,(hi:i<(show List (El k) from x).length)->((bC.getD i []).Perm (p.1++p.2)/\∃ds,Cells h b (o+i * k.size) ds/\Ow h own' (fun b=>ok b\/b∈p.2) k ((show List (El k) from x)[i]) ds p.1):=by
     intro i
     by_cases hi:i<(show List (El k) from x).length
     ·obtain ⟨ds,h1,h2⟩:=H i hi
      obtain ⟨dO,fd,hp',h3⟩:=ih (fun t ht'=>ht t (by simp [K.tys,ht'])) h2
      exact ⟨(dO,fd),fun _=>⟨hp',ds,h1,h3⟩⟩
     ·exact ⟨([],[]),fun h=>absurd h hi⟩
    have ⟨q,hq⟩:∃q:Nat->List Nat×List Nat,∀i,(hi:i<(show List (El k) from x).length)->((bC.getD i []).Perm ((q i).1++(q i).2)/\∃ds,Cells h b (o+i * k.size) ds/\Ow h own' (fun b=>ok b\/b∈(q i).2) k ((show List (El k) from x)[i]) ds (q i).1):=
     ⟨fun i=>Classical.choose (step i),fun i=>Classical.choose_spec (step i)⟩
    let N:=(show List (El k) from x).length
    refine ⟨b :: (List.range N).flatMap (fun i=>(q i).1),(List.range N).flatMap (fun i=>(q i).2), ?_, ?_⟩
    ·refine hp.trans ?_
     rw [anW]
     refine .cons b ?_
     have afi:bC.flatten=(List.range N).flatMap (fun i=>bC.getD i []):=by
      rw [List.flatMap_def]
      congr 1
      apply aoC
      ·simp [N,hl]
      ·intro i h1 h2
       simp [anr,ant h1]
     rw [afi]
     have gen:∀l:List Nat,(∀i∈l,i<N)->(l.flatMap (fun i=>bC.getD i [])).Perm (l.flatMap (fun i=>(q i).1)++l.flatMap (fun i=>(q i).2)):=by
      intro l
      induction l with
      | nil=>intro _; exact .refl _
      | cons i l ihl=>
       intro hl'
       simp only [anT]
       have h1:=(hq i (hl' i (by simp))).1
       have h2:=ihl (fun j hj=>hl' j (by simp [hj]))
       refine (h1.append h2).trans ?_
       simp only [anB]
       refine aoD _ ?_
       rw [<-anB, <-anB]
       exact aoE _ aoF
     exact gen _ (fun i hi=>List.mem_range.1 hi)
    ·unfold Ow
     rw [aoi hm']
     refine ⟨a,n,c,e1,e2,e3, .inr ⟨b,o,arr,lo,hi,ea,hb,hf,hs,(List.range N).map (fun i=>(q i).1),by simp [N],by rw [List.flatMap_def],fun i hi=>?_⟩⟩
     obtain ⟨ds,h1,h2⟩:=(hq i hi).2
     refine ⟨ds,h1, ?_⟩
     have:(List.map (fun i=>(q i).1) (List.range N)).getD i []=(q i).1:=by
      rw [anr,aoG,aoH hi]; rfl
     rw [this]
     exact bE (fun _ _=>rfl) (fun b' hb'=>hb'.imp id (fun h=>anR.2 ⟨i,List.mem_range.2 hi,h⟩)) (fun _ _=>rfl) h2
  ·refine ⟨[],fo,by simp, ?_⟩
   unfold Ow
   rw [aok hm']
   exact ⟨rfl,lU _ (fun _ h=>.inl h) (fun _ h=>.inr h) H⟩
 | unit=>intro x cs fo _ H; exact ⟨[],[],by rw [H.1]; exact .refl _,rfl,H.2⟩
 | pair a b iha ihb=>
  intro x cs fo ht H
  obtain ⟨c1,c2,f1,f2,e,hp,h1,h2⟩:=H
  obtain ⟨g1,d1,p1,r1⟩:=iha (fun t h=>ht t (by simp [K.tys,h])) h1
  obtain ⟨g2,d2,p2,r2⟩:=ihb (fun t h=>ht t (by simp [K.tys,h])) h2
  refine ⟨g1++g2,d1++d2,(hp.trans (p1.append p2)).trans ?_,c1,c2,g1,g2,e, .refl _, ?_, ?_⟩
  ·simp only [anB]
   refine aoD _ ?_
   rw [<-anB, <-anB]
   exact aoE _ aoF
  ·exact bE (fun _ _=>rfl) (fun b' hb'=>hb'.imp id (fun h=>by simp [h])) (fun _ _=>rfl) r1
  ·exact bE (fun _ _=>rfl) (fun b' hb'=>hb'.imp id (fun h=>by simp [h])) (fun _ _=>rfl) r2
 | st f ih=>intro x cs fo ht H; exact ih (x:=x) ht H
 | gap n=>intro x cs fo _ H; exact ⟨[],[],by rw [H.1]; exact .refl _,rfl,H.2⟩
theorem qY {h:Heap} {own own':List TypeId} {ok:Nat->Prop} :
  ∀{k:K} {x:El k} {cs:List Value} {fo:List Nat},(∀t∈k.tys,az t own'=az t own)->Ow h own ok k x cs fo->Ow h own' ok k x cs fo:=by
 intro k
 induction k with
 | int ik=>intro x cs fo _ H; exact H
 | bool=>intro x cs fo _ H; exact H
 | id e=>intro x cs fo _ H; exact H
 | str=>intro x cs fo _ H; exact H
 | sl e k ih=>
  intro x cs fo ht H
  unfold Ow at H ⊢
  rw [ht e (by simp [K.tys])]
  split
  ·rename_i hm
   rw [aoi hm] at H
   obtain ⟨a,n,c,e1,e2,e3,H⟩:=H
   refine ⟨a,n,c,e1,e2,e3, ?_⟩
   rcases H with H | ⟨b,o,arr,lo,hi,ea,hb,hf,hs,bC,hl,hp,H⟩
   ·exact .inl H
   ·refine .inr ⟨b,o,arr,lo,hi,ea,hb,hf,hs,bC,hl,hp,fun i hi=>?_⟩
    obtain ⟨ds,h1,h2⟩:=H i hi
    exact ⟨ds,h1,ih (fun t ht'=>ht t (by simp [K.tys,ht'])) h2⟩
  ·rename_i hm
   rw [aok hm] at H
   exact H
 | unit=>intro x cs fo _ H; exact H
 | pair a b iha ihb=>
  intro x cs fo ht H
  obtain ⟨c1,c2,f1,f2,e,hp,h1,h2⟩:=H
  exact ⟨c1,c2,f1,f2,e,hp,iha (fun t h=>ht t (by simp [K.tys,h])) h1,ihb (fun t h=>ht t (by simp [K.tys,h])) h2⟩
 | st f ih=>intro x cs fo ht H; exact ih (x:=x) ht H
 | gap n=>intro x cs fo _ H; exact H
theorem qi {h:Heap} {own:List TypeId} {ok:Nat->Prop}:∀{k:K} {x:El k} {cs:List Value},(∀t∈k.tys,az t own=false)->Vw h ok k x cs->Ow h own ok k x cs []:=by
 intro k
 induction k with
 | int ik=>intro x cs _ H; exact ⟨rfl,H⟩
 | bool=>intro x cs _ H; exact ⟨rfl,H⟩
 | id e=>intro x cs _ H; exact ⟨rfl,H⟩
 | str=>intro x cs _ H; exact ⟨rfl,H⟩
 | sl e k ih=>
  intro x cs ht H
  unfold Ow
  rw [aok (by rw [ht e (by simp [K.tys])]; simp)]
  exact ⟨rfl,H⟩
 | unit=>intro x cs _ H; exact ⟨rfl,H⟩
 | pair a b iha ihb=>
  intro x cs ht H
  obtain ⟨c1,c2,e,h1,h2⟩:=H
  exact ⟨c1,c2,[],[],e, .refl _,iha (fun t h=>ht t (by simp [K.tys,h])) h1,ihb (fun t h=>ht t (by simp [K.tys,h])) h2⟩
 | st f ih=>intro x cs ht H; exact ih (x:=x) ht H
 | gap n=>intro x cs _ H; exact ⟨rfl,H⟩
end
section
open Go
variable [Fr]
def bG:Nat->K->Option (Nat×K)
 | 0, .pair a _=>some (0,a)
 | n+1, .pair a b=>match bG n b with
  | some (o,k)=>some (a.size+o,k)
  | none=>none
 | _,_=>none
def nL (h:Heap) (b o n:Nat):List Value:=(List.range n).map fun j=>(cellAt h b (o+j)).getD undef
theorem iR {h:Heap} {b o:Nat} {cs:List Value} (H:Cells h b o cs):nL h b o cs.length=cs:=by
 unfold nL
 apply aoC
 ·simp
 ·intro i h1 h2
  simp [H i h2,ant h2]
def bH (h:Heap):List Stp->(k:K)->List Value->Option (Nat×Nat)->Option (List Value×Option (Nat×Nat))
 | [],_,cs,wh=>some (cs,wh)
 | .gu n :: p, .st c,cs,wh=>match bG n c with
  | some (off,k')=>bH h p k' ((cs.drop off).take k'.size) (wh.map fun q=>(q.1,q.2+off))
  | none=>none
 | .idx i :: p, .sl _ k,cs,_=>match cs with
  | [.slice (some a) _ _]=>bH h p k (nL h a.block (a.off+i.toNat * k.size) k.size) (some (a.block,a.off+i.toNat * k.size))
  | _=>none
 | _,_,_,_=>none
def mG:List Stp->(k:K)->El k->Prop
 | [],_,_=>True
 | .gu n :: p, .st c,x=>match aP n c x with
  | some d=>mG p d.1 d.2
  | none=>False
 | .idx i :: p, .sl _ k,xs=>0<=i/\i<((show List (El k) from xs).length:Int)/\mG p k ((show List (El k) from xs).getD i.toNat k.zero)
 | _,_,_=>False
def iE (h h':Heap) (b o n:Nat):Prop:=
 ∃arr kJ e fr,h b=some (.cells arr e fr)/\h' b=some (.cells kJ e fr)/\kJ.size=arr.size/\∀i,¬(o<=i/\i<o+n)->kJ[i]?=arr[i]?
theorem iE.of_same {h h':Heap} {b:Nat} (o n:Nat) {arr:Array Value} {e:TypeId} {fr:Nat×Nat} (e1:h b=some (.cells arr e fr)) (e2:h' b=h b):iE h h' b o n:=
 ⟨arr,arr,e,fr,e1,e2.trans e1,rfl,fun _ _=>rfl⟩
theorem iE.cells {h h':Heap} {b o n o':Nat} {cs:List Value} (H:iE h h' b o n) (hc:Cells h b o' cs) (hd:o'+cs.length<=o\/o+n<=o'):Cells h' b o' cs:=by
 obtain ⟨arr,kJ,e,fr,h1,h2,_,h3⟩:=H
 intro i hi
 have:=hc i hi
 unfold cellAt at this ⊢
 rw [h1] at this
 rw [h2]
 simp only at this ⊢
 rw [h3 _ (by omega)]
 exact this
theorem iE.cellAt {h h':Heap} {b o n:Nat} (H:iE h h' b o n) {i:Nat} (hi:¬(o<=i/\i<o+n)):cellAt h' b i=cellAt h b i:=by
 obtain ⟨arr,kJ,e,fr,h1,h2,_,h3⟩:=H
 unfold Ow.cellAt
 rw [h1,h2]
 exact h3 i hi
theorem Cells.append {h:Heap} {b o:Nat} {c1 c2:List Value}:Cells h b o (c1++c2)↔Cells h b o c1/\Cells h b (o+c1.length) c2:=by
 constructor
 ·intro H
  refine ⟨fun i hi=>?_,fun i hi=>?_⟩
  ·rw [H i (by simp; omega),aoI hi]
  ·have:=H (c1.length+i) (by simp; omega)
   rw [aoJ (by omega)] at this
   rw [aoK,this]
   congr 1
   omega
 ·rintro ⟨H1,H2⟩ i hi
  by_cases h1:i<c1.length
  ·rw [H1 i h1,aoI h1]
  ·have:=H2 (i - c1.length) (by simp at hi; omega)
   rw [aoJ (by omega), <-this]
   congr 1
   omega
theorem xA {a b c:List Nat}:(a++(b++c)).Perm (b++(a++c)):=by
 rw [<-anB, <-anB]
 exact aoE _ aoF
theorem xk:∀(n:Nat) {c:K} {x:El c} {t z:Dat},dm n c x t=some z->aP n z.1 z.2=some t:=by
 intro n
 induction n with
 | zero=>
  intro c x t z h
  cases c with
  | pair a b=>simp only [dm,ane] at h; subst h; rfl
  | _=>simp [dm] at h
 | succ n ih=>
  intro c x t z h
  cases c with
  | pair a b=>
   simp only [dm] at h
   cases h2:dm n b x.2 t with
   | none=>rw [h2] at h; simp at h
   | some y=>rw [h2] at h; simp only [ane] at h; subst h; exact ih h2
  | _=>simp [dm] at h
theorem FJ:∀(n:Nat) {c:K} {x:El c} {s t z:Dat},aP n c x=some s->dm n c x t=some z->t.1=s.1->z.1=c:=by
 intro n
 induction n with
 | zero=>
  intro c x s t z hg h e
  cases c with
  | pair a b=>
   simp only [aP,ane] at hg
   simp only [dm,ane] at h
   subst hg; subst h
   simp only at e
   simp [e]
  | _=>simp [dm] at h
 | succ n ih=>
  intro c x s t z hg h e
  cases c with
  | pair a b=>
   simp only [aP] at hg
   simp only [dm] at h
   cases h2:dm n b x.2 t with
   | none=>rw [h2] at h; simp at h
   | some y=>rw [h2] at h; simp only [ane] at h; subst h; simp [ih hg h2 e]
  | _=>simp [dm] at h
theorem xV:∀(n:Nat) {c:K} {x:El c} {t z:Dat} {off:Nat} {k':K},bG n c=some (off,k')->dm n c x t=some z->bG n z.1=some (off,t.1):=by
 intro n
 induction n with
 | zero=>
  intro c x t z off k' ho h
  cases c with
  | pair a b=>
   simp only [dm,ane] at h
   subst h
   simp only [bG,ane,anp] at ho ⊢
   exact ⟨ho.1,trivial⟩
  | _=>simp [dm] at h
 | succ n ih=>
  intro c x t z off k' ho h
  cases c with
  | pair a b=>
   simp only [dm] at h
   cases h2:dm n b x.2 t with
   | none=>rw [h2] at h; simp at h
   | some y=>
    rw [h2] at h
    simp only [ane] at h
    subst h
    simp only [bG] at ho ⊢
    cases h3:bG n b with
    | none=>rw [h3] at ho; simp at ho
    | some q=>
     rw [h3] at ho
     simp only [an1,ane,anp] at ho
     rw [ih (k':=q.2) (off:=q.1) (by rw [h3]) h2]
     simp [<-ho.1]
  | _=>simp [dm] at h
theorem EJ {h:Heap} {own:List TypeId} {ok:Nat->Prop}:∀(n:Nat) {c:K} {x:El c} {cs:List Value} {fo:List Nat} {d:Dat},
  Ow h own ok c x cs fo->aP n c x=some d->
   ∃off pre cs1 post fT fr,bG n c=some (off,d.1)/\cs=pre++(cs1++post)/\pre.length=off/\fo.Perm (fT++fr)/\Ow h own ok d.1 d.2 cs1 fT/\
    (∀(h':Heap) (ok':Nat->Prop) (t:Dat) (pz:List Value) (uN:List Nat) (z:Dat),dm n c x t=some z->Ow h' own ok' t.1 t.2 pz uN->
     (∀b,ok b->ok' b/\h' b=h b)->(∀b∈fr,h' b=h b)->Ow h' own ok' z.1 z.2 (pre++(pz++post)) (uN++fr))/\
    ∀m s2,m≠n->aP m c x=some s2->∃off2 cs2 Zd,bG m c=some (off2,s2.1)/\(cs.drop off2).take s2.1.size=cs2/\Ow h own ok s2.1 s2.2 cs2 Zd/\(∀b∈Zd,b∈fr)/\
     (∀pz:List Value,pz.length=d.1.size->((pre++(pz++post)).drop off2).take s2.1.size=cs2)/\∀t z,dm n c x t=some z->aP m z.1 z.2=some s2:=by
 intro n
 induction n with
 | zero=>
  intro c x cs fo d H hg
  cases c with
  | pair a b=>
   simp only [aP,ane] at hg
   subst hg
   obtain ⟨c1,c2,f1,f2,e,hp,h1,h2⟩:=H
   refine ⟨0,[],c1,c2,f1,f2,rfl,by simpa using e,rfl,hp,h1, ?_, ?_⟩
   ·intro h' ok' t pz uN z hz ht hok hfr
    simp only [dm,ane] at hz
    subst hz
    exact ⟨pz,c2,uN,f2,by simp, .refl _,ht,bE (fun b hb=>(hok b hb).2) (fun b hb=>(hok b hb).1) hfr h2⟩
   ·intro m s2 hm hg2
    cases m with
    | zero=>exact absurd rfl hm
    | succ m=>
     simp only [aP] at hg2
     have key:∀(m:Nat) {c:K} {x:El c} {cs:List Value} {fo:List Nat} {d:Dat},Ow h own ok c x cs fo->aP m c x=some d->
       ∃off cs1 fT,bG m c=some (off,d.1)/\(cs.drop off).take d.1.size=cs1/\(∀b∈fT,b∈fo)/\Ow h own ok d.1 d.2 cs1 fT:=by
      intro m
      induction m with
      | zero=>
       intro c x cs fo d H hg
       cases c with
       | pair a b=>
        simp only [aP,ane] at hg
        subst hg
        obtain ⟨c1,c2,f1,f2,rfl,hp,h1,h2⟩:=H
        exact ⟨0,c1,f1,rfl,by simp [<-cZ h1],fun b hb=>hp.mem_iff.2 (by simp [hb]),h1⟩
       | _=>simp [aP] at hg
      | succ m ih=>
       intro c x cs fo d H hg
       cases c with
       | pair a b=>
        simp only [aP] at hg
        obtain ⟨c1,c2,f1,f2,rfl,hp,h1,h2⟩:=H
        obtain ⟨off,cs1,fT,g1,g2,g3,g4⟩:=ih h2 hg
        refine ⟨a.size+off,cs1,fT,by simp [bG,g1], ?_,fun b hb=>hp.mem_iff.2 (by simp [g3 b hb]),g4⟩
        rw [<-g2, <-cZ h1, <-aoL]
        simp
       | _=>simp [aP] at hg
     obtain ⟨off2,cs2,Zd,g1,g2,g3,g4⟩:=key m h2 hg2
     refine ⟨a.size+off2,cs2,Zd,by simp [bG,g1], ?_,g4,g3, ?_, ?_⟩
     ·rw [e, <-g2, <-cZ h1, <-aoL]; simp
     ·intro pz hl
      simp only at hl
      rw [<-g2, <-hl, <-aoL]; simp
     ·intro t z hz
      simp only [dm,ane] at hz
      subst hz
      exact hg2
  | _=>simp [aP] at hg
 | succ n ih=>
  intro c x cs fo d H hg
  cases c with
  | pair a b=>
   simp only [aP] at hg
   obtain ⟨c1,c2,f1,f2,e,hp,h1,h2⟩:=H
   obtain ⟨off,pre,cs1,post,fT,fr,ho,ec,hl,hp',hd,hu,hoth⟩:=ih h2 hg
   refine ⟨a.size+off,c1++pre,cs1,post,fT,f1++fr, ?_,by rw [e,ec]; simp,by simp [cZ h1,hl], ?_,hd, ?_, ?_⟩
   ·simp [bG,ho]
   ·exact (hp.trans (aoD _ hp')).trans xA
   ·intro h' ok' t pz uN z hz ht hok hfr
    simp only [dm] at hz
    cases hz2:dm n b x.2 t with
    | none=>rw [hz2] at hz; simp at hz
    | some z2=>
     rw [hz2] at hz
     simp only [ane] at hz
     subst hz
     have r2:=hu h' ok' t pz uN z2 hz2 ht hok (fun b hb=>hfr b (by simp [hb]))
     exact ⟨c1,pre++(pz++post),f1,uN++fr,by simp,xA,bE (fun b hb=>(hok b hb).2) (fun b hb=>(hok b hb).1) (fun b hb=>hfr b (by simp [hb])) h1,r2⟩
   ·intro m s2 hm hg2
    cases m with
    | zero=>
     simp only [aP,ane] at hg2
     subst hg2
     refine ⟨0,c1,f1,rfl,by rw [e, <-cZ h1]; simp,h1,fun b hb=>by simp [hb],fun pz _=>by rw [<-cZ h1]; simp, ?_⟩
     intro t z hz
     simp only [dm] at hz
     cases hz2:dm n b x.2 t with
     | none=>rw [hz2] at hz; simp at hz
     | some z2=>rw [hz2] at hz; simp only [ane] at hz; subst hz; rfl
    | succ m=>
     simp only [aP] at hg2
     obtain ⟨off2,cs2,Zd,g1,g2,g3,g4,g5,g6⟩:=hoth m s2 (by omega) hg2
     refine ⟨a.size+off2,cs2,Zd,by simp [bG,g1], ?_,g3,fun b hb=>by simp [g4 b hb], ?_, ?_⟩
     ·rw [e, <-g2, <-cZ h1, <-aoL]; simp
     ·intro pz hl'
      rw [<-g5 pz hl', <-cZ h1, <-aoL]; simp
     ·intro t z hz
      simp only [dm] at hz
      cases hz2:dm n b x.2 t with
      | none=>rw [hz2] at hz; simp at hz
      | some z2=>rw [hz2] at hz; simp only [ane] at hz; subst hz; exact g6 t z2 hz2
  | _=>simp [aP] at hg
theorem NZ:∀(n:Nat) {c:K} {x:El c} {s u y:Dat},aP n c x=some s->dm n c x u=some y->u.1.size=s.1.size->y.1.size=c.size:=by
 intro n
 induction n with
 | zero=>
  intro c x s u y h1 h2 e
  cases c with
  | pair a b=>simp only [aP,dm,ane] at h1 h2; subst h1; subst h2; simp only at e; simp [K.size,e]
  | _=>simp [aP] at h1
 | succ n ih=>
  intro c x s u y h1 h2 e
  cases c with
  | pair a b=>
   simp only [aP,dm] at h1 h2
   cases h3:dm n b x.2 u with
   | none=>rw [h3] at h2; simp at h2
   | some y2=>rw [h3] at h2; simp only [ane] at h2; subst h2; simp [K.size,ih h1 h3 e]
  | _=>simp [aP] at h1
theorem Bw:∀(n m:Nat) {c:K} {x:El c} {s u y:Dat} {off2:Nat} {k2:K},m≠n->aP n c x=some s->dm n c x u=some y->u.1.size=s.1.size->bG m c=some (off2,k2)->bG m y.1=some (off2,k2):=by
 intro n
 induction n with
 | zero=>
  intro m c x s u y off2 k2 hm h1 h2 e h3
  cases c with
  | pair a b=>
   simp only [aP,dm,ane] at h1 h2
   subst h1; subst h2
   cases m with
   | zero=>exact absurd rfl hm
   | succ m=>simp only [bG] at h3 ⊢; simp only at e; rw [e]; exact h3
  | _=>simp [aP] at h1
 | succ n ih=>
  intro m c x s u y off2 k2 hm h1 h2 e h3
  cases c with
  | pair a b=>
   simp only [aP,dm] at h1 h2
   cases h4:dm n b x.2 u with
   | none=>rw [h4] at h2; simp at h2
   | some y2=>
    rw [h4] at h2
    simp only [ane] at h2
    subst h2
    cases m with
    | zero=>simp only [bG] at h3 ⊢; exact h3
    | succ m=>
     simp only [bG] at h3 ⊢
     cases h5:bG m b with
     | none=>rw [h5] at h3; simp at h3
     | some q=>
      rw [h5] at h3
      rw [ih m (off2:=q.1) (k2:=q.2) (by omega) h1 h4 e (by rw [h5])]
      exact h3
  | _=>simp [aP] at h1
theorem pX {pre cs1 post:List Value} {off n:Nat} (h1:pre.length=off) (h2:cs1.length=n):((pre++(cs1++post)).drop off).take n=cs1:=by
 subst h1; subst h2; simp
theorem dh {A:Type} {l:List A} {d:A} {i:Nat} (h:i<l.length):l.getD i d=l[i]:=by
 rw [anr,ant h]; rfl
theorem Jk {bC:List (List Nat)} {i:Nat} (h:i<bC.length):bC.flatten.Perm (bC.getD i []++((bC.take i).flatten++(bC.drop (i+1)).flatten)):=by
 have e:bC=bC.take i++(bC.getD i [] :: bC.drop (i+1)):=by
  rw [dh h, <-aoM h,aoN]
 have:bC.flatten=(bC.take i).flatten++(bC.getD i []++(bC.drop (i+1)).flatten):=by
  rw [congrArg List.flatten e]; simp
 rw [this]
 exact xA
theorem We {bC:List (List Nat)} {i:Nat} (h:i<bC.length) (q:List Nat):(bC.set i q).flatten.Perm (q++((bC.take i).flatten++(bC.drop (i+1)).flatten)):=by
 have h':i<(bC.set i q).length:=by simpa using h
 have:=Jk h'
 rw [dh h',List.getElem_set_self] at this
 simpa [List.take_set_of_le,List.drop_set_of_lt] using this
theorem cB:∀(n:Nat) {c:K} {x:El c} {s:Dat},aP n c x=some s->ah.Eo n c=some s.1:=by
 intro n
 induction n with
 | zero=>
  intro c x s e
  cases c with
  | pair a b=>simp only [aP,ane] at e; subst e; rfl
  | _=>simp [aP] at e
 | succ n ih=>
  intro c x s e
  cases c with
  | pair a b=>simp only [aP] at e; exact ih e
  | _=>simp [aP] at e
theorem Gy {h h':Heap} {own:List TypeId} {ok:Nat->Prop}:∀(p:List Stp) {k:K} {x:El k} {cs:List Value} {fo:List Nat} {wh:Option (Nat×Nat)},
  Ow h own ok k x cs fo->mG p k x->(∀t∈ah p k,az t own=true)->(∀b∈fo,h' b=h b)->bH h' p k cs wh=bH h p k cs wh:=by
 intro p
 induction p with
 | nil=>intro k x cs fo wh _ _ _ _; rfl
 | cons s p ih=>
  intro k x cs fo wh H hin Kq hfo
  cases s with
  | gu n=>
   cases k with
   | st c=>
    simp only [mG] at hin
    cases hcg:aP n c x with
    | none=>rw [hcg] at hin; exact hin.elim
    | some s=>
     rw [hcg] at hin
     obtain ⟨off,pre,cs0,post,wQ,fr,ho,ec,hl,hp,hd,_⟩:=EJ n (show Ow h own ok c x cs fo from H) hcg
     have hpt:ah (.gu n :: p) (.st c)=ah p s.1:=by simp [ah,cB n hcg]
     rw [hpt] at Kq
     simp only [bH]
     rw [ho]
     simp only
     rw [ec,pX hl (cZ hd)]
     exact ih hd hin Kq (fun b hb=>hfo b (hp.mem_iff.2 (anj _ hb)))
   | _=>simp [mG] at hin
  | idx i=>
   cases k with
   | sl e k=>
    simp only [mG] at hin
    obtain ⟨hi0,hi1,hin⟩:=hin
    have ajN:i<((@List.length (El k) x:Nat):Int):=hi1
    have hlt:i.toNat < @List.length (El k) x:=by omega
    have eg:(show List (El k) from x).getD i.toNat k.zero=(show List (El k) from x)[i.toNat]'hlt:=dh hlt
    rw [eg] at hin
    unfold Ow at H
    rw [aoi (Kq e (by simp [ah]))] at H
    obtain ⟨a,n,c,e1,e2,e3,H⟩:=H
    have e2':n=@List.length (El k) x:=e2
    rcases H with ⟨h0,_⟩ | ⟨b,o,arr,lo,hi,ea,hb,hf,hs,bC,hfl,hp,H⟩
    ·omega
    ·obtain ⟨ds,hcd,hod⟩:=H i.toNat hlt
     have hbb:h' b=h b:=hfo b (hp.mem_iff.2 (by simp))
     have r1:=iR hcd
     have r2:=iR (hcd.congr hbb)
     rw [cZ hod] at r1 r2
     subst e1
     subst ea
     simp only [bH]
     rw [r1,r2]
     exact ih hod hin (fun t ht=>Kq t (by simp [ah,ht])) (fun b' hb'=>hfo b' (hp.mem_iff.2 (by simp [rz hb'])))
   | _=>simp [mG] at hin
def EG (h h':Heap) (own:List TypeId) (k:K) (x:El k) (cs:List Value) (wh:Option (Nat×Nat)) (z:Dat) (cs':List Value) (bad:List TypeId):Prop:=
 ∀q c0 w0,mG q k x->(∀t∈ah q k,az t own=true/\t∉bad)->bH h q k cs wh=some (c0,w0)->(aR q z.1 z.2).isSome=true->mG q z.1 z.2/\∃c1,bH h' q z.1 cs' wh=some (c1,w0)
structure Upd (h:Heap) (own:List TypeId) (ok:Nat->Prop) (p:List Stp) (k:K) (x:El k) (cs:List Value) (wh:Option (Nat×Nat)) (d:Dat) (rest:List Nat) (cs1:List Value) (nG:Option (Nat×Nat)):Prop where
 go:∀(h':Heap) (ok':Nat->Prop) (t:Dat) (pz:List Value) (uN:List Nat) (z:Dat),eF p k x t=some z->pz.length=d.1.size->Ow h' own ok' t.1 t.2 pz uN->
  (∀b,ok b->ok' b/\h' b=h b)->(∀b∈rest,nG.map (·.1)≠some b->h' b=h b)->
  (∀b o,nG=some (b,o)->Cells h' b o pz/\iE h h' b o d.1.size)->
  (nG=none->pz=cs1)->(∀b o,wh=some (b,o)->nG.map (·.1)≠some b->h' b=h b)->
  ∃cs',cs'.length=cs.length/\Ow h' own ok' z.1 z.2 cs' (uN++rest)/\(∀b o,wh=some (b,o)->Cells h' b o cs')/\(wh=none->cs'=cs)/\
   ∀bad,t.1.size=d.1.size->EG h h' own d.1 d.2 cs1 nG t pz bad->(t.1=d.1->z.1=k)/\z.1.size=k.size/\EG h h' own k x cs wh z cs' bad/\bH h' p z.1 cs' wh=some (pz,nG)
def Foc (h:Heap) (own:List TypeId) (ok:Nat->Prop) (p:List Stp) (k:K) (x:El k) (cs:List Value) (fo:List Nat) (wh:Option (Nat×Nat)) (d:Dat):Prop:=
 ∃cs1 fT rest nG,bH h p k cs wh=some (cs1,nG)/\fo.Perm (fT++rest)/\Ow h own ok d.1 d.2 cs1 fT/\(∀b o,nG=some (b,o)->Cells h b o cs1)/\
  (∀b o,nG=some (b,o)->(ah p k=[]/\∃o0,wh=some (b,o0)/\o0<=o/\o+d.1.size<=o0+k.size)\/
   (b∈rest/\∃arr e lo hi,h b=some (.cells arr e (lo,hi))/\zY arr.size lo hi/\(ah p k).getLast?=some e/\o+d.1.size<=arr.size))/\
  (nG=none->wh=none)/\Upd h own ok p k x cs wh d rest cs1 nG
theorem ry {wh:Option (Nat×Nat)} {off b o:Nat} (e:wh.map (fun q=>(q.1,q.2+off))=some (b,o)):∃o0,wh=some (b,o0)/\o=o0+off:=by
 cases wh with
 | none=>simp at e
 | some q=>
  simp only [an1,ane,anp] at e
  exact ⟨q.2,by rw [<-e.1],e.2.symm⟩
theorem XN {h:Heap} {own:List TypeId} {ok:Nat->Prop} {p:List Stp} {n:Nat} {c:K} {x:El c} {cs:List Value} {fo:List Nat} {wh:Option (Nat×Nat)} {s d:Dat}
  (H:Ow h own ok c x cs fo) (hc:∀b o,wh=some (b,o)->Cells h b o cs) (hcg:aP n c x=some s) (hnd:fo.Nodup) (hbase:∀b o,wh=some (b,o)->b∉fo)
  (ih:∀{cs0:List Value} {wQ:List Nat} {WY:Option (Nat×Nat)},Ow h own ok s.1 s.2 cs0 wQ->(∀b o,WY=some (b,o)->Cells h b o cs0)->wQ.Nodup->(∀b o,WY=some (b,o)->b∉wQ)->Foc h own ok p s.1 s.2 cs0 wQ WY d) :
  Foc h own ok (.gu n :: p) (.st c) x cs fo wh d:=by
 obtain ⟨off,pre,cs0,post,wQ,fr,ho,ec,hl,hp,hd,hu,hoth⟩:=EJ n H hcg
 have hsz:=cZ hd
 have hpt:ah (.gu n :: p) (.st c)=ah p s.1:=by simp [ah,cB n hcg]
 have hnd':(wQ++fr).Nodup:=hp.nodup hnd
 have hsub:(cs.drop off).take s.1.size=cs0:=by rw [ec]; exact pX hl hsz
 have hlen:cs.length=c.size:=cZ H
 have akX:off+s.1.size+post.length=c.size:=by rw [<-hlen,ec]; simp [hl,hsz]; omega
 obtain ⟨cs1,fT,rest,nG,hn,hp1,hd1,hc1,hin1,hnone,hup⟩:=ih (WY:=wh.map fun q=>(q.1,q.2+off)) hd
  (fun b o e=>by
   obtain ⟨o0,e1,rfl⟩:=ry e
   have:=hc b o0 e1
   rw [ec,Cells.append,Cells.append] at this
   rw [<-hl]
   exact this.2.1) (anl.1 hnd').1
  (fun b o e hb=>by
   obtain ⟨o0,e1,rfl⟩:=ry e
   exact hbase b o0 e1 (hp.mem_iff.2 (anj _ hb)))
 have ajH:∀b o,nG=some (b,o)->b∉fr:=by
  intro b o e hb
  rcases hin1 b o e with ⟨_,o0,ew,_⟩ | ⟨h1,_⟩
  ·obtain ⟨o1,e1,_⟩:=ry ew
   exact hbase b o1 e1 (hp.mem_iff.2 (ang _ hb))
  ·exact (anl.1 hnd').2.2 b (hp1.mem_iff.2 (ang _ h1)) b hb rfl
 refine ⟨cs1,fT,rest++fr,nG, ?_, ?_,hd1,hc1, ?_, ?_,⟨?_⟩⟩
 ·simp only [bH]
  rw [ho]
  simp only
  rw [hsub]
  exact hn
 ·rw [<-anB]
  exact hp.trans (aoE _ hp1)
 ·intro b o e
  rw [hpt]
  rcases hin1 b o e with ⟨h0,o0,ew,h1,h2⟩ | ⟨h1,h2⟩
  ·obtain ⟨o1,e1,rfl⟩:=ry ew
   refine .inl ⟨h0,o1,e1,by omega, ?_⟩
   show o+d.1.size<=o1+c.size
   omega
  ·exact .inr ⟨anj _ h1,h2⟩
 ·intro e
  have:=hnone e
  cases wh with
  | none=>rfl
  | some q=>simp at this
 ·intro h' ok' t pz uN z hz hl' ht hok hrest hw hcs hb0
  simp only [eF,hcg] at hz
  cases hs:eF p s.1 s.2 t with
  | none=>rw [hs] at hz; simp at hz
  | some u=>
   rw [hs] at hz
   simp only at hz
   cases hcp:dm n c x u with
   | none=>rw [hcp] at hz; simp at hz
   | some y=>
    rw [hcp] at hz
    simp only [ane] at hz
    subst hz
    obtain ⟨XD,hl0,ho0,hc0,hn0,hnk⟩:=hup.go h' ok' t pz uN u hs hl' ht hok (fun b hb=>hrest b (anj _ hb)) hw hcs
     (fun b o e=>by
      obtain ⟨o0,e1,_⟩:=ry e
      exact hb0 b o0 e1)
    have hfr:∀b∈fr,h' b=h b:=by
     intro b hb
     refine hrest b (ang _ hb) ?_
     intro e
     cases yf:nG with
     | none=>rw [yf] at e; simp at e
     | some q=>
      rw [yf] at e
      simp only [an1,ane] at e
      exact ajH q.1 q.2 yf (e▸hb)
    have r:=hu h' ok' u XD (uN++rest) y hcp ho0 hok hfr
    refine ⟨pre++(XD++post),by rw [ec]; simp [hl0], ?_, ?_, ?_, ?_⟩
    ·have r':Ow h' own ok' y.1 y.2 (pre++(XD++post)) (uN++(rest++fr)):=by
      rw [show uN++(rest++fr)=uN++rest++fr from (anB ..).symm]; exact r
     exact r'
    ·intro b o e
     have hwc:=hc b o e
     rw [ec,Cells.append,Cells.append] at hwc
     have hc0':=hc0 b (o+off) (by rw [e]; rfl)
     rw [Cells.append,Cells.append,hl0,hsz,hl]
     have abm:=hwc.2.2
     rw [hsz,hl] at abm
     by_cases hbw:nG.map (·.1)=some b
     ·cases yf:nG with
      | none=>rw [yf] at hbw; simp at hbw
      | some q=>
       rw [yf] at hbw
       simp only [an1,ane] at hbw
       subst hbw
       have hsb:=(hw q.1 q.2 yf).2
       rcases hin1 q.1 q.2 yf with ⟨_,o0,ew,g1,g2⟩ | ⟨h1,_⟩
       ·rw [e] at ew
        simp only [an1,ane,anp,true_and] at ew
        exact ⟨hsb.cells hwc.1 (.inl (by omega)),hc0',hsb.cells abm (.inr (by omega))⟩
       ·exact absurd (hp.mem_iff.2 (anj _ (hp1.mem_iff.2 (ang _ h1)))) (hbase q.1 o e)
     ·have hbb:=hb0 b o e hbw
      exact ⟨hwc.1.congr hbb,hc0',abm.congr hbb⟩
    ·intro e
     have:=hn0 (by rw [e]; rfl)
     rw [this,ec]
    ·intro bad hkind yH
     obtain ⟨n1,n3,n2,n4⟩:=hnk bad hkind yH
     refine ⟨fun e=>congrArg K.st (FJ n hcg hcp (n1 e)),(show y.1.size=c.size from NZ n hcg hcp n3), ?_,by
      show bH h' (.gu n :: p) (.st y.1) _ _=_
      simp only [bH]
      rw [xV n ho hcp]
      simp only
      rw [pX hl (cZ ho0)]
      exact n4⟩
     intro q c0 w0 hq hqt Ko hqs
     cases q with
     | nil=>
      simp only [bH,ane,anp] at Ko ⊢
      exact ⟨trivial,_,rfl,Ko.2⟩
     | cons sq q=>
      cases sq with
      | idx i=>simp [mG] at hq
      | gu m=>
       simp only [mG] at hq
       cases hg2:aP m c x with
       | none=>rw [hg2] at hq; exact hq.elim
       | some s2=>
        rw [hg2] at hq
        have aj4:ah (.gu m :: q) (.st c)=ah q s2.1:=by simp [ah,cB m hg2]
        rw [aj4] at hqt
        by_cases hmn:m=n
        ·subst hmn
         rw [hcg] at hg2
         simp only [ane] at hg2
         subst hg2
         simp only [bH] at Ko
         rw [ho] at Ko
         simp only at Ko
         rw [hsub] at Ko
         obtain ⟨r1,c1,r2⟩:=n2 q c0 w0 hq hqt Ko (by
          have:(aR (.gu m :: q) (.st y.1) y.2).isSome=true:=hqs
          simpa only [aR,xk m hcp] using this)
         refine ⟨?_,c1, ?_⟩
         ·show mG (.gu m :: q) (.st y.1) y.2
          simp only [mG,xk m hcp]
          exact r1
         ·show bH h' (.gu m :: q) (.st y.1) _ _=_
          simp only [bH]
          rw [xV m ho hcp]
          simp only
          rw [pX hl (cZ ho0)]
          exact r2
        ·obtain ⟨off2,cs2,Zd,g1,g2,g3,g4,g5,g6⟩:=hoth m s2 hmn hg2
         simp only [bH] at Ko
         rw [g1] at Ko
         simp only at Ko
         rw [g2] at Ko
         have g7:=g6 u y hcp
         refine ⟨?_,c0, ?_⟩
         ·show mG (.gu m :: q) (.st y.1) y.2
          simp only [mG,g7]
          exact hq
         ·show bH h' (.gu m :: q) (.st y.1) _ _=_
          simp only [bH]
          rw [Bw n m hmn hcg hcp n3 g1]
          simp only
          rw [g5 XD (by rw [hl0,hsz]), <-Ko]
          exact Gy q g3 hq (fun t ht=>(hqt t ht).1) (fun b hb=>hfr b (g4 b hb))
theorem XO {h:Heap} {own:List TypeId} {ok:Nat->Prop} {p:List Stp} {i:Int} {e:TypeId} {k:K} {xs:List (El k)} {cs:List Value} {fo:List Nat} {wh:Option (Nat×Nat)} {d:Dat}
  (H:Ow h own ok (.sl e k) xs cs fo) (hc:∀b o,wh=some (b,o)->Cells h b o cs) (hnd:fo.Nodup) (hbase:∀b o,wh=some (b,o)->b∉fo) (hmem:az e own=true) (hlt:i.toNat<xs.length)
  (ih:∀{cs0:List Value} {wQ:List Nat} {WY:Option (Nat×Nat)},Ow h own ok k xs[i.toNat] cs0 wQ->(∀b o,WY=some (b,o)->Cells h b o cs0)->wQ.Nodup->(∀b o,WY=some (b,o)->b∉wQ)->Foc h own ok p k xs[i.toNat] cs0 wQ WY d) :
  Foc h own ok (.idx i :: p) (.sl e k) xs cs fo wh d:=by
 unfold Ow at H
 rw [aoi hmem] at H
 obtain ⟨a,n,c,e1,e2,e3,H⟩:=H
 have e2':n=xs.length:=e2
 rcases H with ⟨h0,_⟩ | ⟨b,o,arr,lo,hi,ea,hb,hf,ajB,bC,hfl,hp,H⟩
 ·omega
 have ajC:bC.length=xs.length:=hfl
 obtain ⟨ds,hcd,hod⟩:=H i.toNat hlt
 have hnd':(b :: bC.flatten).Nodup:=hp.nodup hnd
 have hnb:b∉bC.flatten:=(anN.1 hnd').1
 have hpk:=Jk (bC:=bC) (i:=i.toNat) (by omega)
 have pQ:=hpk.nodup (anN.1 hnd').2
 obtain ⟨cs1,fT,rest,nG,hn,hp1,hd1,hc1,hin1,hnone,hup⟩:=ih (WY:=some (b,o+i.toNat * k.size)) hod
  (fun b' o' e'=>by
   simp only [ane,anp] at e'
   obtain ⟨rfl,rfl⟩:=e'
   exact hcd) (anl.1 pQ).1
  (fun b' o' e' hb'=>by
   simp only [ane,anp] at e'
   obtain ⟨rfl,rfl⟩:=e'
   exact hnb (rz hb'))
 have hdl:ds.length=k.size:=cZ hod
 have hwn:nG≠none:=fun e'=>by have:=hnone e'; simp at this
 generalize hR:(bC.take i.toNat).flatten++(bC.drop (i.toNat+1)).flatten=R at *
 have hcap:i.toNat * k.size+k.size<=c * k.size:=by
  have:(i.toNat+1) * k.size<=c * k.size:=anL _ (by omega)
  rw [aoO,aoP] at this
  exact this
 refine ⟨cs1,fT,b :: (rest++R),nG, ?_, ?_,hd1,hc1, ?_,fun e'=>absurd e' hwn,⟨?_⟩⟩
 ·subst e1
  subst ea
  simp only [bH]
  have:nL h b (o+i.toNat * k.size) k.size=ds:=by
   have:=iR hcd
   rwa [hdl] at this
  rw [this]
  exact hn
 ·refine (hp.trans (.cons b (hpk.trans (aoE _ hp1)))).trans ?_
  rw [anB]
  exact List.perm_middle.symm
 ·intro b' o' e'
  rcases hin1 b' o' e' with ⟨hz,o0,ew,h1,h2⟩ | ⟨h1,kJ,e'',lo',hi',g1,g2,g3,g4⟩
  ·simp only [ane,anp] at ew
   obtain ⟨rfl,rfl⟩:=ew
   exact .inr ⟨anM,arr,e,lo,hi,hb,hf,by simp [ah,hz],by omega⟩
  ·refine .inr ⟨by simp [h1],kJ,e'',lo',hi',g1,g2, ?_,g4⟩
   simp only [ah,List.getLast?_cons,g3,aoj]
 ·intro h' ok' t pz uN z hz hl' ht hok hrest hw hcs hb0
  simp only [eF] at hz
  rw [dh hlt] at hz
  cases hs:eF p k xs[i.toNat] t with
  | none=>rw [hs] at hz; simp at hz
  | some u=>
   rw [hs] at hz
   simp only at hz
   cases hck:bQ u.1 k u.2 with
   | none=>rw [hck] at hz; simp at hz
   | some y=>
    rw [hck] at hz
    simp only [ane] at hz
    subst hz
    obtain ⟨uk,ux⟩:=u
    unfold bQ at hck
    split at hck
    case isFalse=>simp at hck
    rename_i hbq
    have hk:=K.eq_of_beq hbq
    simp only at hk
    subst hk
    simp only [ane] at hck
    subst hck
    have hwb:∀q,nG=some q->q.1∉R:=by
     intro q hq hqR
     rcases hin1 q.1 q.2 hq with ⟨_,o0,ew,_⟩ | ⟨h1,_⟩
     ·simp only [ane,anp] at ew
      exact hnb (hpk.mem_iff.2 (ang _ (ew.1▸hqR)))
     ·exact (anl.1 pQ).2.2 q.1 (hp1.mem_iff.2 (ang _ h1)) q.1 hqR rfl
    obtain ⟨ds',hl0,ho0,hc0,_,hnk⟩:=hup.go h' ok' t pz uN ⟨uk,ux⟩ hs hl' ht hok (fun b' hb'=>hrest b' (by simp [hb'])) hw hcs
     (fun b' o' e' hne=>by
      simp only [ane,anp] at e'
      obtain ⟨rfl,rfl⟩:=e'
      exact hrest b anM hne)
    have aaO:∀b'∈R,h' b'=h b':=by
     intro b' hb'
     refine hrest b' (by simp [hb']) ?_
     intro e'
     cases yf:nG with
     | none=>exact absurd yf hwn
     | some q=>
      rw [yf] at e'
      simp only [an1,ane] at e'
      exact hwb q yf (e'▸hb')
    have hblk:∃kJ,h' b=some (.cells kJ e (lo,hi))/\kJ.size=arr.size/\∀j,¬(o+i.toNat * uk.size<=j/\j<o+i.toNat * uk.size+uk.size)->kJ[j]?=arr[j]?:=by
     by_cases hbw:nG.map (·.1)=some b
     ·cases yf:nG with
      | none=>exact absurd yf hwn
      | some q=>
       rw [yf] at hbw
       simp only [an1,ane] at hbw
       obtain ⟨a1,a2,te,fr,g1,g2,g3,g4⟩:=(hw q.1 q.2 yf).2
       rw [hbw] at g1 g2
       rw [hb] at g1
       simp only [ane,Obj.cells.injEq] at g1
       obtain ⟨rfl,rfl,rfl⟩:=g1
       rcases hin1 q.1 q.2 yf with ⟨_,o0,ew,h1,h2⟩ | ⟨h1,_⟩
       ·simp only [ane,anp] at ew
        refine ⟨a2,g2,g3,fun j hj=>g4 j ?_⟩
        intro hj2
        exact hj (by omega)
       ·exact absurd (hpk.mem_iff.2 (anj _ (hp1.mem_iff.2 (ang _ (hbw▸h1))))) hnb
     ·have:=hrest b anM hbw
      exact ⟨arr,this.trans hb,rfl,fun _ _=>rfl⟩
    obtain ⟨kJ,hb',hsz',hsame⟩:=hblk
    have hmul:∀a b:Nat,a<b->a * uk.size+uk.size<=b * uk.size:=by
     intro a b hab
     have:(a+1) * uk.size<=b * uk.size:=anL _ (by omega)
     rwa [aoO,aoP] at this
    have Qh:∀(j:Nat) (dj:List Value),j≠i.toNat->dj.length=uk.size->Cells h b (o+j * uk.size) dj->Cells h' b (o+j * uk.size) dj:=by
     intro j dj hji hjl h1 q hq
     have:=h1 q hq
     unfold cellAt at this ⊢
     rw [hb] at this
     rw [hb']
     simp only at this ⊢
     rw [hsame _ (by
      rcases Nat.lt_or_gt_of_ne hji with hlt' | afo
      ·have:=hmul j i.toNat hlt'; omega
      ·have:=hmul i.toNat j afo; omega)]
     exact this
    have Qi:∀j,j≠i.toNat->∀q∈bC.getD j [],h' q=h q:=by
     intro j hji q hq
     refine aaO q ?_
     rw [<-hR]
     by_cases hjf:j<bC.length
     ·rw [anr,ant hjf] at hq
      simp only [aoj] at hq
      rcases Nat.lt_or_gt_of_ne hji with hlt' | afo
      ·exact anj _ (aoB.2 ⟨bC[j],List.mem_take_iff_getElem.2 ⟨j,by omega,rfl⟩,hq⟩)
      ·refine ang _ (aoB.2 ⟨bC[j],List.mem_drop_iff_getElem.2 ⟨j - (i.toNat+1),by omega, ?_⟩,hq⟩)
       congr 1
       omega
     ·rw [anr,aoQ (by omega)] at hq
      simp at hq
    refine ⟨cs,rfl, ?_, ?_,fun _=>rfl, ?_⟩
    ·unfold Ow
     rw [aoi hmem]
     refine ⟨a,n,c,e1,by rw [e2']; simp,e3, .inr ⟨b,o,kJ,lo,hi,ea,hb',by rw [hsz']; exact hf,by rw [hsz']; exact ajB,bC.set i.toNat (uN++rest),by simp [ajC], ?_, ?_⟩⟩
     ·have:=We (bC:=bC) (i:=i.toNat) (by omega) (uN++rest)
      rw [hR,anB] at this
      exact (List.perm_middle.trans (.cons b this.symm))
     ·intro j hj
      have hj':j<xs.length:=by simpa using hj
      by_cases hji:j=i.toNat
      ·subst hji
       refine ⟨ds',hc0 b _ rfl, ?_⟩
       have e1:(xs.set i.toNat ux)[i.toNat]'(by simpa using hj')=ux:=by simp
       have e2:(bC.set i.toNat (uN++rest)).getD i.toNat []=uN++rest:=by
        rw [dh (by simp; omega)]; simp
       rw [e2]
       show Ow h' own ok' uk ((xs.set i.toNat ux)[i.toNat]'(by simpa using hj')) ds' _
       rw [e1]
       exact ho0
      ·obtain ⟨dj,h1,h2⟩:=H j hj'
       have hjl:dj.length=uk.size:=cZ h2
       refine ⟨dj,Qh j dj hji hjl h1, ?_⟩
       have e1:(xs.set i.toNat ux)[j]'(by simpa using hj')=xs[j]:=by
        rw [List.getElem_set_ne (by omega)]
       have e2:(bC.set i.toNat (uN++rest)).getD j []=bC.getD j []:=by
        rw [anr,anr,List.getElem?_set_ne (by omega)]
       rw [e2]
       show Ow h' own ok' uk ((xs.set i.toNat ux)[j]'(by simpa using hj')) dj _
       rw [e1]
       exact bE (fun b hb=>(hok b hb).2) (fun b hb=>(hok b hb).1) (Qi j hji) h2
    ·intro b' o' e'
     have hcb:=hc b' o' e'
     by_cases hbw:nG.map (·.1)=some b'
     ·cases yf:nG with
      | none=>exact absurd yf hwn
      | some q=>
       rw [yf] at hbw
       simp only [an1,ane] at hbw
       have hbf:=hbase b' o' e'
       rcases hin1 q.1 q.2 yf with ⟨_,o0,ew,_⟩ | ⟨h1,_⟩
       ·simp only [ane,anp] at ew
        exact absurd (hp.mem_iff.2 (by rw [<-hbw, <-ew.1]; exact anM)) hbf
       ·exact absurd (hp.mem_iff.2 (anE _ (hpk.mem_iff.2 (anj _ (hp1.mem_iff.2 (ang _ (hbw▸h1))))))) hbf
     ·exact hcb.congr (hb0 b' o' e' hbw)
    ·intro bad hkind yH
     obtain ⟨_,_,n2,n4⟩:=hnk bad hkind yH
     refine ⟨fun _=>rfl,rfl, ?_,by
      subst e1
      subst ea
      simp only [bH]
      have hr':nL h' b (o+i.toNat * uk.size) uk.size=ds':=by
       have:=iR (hc0 b _ rfl)
       rwa [hl0,hdl] at this
      rw [hr']
      exact n4⟩
     intro q c0 w0 hq hqt Ko hqs
     cases q with
     | nil=>exact ⟨trivial,_,by rw [<-(show (cs,wh)=(c0,w0) from by simpa [bH] using Ko)]; rfl⟩
     | cons sq q=>
      cases sq with
      | gu m=>simp [mG] at hq
      | idx j=>
       simp only [mG] at hq
       obtain ⟨hj0,hj1,hq⟩:=hq
       have ajQ:j<(xs.length:Int):=hj1
       have hjl:j.toNat<xs.length:=by omega
       have ejx:(show List (El uk) from xs).getD j.toNat uk.zero=xs[j.toNat]:=dh hjl
       rw [ejx] at hq
       subst e1
       subst ea
       simp only [bH] at Ko
       have afB:∀t∈ah q uk,az t own=true/\t∉bad:=fun t ht=>hqt t (by simp [ah,ht])
       have hln:j<((xs.set i.toNat ux).length:Int):=by simpa using ajQ
       by_cases hji:j.toNat=i.toNat
       ·have hr:nL h b (o+j.toNat * uk.size) uk.size=ds:=by
         rw [hji]
         have:=iR hcd
         rwa [hdl] at this
        rw [hr,hji] at Ko
        have hq':mG q uk xs[i.toNat]:=by
         have:xs[j.toNat]=xs[i.toNat]:=by congr 1
         rw [<-this]; exact hq
        obtain ⟨r1,c1,r2⟩:=n2 q c0 w0 hq' afB Ko (by
         have:(aR (.idx j :: q) (.sl e uk) (xs.set i.toNat ux)).isSome=true:=hqs
         simp only [aR] at this
         have e3:(show List (El uk) from xs.set i.toNat ux).getD j.toNat uk.zero=ux:=by
          rw [hji,dh (by simpa using hlt)]; simp
         rw [e3] at this
         exact this)
        refine ⟨⟨hj0,hln, ?_⟩,c1, ?_⟩
        ·have:(show List (El uk) from xs.set i.toNat ux).getD j.toNat uk.zero=ux:=by
          rw [hji,dh (by simpa using hlt)]; simp
         rw [this]
         exact r1
        ·simp only [bH]
         have hr':nL h' b (o+j.toNat * uk.size) uk.size=ds':=by
          rw [hji]
          have:=iR (hc0 b _ rfl)
          rwa [hl0,hdl] at this
         rw [hr',hji]
         exact r2
       ·obtain ⟨dj,h1,h2⟩:=H j.toNat hjl
        have aa2:dj.length=uk.size:=cZ h2
        have hr:nL h b (o+j.toNat * uk.size) uk.size=dj:=by
         have:=iR h1
         rwa [aa2] at this
        have hr':nL h' b (o+j.toNat * uk.size) uk.size=dj:=by
         have:=iR (Qh j.toNat dj hji aa2 h1)
         rwa [aa2] at this
        rw [hr] at Ko
        refine ⟨⟨hj0,hln, ?_⟩,c0, ?_⟩
        ·have:(show List (El uk) from xs.set i.toNat ux).getD j.toNat uk.zero=xs[j.toNat]:=by
          rw [dh (by simpa using hjl),List.getElem_set_ne (by omega)]
         rw [this]
         exact hq
        ·simp only [bH]
         rw [hr', <-Ko]
         exact Gy q h2 hq (fun t ht=>(afB t ht).1) (Qi j.toNat hji)
theorem focus {h:Heap} {own:List TypeId} {ok:Nat->Prop}:∀(p:List Stp) {k:K} {x:El k} {cs:List Value} {fo:List Nat} {wh:Option (Nat×Nat)} {d:Dat},
  Ow h own ok k x cs fo->(∀b o,wh=some (b,o)->Cells h b o cs)->aR p k x=some d->mG p k x->(∀t∈ah p k,az t own=true)->fo.Nodup->(∀b o,wh=some (b,o)->b∉fo)->
   Foc h own ok p k x cs fo wh d:=by
 intro p
 induction p with
 | nil=>
  intro k x cs fo wh d H hc hg _ _ _ _
  simp only [aR,ane] at hg
  subst hg
  refine ⟨cs,fo,[],wh,rfl,by simp,H,hc,fun b o e=>.inl ⟨rfl,o,e,anv _,anv _⟩,id,⟨?_⟩⟩
  intro h' ok' t pz uN z hz hl ht _ _ hw hn _
  simp only [eF,ane] at hz
  subst hz
  exact ⟨pz,by rw [hl,cZ H],by simpa using ht,fun b o e=>(hw b o e).1,hn,fun bad hk yH=>⟨id,hk,yH,rfl⟩⟩
 | cons s p ih=>
  intro k x cs fo wh d H hc hg hin Kq hnd hbase
  cases s with
  | gu n=>
   cases k with
   | st c=>
    simp only [aR] at hg
    cases hcg:aP n c x with
    | none=>rw [hcg] at hg; simp at hg
    | some s=>
     rw [hcg] at hg
     simp only at hg
     simp only [mG,hcg] at hin
     have hpt:ah (.gu n :: p) (.st c)=ah p s.1:=by simp [ah,cB n hcg]
     rw [hpt] at Kq
     exact XN (show Ow h own ok c x cs fo from H) hc hcg hnd hbase (fun H0 hc0 rJ hb0=>ih H0 hc0 hg hin Kq rJ hb0)
   | _=>simp [aR] at hg
  | idx i=>
   cases k with
   | sl e k=>
    simp only [aR] at hg
    simp only [mG] at hin
    obtain ⟨hi0,hi1,hin⟩:=hin
    have ajN:i<((@List.length (El k) x:Nat):Int):=hi1
    have hlt:i.toNat < @List.length (El k) x:=by omega
    have eg:(show List (El k) from x).getD i.toNat k.zero=(show List (El k) from x)[i.toNat]'hlt:=dh hlt
    rw [eg] at hin hg
    exact XO (xs:=x) H hc hnd hbase (Kq e (by simp [ah])) hlt (fun H0 hc0 rJ hb0=>ih H0 hc0 hg hin (fun t ht=>Kq t (by simp [ah,ht])) rJ hb0)
   | _=>simp [aR] at hg
end
section
open Go
variable [Fr]
def Prog.ends {J:Type}:Prog J->St->J->Prop
 | .ret a,_,x=>x=a
 | .fail,_,_=>False
 | .slot n k,Z,x=>(k (Z.slots n)).ends Z x
 | .root r k,Z,x=>(k (Z.roots r)).ends Z x
 | .tQ c _ k,Z,x=>c/\k.ends Z x
 | .br c t e,Z,x=>(c=true/\t.ends Z x)\/(c=false/\e.ends Z x)
 | .opt _ o k,Z,x=>∃b,o=some b/\(k b).ends Z x
theorem vR {J R:Type} (p:Prog J) {Z:St} {K:J->Option R} {r:R} (h:p.run Z K=some r):∃x,p.ends Z x/\K x=some r:=by
 induction p with
 | ret a=>exact ⟨a,rfl,h⟩
 | fail=>simp [Prog.run] at h
 | slot n k ih=>exact ih _ h
 | root n k ih=>exact ih _ h
 | tQ c d k ih=>
  simp only [Prog.run] at h
  split at h
  ·rename_i hc
   obtain ⟨x,h1,h2⟩:=ih h
   exact ⟨x,⟨hc,h1⟩,h2⟩
  ·simp at h
 | br c t e OL OJ=>
  simp only [Prog.run] at h
  split at h
  ·rename_i hc
   obtain ⟨x,h1,h2⟩:=OL h
   exact ⟨x, .inl ⟨hc,h1⟩,h2⟩
  ·rename_i hc
   obtain ⟨x,h1,h2⟩:=OJ h
   exact ⟨x, .inr ⟨by simpa using hc,h1⟩,h2⟩
 | opt β o k ih=>
  simp only [Prog.run] at h
  cases ho:o with
  | none=>rw [ho] at h; simp at h
  | some b=>
   rw [ho] at h
   obtain ⟨x,h1,h2⟩:=ih b h
   exact ⟨x,⟨b,rfl,h1⟩,h2⟩
def bS:K->List Value
 | .int ik=>[.int ik 0]
 | .bool=>[.bool false]
 | .str=>[.string ByteArray.empty]
 | .sl _ _=>[.slice none 0 0]
 | .id _=>[.slice none 0 0]
 | .unit=>[]
 | .pair a b=>bS a++bS b
 | .st f=>bS f
 | .gap _=>[]
def pG:K->Value
 | .st f=>.agg (bS f).toArray
 | .int ik=>.int ik 0
 | .bool=>.bool false
 | .str=>.string ByteArray.empty
 | .sl _ _=>.slice none 0 0
 | .id _=>.slice none 0 0
 | _=>undef
def rP (P:Program) (t:TypeId) (k:K):Prop:=∃i,P.info? t=some i/\i.size=k.size/\i.zero=some (pG k)
def j5 (P:Program) (T:jh):K->(TypeId->Prop)×(List Field->Nat->Prop)
 | .int ik=>(fun t=>P.underlying t=some (.int ik)/\rP P t (.int ik),fun _ _=>False)
 | .bool=>(fun t=>P.underlying t=some .bool/\rP P t .bool,fun _ _=>False)
 | .str=>(fun t=>P.underlying t=some .string/\rP P t .str,fun _ _=>False)
 | .sl e k=>(fun t=>P.underlying t=some (.slice e)/\rP P t (.sl e k)/\(j5 P T k).1 e/\0<k.size/\∃i,P.info? e=some i/\i.bytes=T.bytes e/\0<i.bytes,fun _ _=>False)
 | .unit=>(fun _=>False,fun fs _=>fs=[])
 | .pair a b=>(fun _=>False,fun fs off=>match fs with
  | []=>False
  | f :: fs=>f.offset=off/\(j5 P T a).1 f.type/\0<a.size/\(j5 P T b).2 fs (off+a.size))
 | .st c=>(fun t=>(∃fs,P.underlying t=some (.struct fs)/\(j5 P T c).2 fs.toList 0)/\rP P t (.st c),fun _ _=>False)
 | .gap _=>(fun _=>False,fun _ _=>False)
 | .id e=>(fun t=>P.underlying t=some (.slice e)/\rP P t (.id e)/\T.ids=true,fun _ _=>False)
def fM (P:Program) (T:jh) (t:TypeId) (k:K):Prop:=(j5 P T k).1 t
structure eG (P:Program) (T:jh):Prop where
 ty:∀t k,T.ty t=some k->fM P T t k
 ptr:∀t,T.ptr t=true->∃e,P.underlying t=some (.pointer e)
theorem fM.info {P:Program} {T:jh} {t:TypeId} {k:K} (h:fM P T t k):rP P t k:=by
 unfold fM j5 at h
 cases k with
 | int ik=>exact h.2
 | bool=>exact h.2
 | id e=>exact h.2.1
 | str=>exact h.2
 | sl e k=>exact h.2.1
 | unit=>exact h.elim
 | pair a b=>exact h.elim
 | st c=>exact h.2
 | gap n=>exact h.elim
def VC (k:K) (v:Value) (cs:List Value):Prop:=match k with
 | .st _=>v=.agg cs.toArray
 | _=>cs=[v]/\∀x,v≠.agg x
theorem VC.cells {k:K} {v:Value} {cs:List Value} (h:VC k v cs):v.cells.toList=cs:=by
 unfold VC at h
 split at h
 ·subst h; simp [Value.cells]
 ·obtain ⟨rfl,hn⟩:=h
  cases v <;> first | rfl | (exact absurd rfl (hn _))
def tZ:K->Bool
 | .st _=>true
 | _=>false
theorem fM.isAgg {P:Program} {T:jh} {t:TypeId} {k:K} (h:fM P T t k) (w:World):(Go.isAgg t).run P w=.ok (tZ k) w:=by
 unfold fM j5 at h
 cases k with
 | int ik=>simp [Go.isAgg,aoR h.1,tZ]
 | bool=>simp [Go.isAgg,aoR h.1,tZ]
 | id e=>simp [Go.isAgg,aoR h.1,tZ]
 | str=>simp [Go.isAgg,aoR h.1,tZ]
 | sl e k=>simp [Go.isAgg,aoR h.1,tZ]
 | unit=>exact h.elim
 | pair a b=>exact h.elim
 | st c=>obtain ⟨⟨fs,h1,_⟩,_⟩:=h; simp [Go.isAgg,aoR h1,tZ]
 | gap n=>exact h.elim
theorem rP.sizeOf {P:Program} {t:TypeId} {k:K} (h:rP P t k) (w:World):(Go.sizeOf t).run P w=.ok k.size w:=by
 obtain ⟨i,h1,h2,_⟩:=h
 simp [Go.sizeOf,run_typeInfo w h1,h2]
theorem rP.zero {P:Program} {t:TypeId} {k:K} (h:rP P t k) (w:World):(Go.zeroValue t).run P w=.ok (pG k) w:=by
 obtain ⟨i,h1,_,h3⟩:=h
 simp [Go.zeroValue,run_typeInfo w h1,h3]
theorem addr_add (b o n:Nat):(⟨b,o,none⟩:Addr).add n=⟨b,o+n,none⟩:=by unfold Addr.add; split <;> simp_all
theorem sD {P:Program} {T:jh} {t:TypeId} {k:K} {w:World} {b o:Nat} {cs:List Value} {v:Value} (h:fM P T t k) (hc:Cells (hp w) b o cs) (hl:cs.length=k.size) (hv:VC k v cs) :
  (Instr.loadAt t (.pointer (some ⟨b,o,none⟩))).run P w=.ok v w:=by
 have hcell:∀j u,cs[j]?=some u->w.cell? ((⟨b,o,none⟩:Addr).add j)=some u:=by
  intro j u hj
  rw [addr_add,wu,hc j (anZ.1 hj).1]
  exact hj
 unfold Instr.loadAt Instr.sureAddr loadVar
 simp only [anF,anK,Result.andThen,h.isAgg w]
 cases k with
 | st c=>
  have e:v=.agg cs.toArray:=hv
  have h2:=run_loadCells_list (P:=P) w ⟨b,o,none⟩ cs hcell
  rw [hl] at h2
  simp [tZ,h.info.sizeOf w,h2,Result.andThen,e]
 | unit=>exact (show False from h).elim
 | pair a b=>exact (show False from h).elim
 | gap n=>exact (show False from h).elim
 | int ik=>
  obtain ⟨e,_⟩:cs=[v]/\_:=hv
  have:=hcell 0 v (by rw [e]; rfl)
  rw [addr_add,aoS] at this
  simp [tZ,this]
 | bool=>
  obtain ⟨e,_⟩:cs=[v]/\_:=hv
  have:=hcell 0 v (by rw [e]; rfl)
  rw [addr_add,aoS] at this
  simp [tZ,this]
 | id e=>
  obtain ⟨e,_⟩:cs=[v]/\_:=hv
  have:=hcell 0 v (by rw [e]; rfl)
  rw [addr_add,aoS] at this
  simp [tZ,this]
 | str=>
  obtain ⟨e,_⟩:cs=[v]/\_:=hv
  have:=hcell 0 v (by rw [e]; rfl)
  rw [addr_add,aoS] at this
  simp [tZ,this]
 | sl e k=>
  obtain ⟨e,_⟩:cs=[v]/\_:=hv
  have:=hcell 0 v (by rw [e]; rfl)
  rw [addr_add,aoS] at this
  simp [tZ,this]
def eY:K->Bool
 | .gap _=>false
 | .pair a b=>eY a && eY b
 | .st f=>eY f
 | _=>true
theorem j5.eY {P:Program} {T:jh}:∀{k:K},(∀t,(j5 P T k).1 t->Ow.eY k=true)/\(∀fs off,(j5 P T k).2 fs off->Ow.eY k=true):=by
 intro k
 induction k with
 | int ik=>exact ⟨fun _ _=>rfl,fun _ _ h=>h.elim⟩
 | bool=>exact ⟨fun _ _=>rfl,fun _ _ h=>h.elim⟩
 | id e=>exact ⟨fun _ _=>rfl,fun _ _ h=>h.elim⟩
 | str=>exact ⟨fun _ _=>rfl,fun _ _ h=>h.elim⟩
 | sl e k ih=>exact ⟨fun _ _=>rfl,fun _ _ h=>h.elim⟩
 | unit=>exact ⟨fun _ h=>h.elim,fun _ _ _=>rfl⟩
 | pair a b iha ihb=>
  refine ⟨fun _ h=>h.elim,fun fs off h=>?_⟩
  cases fs with
  | nil=>exact h.elim
  | cons f fs=>simp [Ow.eY,iha.1 _ h.2.1,ihb.2 _ _ h.2.2.2]
 | st f ih=>exact ⟨fun t h=>by obtain ⟨⟨fs,_,h⟩,_⟩:=h; exact ih.2 _ _ h,fun _ _ h=>h.elim⟩
 | gap n=>exact ⟨fun _ h=>h.elim,fun _ _ h=>h.elim⟩
theorem fM.eY {P:Program} {T:jh} {t:TypeId} {k:K} (h:fM P T t k):Ow.eY k=true:=j5.eY.1 t h
theorem JQ {h:Heap} {ok:Nat->Prop}:∀{k:K} {x:El k} {cs:List Value},eY k=true->Vw h ok k x cs->∀v∈cs,v.oneCell'=true:=by
 intro k
 induction k with
 | int ik=>intro x cs _ H v hv; rw [H.1] at hv; simp at hv; subst hv; rfl
 | bool=>intro x cs _ H v hv; rw [show cs=_ from H] at hv; simp at hv; subst hv; rfl
 | id e=>intro x cs _ H v hv; rw [show cs=_ from H] at hv; simp only [anz] at hv; subst hv; obtain ⟨a,n,c,h⟩:=Fr.afR x; rw [h]; rfl
 | str=>intro x cs _ H v hv; obtain ⟨B,rfl,_⟩:=H; simp at hv; subst hv; rfl
 | sl e k ih=>intro x cs _ H v hv; obtain ⟨a,n,c,rfl,_⟩:=H; simp at hv; subst hv; rfl
 | unit=>intro x cs _ H v hv; rw [show cs=_ from H] at hv; simp at hv
 | pair a b iha ihb=>
  intro x cs hg H v hv
  simp [eY] at hg
  obtain ⟨c1,c2,rfl,h1,h2⟩:=H
  rcases ann.1 hv with h | h
  ·exact iha hg.1 h1 v h
  ·exact ihb hg.2 h2 v h
 | st f ih=>intro x cs hg H; exact ih (x:=x) hg H
 | gap n=>intro x cs hg; simp [eY] at hg
theorem JM {h:Heap} {own:List TypeId} {ok:Nat->Prop} {k:K} {x:El k} {cs:List Value} {fo:List Nat} (hg:eY k=true) (H:Ow h own ok k x cs fo):∀v∈cs,v.oneCell'=true:=
 JQ hg (lU (fun _=>True) (fun _ _=>trivial) (fun _ _=>trivial) H)
theorem VC.mk {h:Heap} {ok:Nat->Prop} {k:K} {x:El k} {cs:List Value} (hk:∀a b,k≠.pair a b) (hu:k≠.unit) (hg:∀n,k≠.gap n) (H:Vw h ok k x cs):∃v,VC k v cs:=by
 cases k with
 | int ik=>exact ⟨.int ik x,H.1,by simp⟩
 | bool=>exact ⟨.bool x,H,by simp⟩
 | id e=>obtain ⟨a,n,c,h⟩:=Fr.afR x; exact ⟨Fr.jm x,H,by rw [h]; simp⟩
 | str=>obtain ⟨B,e,_⟩:=H; exact ⟨.string B,e,by simp⟩
 | sl e k=>obtain ⟨a,n,c,e,_⟩:=H; exact ⟨.slice a n c,e,by simp⟩
 | unit=>exact absurd rfl hu
 | pair a b=>exact absurd rfl (hk a b)
 | st c=>exact ⟨.agg cs.toArray,rfl⟩
 | gap n=>exact absurd rfl (hg n)
theorem Mk (w:World) (o:Obj) (b:Nat):hp (w.alloc o) b=if b=w.heap.size then some o else hp w b:=by
 show (w.heap.push o)[b]?=_
 rw [Array.getElem?_push]
 rfl
theorem mW (w:World) (o:Obj) {b:Nat} (h:b<w.heap.size):hp (w.alloc o) b=hp w b:=by
 rw [Mk,aok (by omega)]
theorem o9 (w:World) (o:Obj):hp (w.alloc o) w.heap.size=some o:=by
 rw [Mk,aoi rfl]
theorem Dq (w:World) (b o:Nat) (v:Value) {b':Nat} (h:b'≠b):hp (w.setCell ⟨b,o,none⟩ v) b'=hp w b':=by
 simp only [hp,World.setCell,aoT]
 rw [aok (by omega)]
theorem ED (w:World) (b o:Nat) (v:Value) {arr:Array Value} {e:TypeId} {fr:Nat×Nat} (h:hp w b=some (.cells arr e fr)) :
  hp (w.setCell ⟨b,o,none⟩ v) b=some (.cells (arr.setIfInBounds o v) e fr):=by
 have h':w.heap[b]?=some (.cells arr e fr):=h
 simp [hp,World.setCell,aoT,h']
theorem qF (b:Nat):∀(vs:List Value) (w:World) (arr:Array Value) (e:TypeId) (fr:Nat×Nat) (o:Nat),hp w b=some (.cells arr e fr)->o+vs.length<=arr.size->
  (∀b',b'≠b->hp (w.setCells b o vs) b'=hp w b')/\(w.setCells b o vs).heap.size=w.heap.size/\
  ∃kJ,hp (w.setCells b o vs) b=some (.cells kJ e fr)/\kJ.size=arr.size/\(∀i,i<vs.length->kJ[o+i]?=vs[i]?)/\∀i,¬(o<=i/\i<o+vs.length)->kJ[i]?=arr[i]?:=by
 intro vs
 induction vs with
 | nil=>intro w arr e fr o hb _; exact ⟨fun _ _=>rfl,rfl,arr,hb,rfl,fun i hi=>by simp at hi,fun _ _=>rfl⟩
 | cons v vs ih=>
  intro w arr e fr o hb hl
  simp only [anD] at hl
  have h1:=ED w b o v hb
  obtain ⟨g1,g2,kJ,g3,g4,g5,g6⟩:=ih (w.setCell ⟨b,o,none⟩ v) _ e fr (o+1) h1 (by simp; omega)
  refine ⟨fun b' hb'=>(g1 b' hb').trans (Dq w b o v hb'),by rw [World.setCells,g2]; simp [World.setCell],kJ,g3,by rw [g4]; simp, ?_, ?_⟩
  ·intro i hi
   simp only [anD] at hi
   cases i with
   | zero=>
    rw [g6 _ (by omega)]
    simp only [aoS,anU]
    rw [aoU (by omega)]
   | succ i=>
    rw [show o+(i+1)=o+1+i from by omega,g5 i (by omega)]
    simp
  ·intro i hi
   simp only [anD] at hi
   rw [g6 i (by omega),aoV (by omega)]
theorem nK (b:Nat):∀(vs:List Value) (w:World) (o:Nat),(w.setCells b o vs).os=w.os/\(w.setCells b o vs).tape=w.tape/\(w.setCells b o vs).output=w.output:=by
 intro vs
 induction vs with
 | nil=>intro w o; exact ⟨rfl,rfl,rfl⟩
 | cons v vs ih=>intro w o; exact ih (w.setCell ⟨b,o,none⟩ v) (o+1)
theorem kC {P:Program} {w:World} {b o:Nat} {arr:Array Value} {e:TypeId} {lo hi:Nat} (vs:List Value) (hb:hp w b=some (.cells arr e (lo,hi))) (hf:zY arr.size lo hi)
  (hl:o+vs.length<=arr.size) (h1:∀v∈vs,v.oneCell'=true):(storeCells ⟨b,o,none⟩ vs).run P w=.ok () (w.setCells b o vs):=by
 have:=run_storeCells_cells (P:=P) b o vs 0 w (fun j hj=>by
   rw [wu]
   unfold cellAt
   rw [hb]
   simp only [aoS]
   rw [Array.getElem?_eq_getElem (by omega)]
   rfl) (fun j hj=>by
   unfold World.frozen?
   have hb':w.heap[b]?=some (.cells arr e (lo,hi)):=hb
   simp only [hb',aoS]
   have:=hf (o+j) (by omega)
   simp
   omega) h1
 simpa using this
theorem Ee {P:Program} {T:jh} {t:TypeId} {k:K} {w:World} {b o:Nat} {cs:List Value} {v:Value} {arr:Array Value} {e:TypeId} {lo hi:Nat} (h:fM P T t k) (hb:hp w b=some (.cells arr e (lo,hi)))
  (hf:zY arr.size lo hi) (hl:cs.length=k.size) (hs:o+k.size<=arr.size) (hv:VC k v cs) (h1:∀v∈cs,v.oneCell'=true) :
  (Instr.storeAt t (.pointer (some ⟨b,o,none⟩)) v).run P w=.ok () (w.setCells b o cs):=by
 have hc:=hv.cells
 have hsz:v.cells.size=k.size:=by rw [<-hl, <-hc]; simp
 unfold Instr.storeAt Instr.sureAddr storeVar
 simp only [anF,anK,Result.andThen,h.info.sizeOf w,Sem.run_ite]
 rw [aok (by rw [hsz]; simp)]
 rw [hc]
 exact kC cs hb hf (by omega) h1
theorem G7 {P:Program} (t:TypeId) (v:Value) (w:World):(newVar t v).run P w=.ok ⟨w.heap.size,0,none⟩ (w.alloc (.cells v.cells t)):=by
 simp [newVar,newRow]
theorem Jq {P:Program} (t:TypeId) (v:Value) (w:World):(Instr.box t v).run P w=.ok (.pointer (some ⟨w.heap.size,0,none⟩)) (w.alloc (.cells v.cells t)):=by
 simp [Instr.box,G7,Result.andThen]
theorem MX {P:Program} {T:jh} {t:TypeId} {k:K} (h:fM P T t k) (w:World):(Instr.alloc t true (.tuple #[])).run P w=.ok (.pointer (some ⟨w.heap.size,0,none⟩)) (w.alloc (.cells (pG k).cells t)):=by
 simp [Instr.alloc,h.info.zero w,G7,Result.andThen]
theorem QL:∀{k:K},(∀a b,k≠.pair a b)->k≠.unit->(∀n,k≠.gap n)->VC k (pG k) (bS k):=by
 intro k h1 h2 h3
 cases k with
 | int ik=>exact ⟨rfl,by simp [pG]⟩
 | bool=>exact ⟨rfl,by simp [pG]⟩
 | id e=>exact ⟨rfl,by simp [pG]⟩
 | str=>exact ⟨rfl,by simp [pG]⟩
 | sl e k=>exact ⟨rfl,by simp [pG]⟩
 | unit=>exact absurd rfl h2
 | pair a b=>exact absurd rfl (h1 a b)
 | st c=>rfl
 | gap n=>exact absurd rfl (h3 n)
theorem Cq {h:Heap} {own:List TypeId} {ok:Nat->Prop}:∀{k:K},eY k=true->(∀t∈k.tys,az t own=true)->Ow h own ok k k.zero (bS k) []:=by
 intro k
 induction k with
 | int ik=>intro _ _; exact ⟨rfl,rfl,by cases ik <;> simp [GV,K.zero]⟩
 | bool=>intro _ _; exact ⟨rfl,rfl⟩
 | id e=>intro _ _; exact ⟨rfl,by show _=[Fr.jm 0]; rw [Fr.abr]; rfl⟩
 | str=>intro _ _; exact ⟨rfl,ByteArray.empty,rfl,rfl⟩
 | sl e k ih=>
  intro _ ht
  unfold Ow
  rw [aoi (ht e (by simp [K.tys]))]
  exact ⟨none,0,0,rfl,rfl,anv _, .inl ⟨rfl,rfl⟩⟩
 | unit=>intro _ _; exact ⟨rfl,rfl⟩
 | pair a b iha ihb=>
  intro hg ht
  simp [eY] at hg
  exact ⟨bS a,bS b,[],[],rfl, .refl _,iha hg.1 (fun t h=>ht t (by simp [K.tys,h])),ihb hg.2 (fun t h=>ht t (by simp [K.tys,h]))⟩
 | st f ih=>intro hg ht; exact ih hg ht
 | gap n=>intro hg; simp [eY] at hg
end
section
open Go
variable [Fr]
structure Q6 where
 base:Option (Nat×Nat×Nat)
 bl:List Nat
 kp:Bool
structure Cx where
 nt:Nat
 w0:World
 ext:Nat->Nat->Prop
 par:Nat->Option Q6
 ptrs:Nat->List Stp->List TypeId->Value->Prop
 refs:Nat->Value->Prop
structure dP where
 loc:Nat->Nat×Nat
 hdr:Nat->List Value
 fo:Nat->List Nat
def dY (J:dP) (R:Root) (r:Nat):Option (Nat×Nat):=match R.kind with
 | .var _=>some (J.loc r)
 | .par=>some (J.loc r)
 | _=>none
def blk (J:dP) (R:Root) (r:Nat):List Nat:=(match dY J R r with
 | some q=>[q.1]
 | none=>[])++J.fo r
def aQ (Z:St) (r:Nat) (R:Root):Prop:=Z.roots r=some R/\R.bg=false
def mD (cx:Cx) (b:Nat):Prop:=∃j pi o n,cx.par j=some pi/\pi.base=some (b,o,n)
def jc (cx:Cx) (Z:St) (J:dP) (F:List Nat) (w:World) (T:List Tag) (b:Nat):Prop:=
 b<w.heap.size/\b∉F/\¬mD cx b/\(∀r R,aQ Z r R->b∈blk J R r->∃n,(r,n)∈T)/\
 (b<cx.w0.heap.size->(∃j n,(pO j,n)∈T/\cx.ext j b)\/∃j pi,cx.par j=some pi/\b∈pi.bl)
def bB (Z:St) (R:Root):Prop:=R.bg=false/\bD Z R.z8 R.tags=true
def GH (Z:St) (J:dP) (F:List Nat) (w:World) (T:List Tag) (b:Nat):Prop:=
 b<w.heap.size/\b∉F/\∀r R,aQ Z r R->b∈blk J R r->∃n,(r,n)∈T
def GX (cx:Cx) (Z:St) (J:dP) (F:List Nat) (w:World) (bt:TypeId) (k:K) (x:El k) (T:List Tag) (v:Value):Prop:=
 (∃b o,v=.pointer (some ⟨b,o,none⟩))/\(bD Z (bt :: k.tys) T=true->∃b o cs,v=.pointer (some ⟨b,o,none⟩)/\Cells (hp w) b o cs/\Vw (hp w) (jc cx Z J F w T) k x cs/\GH Z J F w T b/\
  ((bt=SENT/\∀t∈T,gy t.1=true)\/(vo (hp w) b bt/\¬mD cx b)))
def lD (cx:Cx) (Z:St) (J:dP) (F:List Nat) (w:World):List (TypeId×Dat×List Tag)->List Value->Prop
 | [],[]=>True
 | c :: cs,v :: vs=>GX cx Z J F w c.1 c.2.1.1 c.2.1.2 c.2.2 v/\lD cx Z J F w cs vs
 | _,_=>False
def lG:List Stp->K->Option (Nat×K)
 | [],k=>some (0,k)
 | .gu n :: p, .st c=>match bG n c with
  | some q=>match lG p q.2 with
   | some r=>some (q.1+r.1,r.2)
   | none=>none
  | none=>none
 | _,_=>none
def ab9 (J:dP) (h:Heap) (r:Nat) (R:Root) (p:List Stp) (q:Nat) (Q:Root) (v:Value):Prop:=
 ∃(e:TypeId) (kk:K) (xs:List (El kk)) (wh:Option (Nat×Nat)) (b:Option Addr) (n c:Nat) (ce:List Value) (hq:Value) (b1 o1 c1:Nat) (arr:Array Value) (lo hi:Nat),
  aR p R.k R.x=some ⟨.sl e kk,xs⟩/\mG p R.k R.x/\(∀t∈ah p R.k,az t R.own=true)/\bH h p R.k (J.hdr r) (dY J R r)=some ([.slice b n c],wh)/\
  (Q.k=Lr e kk/\Q.kind=.anon)/\J.hdr q=ce++[hq]/\ce.length=kk.size/\v=.slice (some ⟨b1,o1,none⟩) (n+1) c1/\n+1<=c1/\
  h b1=some (.cells arr e (lo,hi))/\zY arr.size lo hi/\o1+c1 * kk.size<=arr.size/\Cells h b1 (o1+n * kk.size) ce/\
  ((b=some ⟨b1,o1,none⟩/\b1∈J.fo r/\hq=.slice none 0 0/\c=c1)\/(hq=.slice (some ⟨b1,o1,none⟩) 0 c1/\b1∈J.fo q/\(0<n->∃b0 o0,b=some ⟨b0,o0,none⟩/\b0∈J.fo r/\∀i,i<n * kk.size->cellAt h b1 (o1+i)=cellAt h b0 (o0+i))))
def aeA (J:dP) (h:Heap) (r:Nat) (R:Root) (p:List Stp) (q:Nat) (Q:Root) (a b:Nat) (v:Value):Prop:=
 ∃(e:TypeId) (kk:K) (xs:List (El kk)) (wh:Option (Nat×Nat)) (bb:Option Addr) (m c:Nat) (bq:Option Addr) (m1 c1:Nat),
  aR p R.k R.x=some ⟨.sl e kk,xs⟩/\mG p R.k R.x/\(∀t∈ah p R.k,az t R.own=true)/\bH h p R.k (J.hdr r) (dY J R r)=some ([.slice bb m c],wh)/\
  (Q.k=.sl e (.gap kk.size)/\Q.kind=.anon)/\J.hdr q=[v]/\v=.slice bq m1 c1/\(a<=b/\b<=m/\m=xs.length/\m1=a+(m - b))/\
  (0<m1->∃b1 o1 b0 o0,bq=some ⟨b1,o1,none⟩/\bb=some ⟨b0,o0,none⟩/\b1∈J.fo q/\b0∈J.fo r/\
   ∀j i,j<m1->i<kk.size->cellAt h b1 (o1+(j * kk.size+i))=cellAt h b0 (o0+((if j<a then j else b+(j - a)) * kk.size+i)))
def bN (cx:Cx) (Z:St) (J:dP) (F:List Nat) (w:World):AV->Value->Prop
 | .undef,_=>True
 | .val k x T,v=>(k.flat=true\/bD Z k.tys T=true)->∃cs,VC k v cs/\Vw (hp w) (jc cx Z J F w T) k x cs
 | .jy,v=>∃a,v=.slice a 0 0
 | .ref r g,v=>∀R,aQ Z r R->R.g=g->R.kind=.anon/\VC R.k v (J.hdr r)
 | .rH r p n,v=>∀R,Z.roots r=some R->bB Z R->R.qJ=n->∀d,aR p R.k R.x=some d->
   mG p R.k R.x/\(∀t∈ah p R.k,az t R.own=true)/\∃cs wh,bH (hp w) p R.k (J.hdr r) (dY J R r)=some (cs,wh)/\VC d.1 v cs
 | .ptr r p n,v=>(∃b o,v=.pointer (some ⟨b,o,none⟩))/\∀R,Z.roots r=some R->bB Z R->clean R.h n (eT p R.k)=true->(∀t∈ah p R.k,az t R.own=true)->(aR p R.k R.x).isSome=true->
   mG p R.k R.x/\∃cs b o,bH (hp w) p R.k (J.hdr r) (dY J R r)=some (cs,some (b,o))/\v=.pointer (some ⟨b,o,none⟩)
 | .jE bt k x T,v=>GX cx Z J F w bt k x T v
 | .rA,v=>v=.pointer none
 | .yI e,v=>∃b,v=.bool b/\(b=true->e=true)
 | .part r g lo hi sz,v=>∃b' b n c,v=.slice b' (hi - lo) (c - lo)/\(lo=0\/c≠lo->b'=b.map (·.add (lo * sz)))/\lo<=hi/\hi<=n/\n<=c/\∀R,aQ Z r R->R.g=g->R.kind=.anon/\VC R.k (.slice b n c) (J.hdr r)
 | .FM r g k p,v=>∃u b off k1,v=.pointer (some ⟨b,off,none⟩)/\GH Z J F w [] b/\Cells (hp w) b 0 u.cells.toList/\lG p k=some (off,k1)/\∀R,aQ Z r R->R.g=g->R.kind=.anon/\VC R.k u (J.hdr r)
 | .wT r p n m,v=>∃b c,v=.slice b m c/\∀R,Z.roots r=some R->bB Z R->R.qJ=n->∀d,aR p R.k R.x=some d->
   mG p R.k R.x/\(∀t∈ah p R.k,az t R.own=true)/\∃q wh,bH (hp w) p R.k (J.hdr r) (dY J R r)=some ([.slice b q c],wh)/\m<=q
 | .sub r p n lo hi sz,v=>∃b' b m c,v=.slice b' (hi - lo) (c - lo)/\(lo=0\/c≠lo->b'=b.map (·.add (lo * sz)))/\lo<=hi/\hi<=m/\m<=c/\∀R,Z.roots r=some R->bB Z R->R.qJ=n->∀d,aR p R.k R.x=some d->
   mG p R.k R.x/\(∀t∈ah p R.k,az t R.own=true)/\∃wh,bH (hp w) p R.k (J.hdr r) (dY J R r)=some ([.slice b m c],wh)
 | .sel r p n q x y,v=>∀R,Z.roots r=some R->bB Z R->R.qJ=n->∀Q,aQ Z q Q->Q.qJ=0->aeA J (hp w) r R p q Q x y v
 | .app r p n q,v=>∀R,Z.roots r=some R->bB Z R->R.qJ=n->∀Q,aQ Z q Q->Q.qJ=0->ab9 J (hp w) r R p q Q v
 | .fn f cs,v=>∃vs:List Value,v=.func (.func f) #[] vs.toArray/\lD cx Z J F w cs vs
def eD (cx:Cx) (Z:St) (J:dP) (F:List Nat) (w:World):List AV->List Value->Prop
 | [],[]=>True
 | a :: l,v :: vs=>bN cx Z J F w a v/\eD cx Z J F w l vs
 | _,_=>False
def Sz:K->List Value->List Value->Prop
 | .pair k r,u :: us,cs=>∃c1 c2,cs=c1++c2/\VC k u c1/\c1.length=k.size/\Sz r us c2
 | .unit,[],cs=>cs=[]
 | _,_,_=>False
def jG (cx:Cx) (Z:St) (J:dP) (F:List Nat) (w:World):wL->Value->Prop
 | .one a,v=>bN cx Z J F w a v
 | .Hq l,v=>∃vs:List Value,v=.tuple vs.toArray/\eD cx Z J F w l vs
 | .lit _ c l,v=>∃vs cs:List Value,(v=.agg cs.toArray/\Sz c vs cs)/\eD cx Z J F w l vs
def Cj (Z:St) (t:Tag):Prop:=gy t.1=true\/∃R,Z.roots t.1=some R/\(R.bg=true\/t.2<=gY R.w)
def fG (Z:St) (T:List Tag):Prop:=∀t∈T,Cj Z t
def qM (Z:St):AV->Prop
 | .val _ _ T=>fG Z T
 | .ref r g=>∃R,Z.roots r=some R/\(R.bg=true\/g<=R.g)
 | .rH r _ n=>∃R,Z.roots r=some R/\(R.bg=true\/n<=R.qJ)
 | .FM r g _ _=>∃R,Z.roots r=some R/\(R.bg=true\/g<=R.g)
 | .part r g _ _ _=>∃R,Z.roots r=some R/\(R.bg=true\/g<=R.g)
 | .wT r _ n _=>∃R,Z.roots r=some R/\(R.bg=true\/n<=R.qJ)
 | .sub r _ n _ _ _=>∃R,Z.roots r=some R/\(R.bg=true\/n<=R.qJ)
 | .sel r _ n q _ _=>(∃R,Z.roots r=some R/\(R.bg=true\/n<=R.qJ))/\∃R,Z.roots q=some R
 | .app r _ n q=>(∃R,Z.roots r=some R/\(R.bg=true\/n<=R.qJ))/\∃R,Z.roots q=some R
 | .ptr r _ n=>∃R,Z.roots r=some R/\(R.bg=true\/n<=gY R.h)
 | .jE _ _ _ T=>fG Z T
 | .fn _ cs=>∀c∈cs,fG Z c.2.2
 | _=>True
def wO (Z:St):wL->Prop
 | .one a=>qM Z a
 | .Hq l=>∀a∈l,qM Z a
 | .lit _ _ l=>∀a∈l,qM Z a
def aae (cx:Cx) (w:World):Prop:=
 w.os=cx.w0.os/\w.tape=cx.w0.tape/\w.output=cx.w0.output/\cx.w0.heap.size<=w.heap.size/\
 (∀b,b<cx.w0.heap.size->(∀j pi,cx.par j=some pi->b∉pi.bl)->hp w b=hp cx.w0 b)/\
 (∀j pi b o n,cx.par j=some pi->pi.base=some (b,o,n)->iE (hp cx.w0) (hp w) b o n)
def mine (cx:Cx) (w:World) (b:Nat):Prop:=b<w.heap.size/\(cx.w0.heap.size<=b\/∃j pi,cx.par j=some pi/\b∈pi.bl)
structure uy (cx:Cx) (Z:St) (J:dP) (F:List Nat) (w:World) (r:Nat) (R:Root):Prop where
 ow:bB Z R->Ow (hp w) R.own (jc cx Z J F w R.tags) R.k R.x (J.hdr r) (J.fo r)
 len:(J.hdr r).length=R.k.size
 mem:∀b o,dY J R r=some (b,o)->Cells (hp w) b o (J.hdr r)/\∃arr e lo hi,hp w b=some (.cells arr e (lo,hi))/\zY arr.size lo hi/\o+R.k.size<=arr.size/\(∀t,R.kind=.var t->e=t)
 nd:(blk J R r).Nodup
 mine:∀b∈blk J R r,Ow.mine cx w b
structure Rel (cx:Cx) (Z:St) (J:dP) (F:List Nat) (a:Act) (w:World):Prop where
 defs:a.defers=[]
 sz:cx.nt<=a.tmps.size
 mE:∀j pi b o n,cx.par j=some pi->pi.base=some (b,o,n)->∃R,aQ Z (aA j) R/\R.kind=.par/\J.loc (aA j)=(b,o)/\R.k.size=n
 BX:∀r R,aQ Z r R->R.kind=.par->∃j pi n,r=aA j/\cx.par j=some pi/\pi.base=some ((J.loc r).1,(J.loc r).2,n)
 slots:∀s,jG cx Z J F w (Z.slots s) (a.tmps.getD s undef)
 rD:∀s,wO Z (Z.slots s)
 roots:∀r R,aQ Z r R->uy cx Z J F w r R
 dG:∀r R,Z.roots r=some R->fG Z R.tags/\gy r=false/\(∀n,(r,n)∉R.tags)
 EK:∀r R r' R',aQ Z r R->aQ Z r' R'->r≠r'->∀b∈blk J R r,b∉blk J R' r'
 fl:∀b∈F,mine cx w b
 xK:F.Nodup
 iY:∀r R,aQ Z r R->∀b∈blk J R r,b∉F
 frame:aae cx w
 uf:∀j pi,cx.par j=some pi->pi.kp=true->∃R,Z.roots (aA j)=some R/\(R.bg=false->∀b∈pi.bl,¬mD cx b->
  (∃e,qm (hp cx.w0) b=some e/\(e∈R.w\/e∈R.ew))\/(hp w b=hp cx.w0 b/\b∉F/\∀q Q,aQ Z q Q->b∈blk J Q q->q=aA j))
 oI:(∀j pi,cx.par j=some pi->∀b∈pi.bl,b<cx.w0.heap.size)/\(∀b,Fr.free b->b<cx.w0.heap.size/\∀j pi,cx.par j=some pi->b∉pi.bl)/\∀b,Fr.free b->hp cx.w0 b=Fr.obj b
 vJ:∀j p ts v,cx.ptrs j p ts v->(∃b o,v=.pointer (some ⟨b,o,none⟩))/\∃R,Z.roots (aA j)=some R/\((∀t∈ts,t∉R.eh)->bN cx Z J F w (.ptr (aA j) p 0) v)
 vK:∀j v,cx.refs j v->(∃R,Z.roots (aA j)=some R)/\bN cx Z J F w (.ref (aA j) 0) v
theorem Rel.Qz {cx:Cx} {Z:St} {J:dP} {F:List Nat} {a:Act} {w:World} (H:Rel cx Z J F a w) {b:Nat} (hm:mine cx w b):¬Fr.free b:=by
 intro hf
 obtain ⟨h1,h2⟩:=H.oI.2.1 b hf
 rcases hm.2 with h | ⟨j,pi,h3,h4⟩
 ·omega
 ·exact h2 j pi h3 h4
theorem Rel.fixed {cx:Cx} {Z:St} {J:dP} {F:List Nat} {a:Act} {w:World} (H:Rel cx Z J F a w) {b:Nat} (hf:Fr.free b):hp w b=Fr.obj b:=by
 obtain ⟨h1,h2⟩:=H.oI.2.1 b hf
 rw [H.frame.2.2.2.2.1 b h1 h2]
 exact H.oI.2.2 b hf
theorem Rel.Po {cx:Cx} {Z:St} {J:dP} {F:List Nat} {a:Act} {w:World} (H:Rel cx Z J F a w) {b:Nat} {t:TypeId} (hm:mine cx w b) (h:vo (hp w) b t):qm (hp w) b=some t:=h.resolve_right (H.Qz hm)
theorem lV {A:Type} (l:List A):gY l=l.length:=by induction l <;> simp_all [gY]
theorem aM {n:Nat} {l:List Nat}:az n l=true↔n∈l:=by
 induction l with
 | nil=>simp [az]
 | cons m l ih=>
  simp only [az,anq]
  cases h:Nat.beq n m with
  | true=>simp [ani h]
  | false=>simp [ih,aou h]
theorem aW {n:Nat} {l:List Nat}:az n l=false↔n∉l:=by rw [<-aM]; simp
theorem KT (a l:List Nat) {n:Nat} (h:n<=gY l):since (a++l) n=a++since l n:=by
 unfold since
 rw [lV] at h
 simp only [lV,anm]
 rw [List.take_append,aoW (by omega)]
 congr 2
 omega
theorem o7 {a l:List Nat} {n:Nat} {tys:List Nat} (h:n<=gY l):clean (a++l) n tys=true↔(∀t∈a,t∉tys)/\clean l n tys=true:=by
 unfold clean
 rw [KT a l h,List.all_append,ank,anu]
 simp [aW]
theorem LG {Z:St} {tys:List TypeId} {t:Tag} {T:List Tag}:bD Z tys (t :: T)=true↔(gy t.1=true\/∃R,Z.roots t.1=some R/\R.bg=false/\clean R.w t.2 tys=true)/\bD Z tys T=true:=by
 obtain ⟨r,n⟩:=t
 simp only [bD,ank]
 cases he:gy r with
 | true=>simp
 | false=>
  simp only [an3,anh,false_or]
  cases hr:Z.roots r with
  | none=>simp
  | some R=>simp
theorem oo {Z:St} {tys:List TypeId} {T:List Tag}:bD Z tys T=true↔∀t∈T,gy t.1=true\/∃R,Z.roots t.1=some R/\R.bg=false/\clean R.w t.2 tys=true:=by
 induction T with
 | nil=>simp [bD]
 | cons t T ih=>rw [LG,ih]; simp
def Views (cx:Cx) (Z:St) (J:dP) (F:List Nat) (w:World) (Z':St) (J':dP) (F':List Nat) (w':World):Prop:=
 ∀T tys,fG Z T->bD Z' tys T=true->bD Z tys T=true/\
  (∀b,jc cx Z J F w T b->((∃t∈tys,vo (hp w) b t)\/∀t∈T,gy t.1=true)->jc cx Z' J' F' w' T b/\hp w' b=hp w b)/\
  ∀b,GH Z J F w T b->((∃t∈tys,vo (hp w) b t)/\¬mD cx b\/∀t∈T,gy t.1=true)->GH Z' J' F' w' T b/\hp w' b=hp w b
theorem Views.vw {cx:Cx} {Z Z':St} {J J':dP} {F F':List Nat} {w w':World} (H:Views cx Z J F w Z' J' F' w') {T:List Tag} {tys:List TypeId} (hw:fG Z T) (hc:bD Z' tys T=true)
  {k:K} {x:El k} {cs:List Value} (hk:∀t∈k.tys,t∈tys) (h:Vw (hp w) (jc cx Z J F w T) k x cs):Vw (hp w') (jc cx Z' J' F' w' T) k x cs:=by
 obtain ⟨_,h2,_⟩:=H T tys hw hc
 exact gH (fun b hb=>(h2 b hb.1 (.inl hb.2)).2) (fun b hb=>(h2 b hb.1 (.inl hb.2)).1) (E8 tys hk h)
theorem Views.ro {cx:Cx} {Z Z':St} {J J':dP} {F F':List Nat} {w w':World} (H:Views cx Z J F w Z' J' F' w') {bt:TypeId} {k:K} {x:El k} {T:List Tag} {v:Value} (hw:fG Z T)
  (h:GX cx Z J F w bt k x T v):GX cx Z' J' F' w' bt k x T v:=by
 refine ⟨h.1,fun hc=>?_⟩
 obtain ⟨h1,_,h2⟩:=H T _ hw hc
 obtain ⟨b,o,cs,e,hcs,hv,hok,hb⟩:=h.2 h1
 have hb':GH Z' J' F' w' T b/\hp w' b=hp w b:=h2 b hok (by
  rcases hb with ⟨_,hb⟩ | hb
  ·exact .inr hb
  ·exact .inl ⟨⟨bt,by simp,hb.1⟩,hb.2⟩)
 exact ⟨b,o,cs,e,hcs.congr hb'.2,H.vw hw hc (fun t ht=>by simp [ht]) hv,hb'.1,hb.imp id (fun h=>⟨FT hb'.2 h.1,h.2⟩)⟩
theorem Views.caps {cx:Cx} {Z Z':St} {J J':dP} {F F':List Nat} {w w':World} (H:Views cx Z J F w Z' J' F' w') :
  ∀{cs:List (TypeId×Dat×List Tag)} {vs:List Value},(∀c∈cs,fG Z c.2.2)->lD cx Z J F w cs vs->lD cx Z' J' F' w' cs vs
 | [],[],_,h=>h
 | c :: cs,v :: vs,hw,h=>⟨H.ro (hw c (by simp)) h.1,H.caps (fun c hc=>hw c (by simp [hc])) h.2⟩
 | [],_ :: _,_,h=>h.elim
 | _ :: _,[],_,h=>h.elim
theorem qI {cx:Cx} {Z Z':St} {J J':dP} {F F':List Nat} {w w':World} (H:Views cx Z J F w Z' J' F' w') {R:Root} (hw:fG Z R.tags) (h:bB Z' R):bB Z R:=
 ⟨h.1,(H R.tags R.z8 hw h.2).1⟩
end
end Go.Proofs.YtailcbngagacaaaGreat.Ow

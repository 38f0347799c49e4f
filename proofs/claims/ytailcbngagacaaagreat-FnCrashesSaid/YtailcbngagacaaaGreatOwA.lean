/- A verified reading of translated code, part A of 7. No condition. -/
import Derived.Calls
import Derived.Orders
import Derived.Laws.Cells
import Derived.Laws.IdiomCopy
import Derived.Laws.Entries
import Derived.ChangeKeysEq
import Derived.WalkKit
set_option linter.unusedSectionVars false
set_option linter.unusedVariables false
set_option linter.unusedSimpArgs false
namespace Go.Proofs.YtailcbngagacaaaGreat.Ow
open Go
abbrev au := @Option.some.injEq
abbrev aL := @Option.bind_some
abbrev bB := @List.mem_append_right
abbrev bJ := @Bool.false_eq_true
abbrev bC := @Nat.eq_of_beq_eq_true
abbrev bK := @List.mem_append_left
abbrev bg := @Bool.and_eq_true
abbrev cK := @List.nodup_append
abbrev bV := @List.length_append
abbrev bW := @List.mem_append
abbrev eD := @Int.toNat_natCast
abbrev bS := @Prod.mk.injEq
abbrev bT := @List.mem_cons
abbrev ig := @List.getD_eq_getElem?_getD
abbrev jd := @List.getElem?_eq_getElem
abbrev eH := @List.all_eq_true
abbrev bN := @Nat.le_refl
abbrev eF := @List.mem_filter
abbrev fU := @Result.andThen_ok
abbrev gI := @List.mem_singleton
abbrev jN := @List.length_singleton
abbrev gD := @List.append_assoc
abbrev kN := @Classical.byContradiction
abbrev gY := @List.length_cons
abbrev jD := @List.mem_cons_of_mem
abbrev dO := @Sem.run_bind
abbrev g_ := @Int.ofNat_lt
abbrev jc := @Bool.not_true
abbrev jY := @List.getElem_mem
abbrev h_ := @List.append_nil
abbrev fA := @Sem.run_pure
abbrev kD := @Nat.mul_le_mul_right
abbrev jE := @List.mem_cons_self
abbrev jg := @List.nodup_cons
abbrev fT := @Nat.zero_le
abbrev j4 := @Option.some.inj
abbrev fI := @List.mem_map
abbrev jZ := @List.mem_flatMap
abbrev mI := @Bool.not_false
abbrev kQ := @List.flatMap_cons
abbrev qO := @List.getElem?_cons_zero
abbrev qo := @List.mem_of_getElem?
abbrev kX := @List.cons_append
abbrev rR := @List.nil_append
abbrev om := @Nat.zero_add
abbrev qm := @List.getElem?_eq_some_iff
abbrev gJ := @cond_true
abbrev oU := @Option.map_some
abbrev Gc := @Array.getD_eq_getD_getElem?
abbrev kg := @cond_false
abbrev mJ := @List.nodup_nil
abbrev xR := @Nat.lt_of_lt_of_le
abbrev Mg := @List.mem_of_mem_take
abbrev lC := @Bool.not_eq_true'
abbrev qK := @Addr.mk.injEq
abbrev eX := @and_true
abbrev lV := @List.flatten_cons
abbrev Bv := @List.flatten_nil
abbrev sZ := @List.mem_iff_getElem
abbrev u6 := @Array.ext'
abbrev Mk := @Nat.le_of_ble_eq_true
abbrev a_ := @if_true
abbrev bF := @if_false
abbrev lD := @List.map_cons
abbrev aj := @if_pos
abbrev tq := @Option.getD_some
abbrev aA := @if_neg
abbrev nZ := @Bool.or_eq_true
abbrev sW := @List.eq_nil_of_length_eq_zero
abbrev rQ := @List.map_append
abbrev P6 := @List.Sublist.append_left
abbrev Qb := @List.pairwise_append
abbrev OC := @Array.length_toList
abbrev AL := @Bool.or_eq_false_iff
abbrev Gd := @Bool.false_or
abbrev wR := @List.not_mem_nil
abbrev Ml := @Nat.ne_of_beq_eq_false
abbrev lW := @Nat.le_trans
abbrev qP := @List.length_filter_le
abbrev bQ := @decide_true
abbrev oQ := @List.length_map
abbrev y7 := @List.filter_append
abbrev gH := @decide_eq_true
abbrev BA := @List.mem_flatten
abbrev LZ := @List.ext_getElem
abbrev vo := @List.Perm.append_left
abbrev sU := @List.Perm.append_right
abbrev BB := @List.perm_append_comm
abbrev DZ := @List.getElem?_map
abbrev L_ := @List.getElem?_range
abbrev y9 := @List.getElem?_append_left
abbrev xQ := @List.getElem?_append_right
abbrev nM := @Nat.add_assoc
abbrev sV := @List.drop_drop
abbrev HV := @List.drop_eq_getElem_cons
abbrev BC := @List.take_append_drop
abbrev iR := @Nat.add_mul
abbrev m_ := @Nat.one_mul
abbrev uE := @List.getElem?_eq_none
abbrev iy := @run_underlying
abbrev pK := @Nat.add_zero
abbrev OB := @Array.getElem?_modify
abbrev U4 := @Array.getElem?_setIfInBounds_self_of_lt
abbrev U3 := @Array.getElem?_setIfInBounds_ne
abbrev BD := @List.take_of_length_le
abbrev mZ := @List.length_take
abbrev f_ := @decide_eq_false
abbrev H6 := @List.pairwise_iff_getElem
abbrev Xg := @List.mem_or_eq_of_mem_set
abbrev dH := @decide_eq_true_eq
abbrev yM := @Bool.true_and
abbrev Bo := @Int.le_refl
abbrev P8 := @List.drop_suffix
abbrev wQ := @List.length_drop
abbrev mY := @List.length_nil
abbrev DT := @Int.tdiv_eq_ediv_of_nonneg
abbrev Bp := @Int.tmod_eq_emod_of_nonneg
abbrev Bn := @Int.eq_ofNat_of_zero_le
abbrev y8 := @List.filter_map
abbrev Mf := @List.map_map
abbrev pJ := @Int.lt_irrefl
abbrev d_ := @decide_false
abbrev rT := @List.take_length
abbrev DY := @List.drop_zero
abbrev P9 := @List.filter_cons
abbrev qM := @Bool.false_ne_true
abbrev P7 := @List.drop_length
abbrev Mh := @List.take_succ_eq_append_getElem
abbrev L6 := @List.flatMap_append
abbrev Bu := @List.flatMap_nil
abbrev Qa := @List.length_replicate
abbrev Mc := @List.getElem?_take_of_lt
abbrev Bw := @List.getElem?_drop
abbrev Me := @List.mapM_cons
abbrev jw := @List.cons.injEq
abbrev H7 := @Nat.sub_self
abbrev wD := @Array.getElem?_toList
abbrev DX := @List.drop_eq_nil_of_le
abbrev H8 := @Option.bind_eq_some_iff
abbrev U2 := @Array.eq_empty_of_size_eq_zero
abbrev HZ := @List.flatten_append
abbrev Ma := @List.getElem?_take
abbrev Bz := @List.getElem_append_left
abbrev Md := @List.getElem_append_right
abbrev Uk := @run_firstCells_none
abbrev De := @run_firstCells_some
abbrev HY := @List.ext_getElem?
abbrev D5 := @List.size_toArray
abbrev OA := @Array.getElem?_append_left
abbrev wE := @Array.toList_map
abbrev BF := @List.zip_cons_cons
abbrev Xe := @List.getElem?_cons_succ
abbrev Q6 := @decide_eq_decide
abbrev OD := @ByteArray.toList_eq
abbrev D6 := @Option.getD_none
abbrev ou := @Value.slice.injEq
abbrev P_ := @List.length_pos_iff
abbrev Xf := @List.getLastD_eq_getLast?
section
open Go
inductive K where
 | int (k:IntKind)
 | bool
 | str
 | sl (e:TypeId) (k:K)
 | unit
 | pair (a b:K)
 | st (f:K)
 | gap (n:Nat)
 | id (e:TypeId)
 deriving Inhabited
abbrev El:K->Type
 | .int _=>Int
 | .bool=>Bool
 | .str=>List Int
 | .sl _ k=>List (El k)
 | .unit=>Unit
 | .pair a b=>El a×El b
 | .st f=>El f
 | .gap _=>Unit
 | .id _=>Nat
def K.size:K->Nat
 | .int _ | .bool | .str | .sl _ _ | .id _=>1
 | .unit=>0
 | .pair a b=>a.size+b.size
 | .st f=>f.size
 | .gap n=>n
def K.zero:(k:K)->El k
 | .int _=>(0:Int)
 | .bool=>false
 | .str=>([]:List Int)
 | .sl _ _=>[]
 | .unit=>()
 | .pair a b=>(a.zero,b.zero)
 | .st f=>f.zero
 | .gap _=>()
 | .id _=>(0:Nat)
def uN:IntKind->IntKind->Bool
 | .i8, .i8 | .i16, .i16 | .i32, .i32 | .i64, .i64 | .u8, .u8 | .u16, .u16 | .u32, .u32 | .u64, .u64=>true
 | _,_=>false
def K.beq:K->K->Bool
 | .int a, .int b=>uN a b
 | .bool, .bool=>true
 | .str, .str=>true
 | .sl e a, .sl f b=>Nat.beq e f && a.beq b
 | .unit, .unit=>true
 | .pair a b, .pair c d=>a.beq c && b.beq d
 | .st a, .st b=>a.beq b
 | .gap n, .gap m=>Nat.beq n m
 | .id e, .id f=>Nat.beq e f
 | _,_=>false
theorem Jh {a b:IntKind} (h:uN a b=true):a=b:=by cases a <;> cases b <;> simp_all [uN]
theorem K.eq_of_beq:∀{a b:K},a.beq b=true->a=b:=by
 intro a
 induction a with
 | int k=>intro b h; cases b <;> simp_all [K.beq]; exact Jh h
 | sl e k ih=>intro b h; cases b <;> simp_all [K.beq]; exact ih h.2
 | pair a b iha ihb=>intro c h; cases c <;> simp_all [K.beq]; exact ⟨iha h.1,ihb h.2⟩
 | st f ih=>intro b h; cases b <;> simp_all [K.beq]; exact ih h
 | gap n=>intro b h; cases b <;> simp_all [K.beq]
 | id e=>intro b h; cases b <;> simp_all [K.beq]
 | _=>intro b h; cases b <;> simp_all [K.beq]
def K.like:K->K->Bool
 | .gap n,k=>Nat.beq n k.size
 | .pair a b, .pair c d=>a.like c && b.like d
 | .st a, .st b=>a.like b
 | a,b=>a.beq b
def bU (a b:K) (x:El a):Option (El b):=if h:a.beq b=true then some (K.eq_of_beq h▸x) else none
def K.hole:K->K
 | .sl _ _=>.gap 1
 | .pair a b=>.pair a.hole b.hole
 | .st f=>.st f.hole
 | k=>k
def p_:(k:K)->El k->El k.hole
 | .sl _ _,_=>()
 | .pair a b,x=>(p_ a x.1,p_ b x.2)
 | .st f,x=>p_ f x
 | .int _,x=>x
 | .bool,x=>x
 | .str,x=>x
 | .unit,_=>()
 | .gap _,_=>()
 | .id _,x=>x
def K.tys:K->List TypeId
 | .sl e k=>e :: k.tys
 | .pair a b=>a.tys++b.tys
 | .st f=>f.tys
 | _=>[]
def K.flat:K->Bool
 | .sl _ _ | .gap _=>false
 | .pair a b=>a.flat && b.flat
 | .st f=>f.flat
 | _=>true
def Cont:List K->Type
 | []=>Unit
 | k :: ks=>El k×Cont ks
def Cont.app:(ks ls:List K)->Cont ks->Cont ls->Cont (ks++ls)
 | [],_,_,d=>d
 | _ :: ks,ls,c,d=>(c.1,Cont.app ks ls c.2 d)
inductive Stp where
 | aZ (n:Nat)
 | idx (i:Int)
abbrev Dat:=(k:K)×El k
def oI (d:Dat):Dat:=⟨d.1.hole,p_ d.1 d.2⟩
def aS:Nat->(c:K)->El c->Option Dat
 | 0, .pair a _,x=>some ⟨a,x.1⟩
 | n+1, .pair _ b,x=>aS n b x.2
 | _,_,_=>none
def aB:List Stp->(k:K)->El k->Option Dat
 | [],k,x=>some ⟨k,x⟩
 | .aZ n :: p, .st c,x=>match aS n c x with
  | some d=>aB p d.1 d.2
  | none=>none
 | .idx i :: p, .sl _ k,xs=>aB p k ((show List (El k) from xs).getD i.toNat k.zero)
 | _,_,_=>none
def dF:Nat->(c:K)->El c->Dat->Option Dat
 | 0, .pair _ b,x,d=>some ⟨.pair d.1 b,(d.2,x.2)⟩
 | n+1, .pair a b,x,d=>match dF n b x.2 d with
  | some z=>some ⟨.pair a z.1,(x.1,z.2)⟩
  | none=>none
 | _,_,_,_=>none
def cz:List Stp->(k:K)->El k->Dat->Option Dat
 | [],_,_,d=>some d
 | .aZ n :: p, .st c,x,d=>match aS n c x with
  | some s=>match cz p s.1 s.2 d with
   | some t=>match dF n c x t with
    | some z=>some ⟨.st z.1,z.2⟩
    | none=>none
   | none=>none
  | none=>none
 | .idx i :: p, .sl e k,xs,d=>match cz p k ((show List (El k) from xs).getD i.toNat k.zero) d with
  | some t=>match bU t.1 k t.2 with
   | some y=>some ⟨.sl e k,(show List (El k) from xs).set i.toNat y⟩
   | none=>none
  | none=>none
 | _,_,_,_=>none
def Stp.kL:Stp->Bool
 | .aZ _=>true
 | .idx _=>false
def az:List Stp->K->List TypeId
 | .aZ n :: p, .st c=>match lH n c with
  | some k=>az p k
  | none=>[]
 | .idx _ :: p, .sl e k=>e :: az p k
 | _,_=>[]
where lH:Nat->K->Option K
 | 0, .pair a _=>some a
 | n+1, .pair _ b=>lH n b
 | _,_=>none
abbrev Tag:=Nat×Nat
inductive AV where
 | undef
 | val (k:K) (x:El k) (tags:List Tag)
 | fG
 | ref (r g:Nat)
 | dZ (r:Nat) (p:List Stp) (v:Nat)
 | ptr (r:Nat) (p:List Stp) (h:Nat)
 | fQ (bt:TypeId) (k:K) (x:El k) (tags:List Tag)
 | kG
 | lZ (r g:Nat) (k:K) (p:List Stp)
 | pz (e:Bool)
 | part (r g lo hi sz:Nat)
 | nI (r:Nat) (p:List Stp) (v m:Nat)
 | app (r:Nat) (p:List Stp) (v q:Nat)
 | sub (r:Nat) (p:List Stp) (v lo hi sz:Nat)
 | sel (r:Nat) (p:List Stp) (v q a b:Nat)
 | fn (f:Nat) (caps:List (TypeId×Dat×List Tag))
inductive gM where
 | one (a:AV)
 | mH (l:List AV)
 | lit (t:TypeId) (c:K) (l:List AV)
inductive zl where
 | anon
 | var (t:TypeId)
 | par
 | dead
structure Root where
 k:K
 x:El k
 own:List TypeId
 tags:List Tag
 w:List TypeId
 h:List TypeId
 g:Nat
 kind:zl
 fixed:Bool
 keep:Bool
 ew:List TypeId:=[]
 eh:List TypeId:=[]
def Root.bY (R:Root):Bool:=match R.kind with
 | .dead=>true
 | _=>false
def Root.isVar (R:Root):Bool:=match R.kind with
 | .var _=>true
 | _=>false
def iE:Root:={ k:=.unit,x:=(),own:=[],tags:=[],w:=[],h:=[],g:=0,kind:=.dead,fixed:=true,keep:=true }
structure St where
 slots:Nat->gM
 roots:Nat->Option Root
inductive Loc where
 | s (n:Nat)
 | r (n:Nat)
inductive Wr where
 | s (n:Nat) (a:gM)
 | r (n:Nat) (o:Option Root)
def Loc.beq:Loc->Loc->Bool
 | .s a, .s b=>Nat.beq a b
 | .r a, .r b=>Nat.beq a b
 | _,_=>false
def Wr.loc:Wr->Loc
 | .s n _=>.s n
 | .r n _=>.r n
def upd {J:Type} (f:Nat->J) (n:Nat) (v:J):Nat->J:=fun m=>bif Nat.beq m n then v else f m
def Wr.app (w:Wr) (Z:St):St:=match w with
 | .s n a=>{ Z with slots:=upd Z.slots n a }
 | .r n (some R)=>{ Z with roots:=upd Z.roots n (some R) }
 | .r n none=>{ Z with roots:=upd Z.roots n (some iE) }
def aC:List Wr->St->St
 | [],Z=>Z
 | w :: ws,Z=>aC ws (w.app Z)
inductive Prog (J:Type):Type 1 where
 | ret (a:J)
 | fail
 | slot (n:Nat) (k:gM->Prog J)
 | root (r:Nat) (k:Option Root->Prog J)
 | eY (c:Prop) (d:Decidable c) (k:Prog J)
 | br (c:Bool) (t e:Prog J)
 | opt (β:Type) (o:Option β) (k:β->Prog J)
def Prog.bind {J β:Type}:Prog J->(J->Prog β)->Prog β
 | .ret a,f=>f a
 | .fail,_=>.fail
 | .slot n k,f=>.slot n fun v=>(k v).bind f
 | .root r k,f=>.root r fun v=>(k v).bind f
 | .eY c d k,f=>.eY c d (k.bind f)
 | .br c t e,f=>.br c (t.bind f) (e.bind f)
 | .opt β o k,f=>.opt β o fun b=>(k b).bind f
def Prog.run {J R:Type}:Prog J->St->(J->Option R)->Option R
 | .ret a,_,K=>K a
 | .fail,_,_=>none
 | .slot n k,Z,K=>(k (Z.slots n)).run Z K
 | .root r k,Z,K=>(k (Z.roots r)).run Z K
 | .eY c d k,Z,K=>@ite _ c d (k.run Z K) none
 | .br c t e,Z,K=>if c=true then t.run Z K else e.run Z K
 | .opt _ o k,Z,K=>o.bind fun b=>(k b).run Z K
def Prog.uY {J R:Type}:Prog J->St->List Loc->(J->List Loc->Option R)->Option R
 | .ret a,_,l,K=>K a l
 | .fail,_,_,_=>none
 | .slot n k,Z,l,K=>(k (Z.slots n)).uY Z (.s n :: l) K
 | .root r k,Z,l,K=>(k (Z.roots r)).uY Z (.r r :: l) K
 | .eY c d k,Z,l,K=>@ite _ c d (k.uY Z l K) none
 | .br c t e,Z,l,K=>if c=true then t.uY Z l K else e.uY Z l K
 | .opt _ o k,Z,l,K=>o.bind fun b=>(k b).uY Z l K
def Af:List Wr->Nat->Option gM
 | [],_=>none
 | .s m a :: ws,n=>match Af ws n with
  | some b=>some b
  | none=>bif Nat.beq n m then some a else none
 | .r _ _ :: ws,n=>Af ws n
def CS:List Wr->Nat->Option (Option Root)
 | [],_=>none
 | .r m o :: ws,n=>match CS ws n with
  | some b=>some b
  | none=>bif Nat.beq n m then some (some (o.getD iE)) else none
 | .s _ _ :: ws,n=>CS ws n
def Prog.over {J:Type} (ws:List Wr):Prog J->Prog J
 | .ret a=>.ret a
 | .fail=>.fail
 | .slot n k=>match Af ws n with
  | some v=>(k v).over ws
  | none=>.slot n fun v=>(k v).over ws
 | .root r k=>match CS ws r with
  | some v=>(k v).over ws
  | none=>.root r fun v=>(k v).over ws
 | .eY c d k=>.eY c d (k.over ws)
 | .br c t e=>.br c (t.over ws) (e.over ws)
 | .opt β o k=>.opt β o fun b=>(k b).over ws
def Oe (p q:Prog (List Wr)):Prog (List Wr):=p.bind fun ws=>(q.over ws).bind fun vs=>.ret (ws++vs)
end
section
open Go
def aa (n:Nat):List Nat->Bool
 | []=>false
 | m :: l=>bif Nat.beq n m then true else aa n l
def iK (l m:List Nat):Bool:=l.all fun n=>aa n m
def dS {J:Type}:List J->Nat
 | []=>0
 | _ :: l=>dS l+1
def ah (j:Nat):Nat:=4 * j
def jA (j:Nat):Nat:=4 * j+1
def aG (d c:Nat):Nat:=4 * (8 * d+c)+2
def gZ (r:Nat):Bool:=Nat.beq (r % 4) 1
def since (l:List Nat) (n:Nat):List Nat:=l.take (dS l - n)
def clean (l:List Nat) (n:Nat) (tys:List Nat):Bool:=(since l n).all fun t=>!aa t tys
def bytesOf (s:ByteArray):List Int:=s.data.toList.map fun b=>(b.toNat:Int)
inductive aV where
 | val (k:K) (bE:List Nat)
 | ro (k:K)
 | rw (k:K) (ow wt ht:List TypeId)
 | into (j:Nat) (p:List (Option Nat))
 | bR (k:K) (ow wt:List TypeId)
 | own (k:K) (ow:List TypeId)
 | fn (f:Nat) (ks:List K)
inductive gN where
 | val (k:K) (exts bE:List Nat)
 | own (k:K) (ow:List TypeId) (exts bE:List Nat)
 | ptr (t:TypeId) (k:K) (ow:List TypeId) (exts:List Nat)
 | into (j:Nat) (p:List (Option Nat))
def aV.kin:aV->List K
 | .val k _ | .ro k | .rw k _ _ _ | .bR k _ _ | .own k _=>[k]
 | .into _ p=>p.filterMap fun | none=>some (.int .i64) | some _=>none
 | .fn _ ks=>ks
def aV.gq:aV->List K
 | .rw k _ _ _ | .bR k _ _=>[k]
 | _=>[]
def gN.eO:gN->List K
 | .val k _ _ | .own k _ _ _ | .ptr _ k _ _=>[k]
 | .into _ _=>[.int .i64]
def kin:List aV->List K
 | []=>[]
 | p :: ps=>p.kin++kin ps
def gq:List aV->List K
 | []=>[]
 | p :: ps=>p.gq++gq ps
def eO:List gN->List K
 | []=>[]
 | p :: ps=>p.eO++eO ps
structure Entry where
 f:FuncId
 ps:List aV
 rs:List gN
 F:Nat->Cont (kin ps)->Option (Cont (eO rs++gq ps))
structure bH where
 ty:TypeId->Option K
 bytes:TypeId->Nat
 ptr:TypeId->Bool
 eq:TypeId->Bool
 ids:Bool:=false
structure Hint where
 nt:Nat
 ahl:List Nat
 loops:List (Nat×List Nat×List Nat)
 less:List (Nat×List TypeId)
 calls:List (Nat×Option Nat×Entry)
 fP:List (Nat×K×List TypeId×List TypeId)
 wide:List (Nat×List Nat):=[]
 parts:List Nat:=[]
 apps:List Nat:=[]
section
variable {J:Type}
def rY:List Tag->List TypeId->Prog J->Prog J
 | [],_,k=>k
 | (r,n) :: ts,tys,k=>bif gZ r then rY ts tys k else .root r fun
  | some R=>bif !R.bY && clean R.w n tys then rY ts tys k else .fail
  | none=>.fail
def bu (own:List TypeId):K->List TypeId
 | .sl e k=>bif aa e own then bu own k else e :: k.tys
 | .pair a b=>bu own a++bu own b
 | .st f=>bu own f
 | _=>[]
def Root.qJ (R:Root):List TypeId:=bu R.own R.k
def jo (r:Nat) (k:Root->Prog J):Prog J:=.root r fun
 | some R=>bif R.bY then .fail else rY R.tags R.qJ (k R)
 | none=>.fail
def Root.dL (R:Root):Nat:=dS R.w+dS R.h
def Root.out (R:Root) (r:Nat) (k:K):List Tag:=bif k.flat then [] else bif k.tys.any (fun t=>aa t R.own) then (r,dS R.w) :: R.tags else R.tags
def kT (r:Nat) (k:Prog J):Prog J:=.root r fun
 | none=>k
 | some _=>.fail
def Fe:IntKind->Int->Bool
 | .u8,n=>Int.blt n 256 && Int.ble 0 n
 | _,_=>true
where
 Int.blt (a b:Int):Bool:=decide (a<b)
 Int.ble (a b:Int):Bool:=decide (a<=b)
def Jt:Value->AV
 | .int k n=>bif Fe k n then .val (.int k) n [] else .undef
 | .bool b=>.val .bool b []
 | .string s=>.val .str (bytesOf s) []
 | .slice none 0 0=>.fG
 | .pointer none=>.kG
 | _=>.undef
def uL (x:Operand) (k:gM->Prog J):Prog J:=match x with
 | .tmp t=>.slot t k
 | .const v=>k (.one (Jt v))
 | .func f=>k (.one (.fn f []))
 | .global _=>.fail
def eP (x:Operand) (k:AV->Prog J):Prog J:=uL x fun
 | .one a=>k a
 | _=>.fail
def qw (a:AV) (k:(kk:K)->El kk->List Tag->Prog J):Prog J:=match a with
 | .val kk x tags=>rY tags kk.tys (k kk x tags)
 | .ref r g=>jo r fun R=>bif Nat.beq R.g g then k R.k R.x (R.out r R.k) else .fail
 | .dZ r p h=>jo r fun R=>bif Nat.beq R.dL h then
   match aB p R.k R.x with
   | some d=>k d.1 d.2 (R.out r d.1)
   | none=>.fail
  else .fail
 | _=>.fail
def asInt (a:AV) (k:IntKind->Int->Prog J):Prog J:=match a with
 | .val (.int ik) n _=>k ik n
 | _=>.fail
def asBool (a:AV) (k:Bool->Prog J):Prog J:=match a with
 | .val .bool b _=>k b
 | _=>.fail
def Wr.eT:Wr->List Nat
 | .r n _=>[n]
 | .s _ _=>[]
def Ei:List Nat->Bool
 | []=>true
 | n :: l=>!aa n l && Ei l
def zB (ws:List Wr) (tags:List Tag):Bool:=tags.all fun t=>!aa t.1 (ws.flatMap Wr.eT)
def sO (ws:List Wr) (tags:List Tag):Bool:=Ei (ws.flatMap Wr.eT) && zB ws tags
structure eU where
 k:K
 x:El k
 own:List TypeId
 tags:List Tag
 ws:List Wr
 keep:Bool
abbrev jM:Nat:=4294967294
def iW:List Stp->K->List TypeId
 | [],_=>[]
 | p,k=>jM :: az p k
def tV (k:K):List TypeId:=match k.tys with
 | []=>[jM]
 | _=>[]
def xh (R:Root) (p:List Stp) (d:Dat):Option Root:=
 match cz p R.k R.x (oI d) with
 | some z=>some { R with k:=z.1,x:=z.2,w:=d.1.tys++R.w,h:=tV d.1++d.1.tys++R.h }
 | none=>none
def sN (want:K) (a:AV) (k:eU->Prog J):Prog J:=match a with
 | .val kk x tags=>rY tags kk.tys (k ⟨kk,x,[],tags,[],false⟩)
 | .fG=>match want with
  | .sl e kk=>k ⟨.sl e kk,[],e :: kk.tys,[],[],false⟩
  | _=>.fail
 | .ref r g=>jo r fun R=>bif Nat.beq R.g g && !R.fixed then k ⟨R.k,R.x,R.own,R.tags,[.r r none],R.keep⟩ else .fail
 | .dZ r p h=>jo r fun R=>bif Nat.beq R.dL h then
   match aB p R.k R.x with
   | some d=>bif p.all Stp.kL && !R.fixed && (!p.isEmpty || R.isVar) then
     match xh R p d with
     | some R'=>k ⟨d.1,d.2,d.1.tys.filter (fun t=>aa t R.own),R.tags,[.r r (some R')],R.keep⟩
     | none=>.fail
    else rY (R.out r d.1) d.1.tys (k ⟨d.1,d.2,[],R.out r d.1,[],false⟩)
   | none=>.fail
  else .fail
 | .part r g lo hi sz=>jo r fun R=>bif Nat.beq R.g g && !R.fixed && Nat.beq lo 0 then match R.k,R.x with
   | .sl e kk,xs=>bif kk.flat && aa e R.own && Nat.beq kk.size sz then k ⟨.sl e kk,(show List (El kk) from xs).take hi,R.own,R.tags,[.r r none],R.keep⟩ else .fail
   | _,_=>.fail
  else .fail
 | _=>.fail
def uQ:List Int->List Int->Bool
 | _,[]=>false
 | [],_ :: _=>true
 | a :: x,b :: y=>decide (a<b) || (decide (a=b) && uQ x y)
def yh:(k:K)->El k->El k->Bool
 | .int _,x,y=>decide ((show Int from x)=y)
 | .bool,x,y=>(show Bool from x) == y
 | .str,x,y=>decide ((show List Int from x)=y)
 | .pair .unit .unit,_,_=>true
 | .pair a .unit,x,y=>yh a x.1 y.1
 | .pair a b,x,y=>yh a x.1 y.1 && yh b x.2 y.2
 | .st f,x,y=>yh f x y
 | _,_,_=>true
def v1 (k:K) (x:El k):gM:=.one (.val k x [])
def NC (op:BinOp) (ik:IntKind) (x y:Int) (k:gM->Prog J):Prog J:=match op with
 | .add=>k (v1 (.int ik) (ik.wrap (x+y)))
 | .sub=>k (v1 (.int ik) (ik.wrap (x - y)))
 | .mul=>k (v1 (.int ik) (ik.wrap (x * y)))
 | .quo=>.eY (y≠0) inferInstance (k (v1 (.int ik) (ik.wrap (x.tdiv y))))
 | .rem=>.eY (y≠0) inferInstance (k (v1 (.int ik) (x.tmod y)))
 | .and=>k (v1 (.int ik) (ik.wrap (BitVec.ofInt ik.bits x &&& BitVec.ofInt ik.bits y).toNat))
 | .or=>k (v1 (.int ik) (ik.wrap (BitVec.ofInt ik.bits x ||| BitVec.ofInt ik.bits y).toNat))
 | .xor=>k (v1 (.int ik) (ik.wrap (BitVec.ofInt ik.bits x ^^^ BitVec.ofInt ik.bits y).toNat))
 | .andNot=>k (v1 (.int ik) (ik.wrap (BitVec.ofInt ik.bits x &&& ~~~ BitVec.ofInt ik.bits y).toNat))
 | .eql=>k (v1 .bool (decide (x=y)))
 | .neq=>k (v1 .bool (!decide (x=y)))
 | .lss=>k (v1 .bool (decide (x<y)))
 | .leq=>k (v1 .bool (decide (x<=y)))
 | .gtr=>k (v1 .bool (decide (x>y)))
 | .geq=>k (v1 .bool (decide (x>=y)))
 | _=>.fail
def UF (op:BinOp) (x y:List Int) (k:gM->Prog J):Prog J:=match op with
 | .add=>.eY (x.length+y.length<=9223372036854775807) inferInstance (k (v1 .str (x++y)))
 | .eql=>k (v1 .bool (decide (x=y)))
 | .neq=>k (v1 .bool (!decide (x=y)))
 | .lss=>k (v1 .bool (uQ x y))
 | .leq=>k (v1 .bool (uQ x y || decide (x=y)))
 | .gtr=>k (v1 .bool (!(uQ x y || decide (x=y))))
 | .geq=>k (v1 .bool (!uQ x y))
 | _=>.fail
def JA (a b:AV):Option Bool:=match a,b with
 | .kG, .kG=>some true
 | .kG, .ptr _ _ _ | .ptr _ _ _, .kG=>some false
 | .kG, .fQ _ _ _ _ | .fQ _ _ _ _, .kG=>some false
 | _,_=>none
def zF (T:bH) (t:TypeId) (op:BinOp) (a b:AV) (k:gM->Prog J):Prog J:=match a,b with
 | .val (.int ik) x _, .val (.int jk) y _=>match op with
  | .shl=>.eY (0<=y) inferInstance (k (v1 (.int ik) (ik.wrap (x * 2 ^ min y.toNat ik.bits))))
  | .shr=>.eY (0<=y) inferInstance (k (v1 (.int ik) (x.fdiv (2 ^ min y.toNat ik.bits))))
  | _=>bif uN ik jk then NC op ik x y k else .fail
 | .val .bool x _, .val .bool y _=>match T.ty t,op with
  | some .bool, .eql=>k (v1 .bool (x == y))
  | some .bool, .neq=>k (v1 .bool (!(x == y)))
  | _,_=>.fail
 | .val .str x _, .val .str y _=>UF op x y k
 | .val (.st c) x _, .val (.st d) y _=>match bU (.st d) (.st c) y with
  | some y'=>bif (c.flat && T.eq t) && (match T.ty t with | some kk=>kk.beq (.st c) | none=>false) then match op with
    | .eql=>k (v1 .bool (yh c x y'))
    | .neq=>k (v1 .bool (!yh c x y'))
    | _=>.fail
   else .fail
  | none=>.fail
 | a,b=>bif T.ptr t then match JA a b,op with
  | some t, .eql=>k (v1 .bool t)
  | some t, .neq=>k (v1 .bool (!t))
  | _,_=>.fail
  else .fail
def aaa:Operand->Bool
 | .const (.slice none 0 0)=>true
 | _=>false
def Z_:BinOp->Bool
 | .eql=>true
 | _=>false
def aaQ (T:bH) (t:TypeId) (a:AV) (k:AV->Prog J):Prog J:=match T.ty t with
 | some (.sl _ _)=>qw a fun kk x _=>match kk,x with
  | .sl _ kk,xs=>k (.pz (show List (El kk) from xs).isEmpty)
  | _,_=>.fail
 | _=>.fail
def QE (T:bH) (t:TypeId) (op:BinOp) (x y:Operand) (k:gM->Prog J):Prog J:=
 bif aaa y && Z_ op then eP x fun a=>aaQ T t a fun v=>k (.one v) else eP x fun a=>eP y fun b=>zF T t op a b k
def UT (op:UnOp) (a:AV) (k:gM->Prog J):Prog J:=match op,a with
 | .neg, .val (.int ik) x _=>k (v1 (.int ik) (ik.wrap (0 - x)))
 | .xor, .val (.int ik) x _=>k (v1 (.int ik) (ik.wrap (BitVec.ofInt ik.bits (if ik.signed then -1 else ik.max) ^^^ BitVec.ofInt ik.bits x).toNat))
 | .not, .val .bool b _=>k (v1 .bool (!b))
 | _,_=>.fail
def bL (k:K) (x:El k) (ow:List TypeId) (tags:List Tag) (kind:zl) (keep:Bool:=false):Root:={ k,x,own:=ow,tags,w:=[],h:=[],g:=0,kind,fixed:=false,keep }
def Root.bt (R:Root):TypeId:=match R.kind with
 | .var t=>t
 | _=>4294967295
def iV (R:Root) (p:List Stp):TypeId:=(az p R.k).getLastD R.bt
def NU (p:List Stp) (R:Root):Bool:=(az p R.k).all fun t=>aa t R.own
def addrOf (a:AV) (rd:Root->Nat->List Stp->Dat->Prog J) (ro:TypeId->Dat->List Tag->Prog J):Prog J:=match a with
 | .ptr r p h=>jo r fun R=>bif clean R.h h (iW p R.k) && NU p R then
   match aB p R.k R.x with
   | some d=>rd R r p d
   | none=>.fail
  else .fail
 | .fQ bt k x tags=>rY tags (bt :: k.tys) (ro bt ⟨k,x⟩ tags)
 | _=>.fail
def yA (T:bH) (dZ:Bool) (t:TypeId) (a:AV) (k:AV->Prog J):Prog J:=
 match T.ty t with
 | none=>.fail
 | some kk=>match a with
  | .lZ r g k0 p=>jo r fun R=>bif Nat.beq R.g g && R.k.beq k0 && p.all Stp.kL then
    match aB p R.k R.x with
    | some d=>bif d.1.beq kk then (bif d.1.flat then k (.val d.1 d.2 []) else k (.dZ r p R.dL)) else .fail
    | none=>.fail
   else .fail
  | a=>addrOf a
   (fun R r p d=>bif d.1.beq kk then (bif dZ && !d.1.flat then k (.dZ r p R.dL) else k (.val d.1 d.2 (R.out r d.1))) else .fail)
   (fun _ d tags=>bif d.1.beq kk then k (.val d.1 d.2 (bif d.1.flat then [] else tags)) else .fail)
def fq (own bad:List TypeId):List TypeId:=own.filter fun t=>!aa t bad
def lM:List Tag->List Tag->List Tag
 | [],m=>m
 | (r,n) :: l,m=>bif m.any fun t=>Nat.beq t.1 r && Nat.beq t.2 n then lM l m else (r,n) :: lM l m
def sj (r:Nat) (l:List Tag):List Tag:=l.filter fun t=>!Nat.beq t.1 r
def eU.bad (tk:eU):List TypeId:=bu tk.own tk.k
def Od (R:Root) (r:Nat) (tags:List Tag) (bad:List TypeId):Bool:=tags.all (fun t=>!Nat.beq t.1 r) || match R.kind with
 | .par=>false
 | .var t=>!aa t bad
 | _=>true
def N7 (R:Root) (r:Nat) (p:List Stp) (d:Dat) (tk:eU):Option (Root×Dat):=
 bif !d.1.flat && p.all Stp.kL && !R.keep && (!p.isEmpty || R.isVar) && tk.tags.all (fun t=>!Nat.beq t.1 r) then
  match xh R p d with
  | some Rg=>match tk.own.filter (fun t=>!aa t R.own && aa t d.1.tys && !aa t Rg.k.tys) with
   | []=>none
   | l=>some ({ Rg with own:=l++R.own },oI d)
  | none=>none
 else none
def storeAt (kk:K) (r:Nat) (p:List Stp) (tk:eU) (R:Root) (d:Dat) (k:List Wr->Prog J):Prog J:=
 bif (d.1.beq kk || (d.1.beq kk.hole && p.all Stp.kL)) && (kk.flat || Od R r tk.tags tk.bad) && (az p R.k).all (fun t=>!aa t tk.bad) then
  match cz p R.k R.x ⟨tk.k,tk.x⟩ with
  | some z=>bif R.keep && !kk.tys.all (fun t=>!aa t R.own || aa t tk.own) then .fail else
   k (tk.ws++[.r r (some { R with
    keep:=R.keep || tk.keep
    k:=z.1,x:=z.2
    own:=fq R.own tk.bad
    tags:=bif kk.flat then R.tags else lM (sj r tk.tags) R.tags
    w:=iV R p :: R.w
    h:=(bif d.1.beq kk then [] else tV kk)++kk.tys++R.h })])
  | none=>.fail
 else .fail
def UD (T:bH) (t:TypeId) (a v:AV) (k:List Wr->Prog J):Prog J:=
 match T.ty t,a with
 | some kk, .ptr r p h=>sN kk v fun tk=>bif tk.k.beq kk && tk.ws.all (fun w=>!w.loc.beq (.r r)) then
   jo r fun R=>bif clean R.h h (iW p R.k) && NU p R && zB tk.ws R.tags then
    match aB p R.k R.x with
    | some d=>match N7 R r p d tk with
     | some q=>rY q.1.tags q.1.qJ (storeAt kk r p tk q.1 q.2 k)
     | none=>storeAt kk r p tk R d k
    | none=>.fail
   else .fail
  else .fail
 | _,_=>.fail
def IC (kk:K) (a:AV) (n:Nat) (k:AV->Prog J):Prog J:=match a with
 | .val (.st c) x tags=>bif (K.st c).beq kk then match aS n c x with
  | some d=>rY tags c.tys (k (.val d.1 d.2 (bif d.1.flat then [] else tags)))
  | none=>.fail
  else .fail
 | .ref r g=>jo r fun R=>bif Nat.beq R.g g && R.k.beq kk then
   match aB [.aZ n] R.k R.x with
   | some d=>bif d.1.flat then k (.val d.1 d.2 []) else k (.dZ r [.aZ n] R.dL)
   | none=>.fail
  else .fail
 | .dZ r p h=>jo r fun R=>bif Nat.beq R.dL h then
   match aB p R.k R.x,aB (p++[.aZ n]) R.k R.x with
   | some d0,some d=>bif !d0.1.beq kk then .fail else bif d.1.flat then k (.val d.1 d.2 []) else k (.dZ r (p++[.aZ n]) R.dL)
   | _,_=>.fail
  else .fail
 | _=>.fail
def M8 (kk:K) (n:Nat):Bool:=match kk with
 | .st c=>(az.lH n c).isSome
 | _=>false
def Fu:List Stp->K->Option K
 | [],k=>some k
 | .aZ n :: p, .st c=>match az.lH n c with
  | some k=>Fu p k
  | none=>none
 | _,_=>none
def MR (a:AV) (kk:K) (yes:Nat->Nat->Prog J) (no:Prog J):Prog J:=match a with
 | .ref r g=>.root r fun
  | some R=>bif R.fixed then (jo r fun R=>bif Nat.beq R.g g && R.k.beq kk then yes r g else .fail) else no
  | none=>no
 | _=>no
def IB (kk:K) (a:AV) (n:Nat) (k:AV->Prog J):Prog J:=match a with
 | .ptr r p h=>.root r fun
  | some R=>match aB p R.k R.x with
   | some d=>bif d.1.like kk && M8 kk n then k (.ptr r (p++[.aZ n]) h) else .fail
   | none=>.fail
  | none=>.fail
 | .fQ bt (.st c) x tags=>bif (K.st c).beq kk then match aS n c x with
  | some d=>rY tags (bt :: c.tys) (k (.fQ bt d.1 d.2 tags))
  | none=>.fail
  else .fail
 | .lZ r g k0 p=>match Fu p k0 with
  | some k1=>bif k1.beq kk && M8 kk n then k (.lZ r g k0 (p++[.aZ n])) else .fail
  | none=>.fail
 | _=>.fail
def aM (i:Int) (n:Nat):Prop:=0<=i/\i<(n:Int)
instance (i:Int) (n:Nat):Decidable (aM i n):=inferInstanceAs (Decidable (_/\_))
def Ji (k0:K) (a:AV) (i:Int) (k:AV->Prog J):Prog J:=match a with
 | .val (.sl e kk) xs tags=>bif (K.sl e kk).beq k0 then rY tags (e :: kk.tys) (.eY (aM i (show List (El kk) from xs).length) inferInstance
   (k (.fQ e kk ((show List (El kk) from xs).getD i.toNat kk.zero) tags))) else .fail
 | .ref r g=>jo r fun R=>bif Nat.beq R.g g then
   match R.k,R.x with
   | .sl e kk,xs=>bif aa e R.own && (K.sl e kk).beq k0 then .eY (aM i (show List (El kk) from xs).length) inferInstance (k (.ptr r [.idx i] (dS R.h))) else .fail
   | _,_=>.fail
  else .fail
 | .dZ r p h=>jo r fun R=>bif Nat.beq R.dL h then
   match aB p R.k R.x with
   | some ⟨.sl e kk,xs⟩=>bif !(K.sl e kk).beq k0 then .fail else bif aa e R.own then .eY (aM i (show List (El kk) from xs).length) inferInstance (k (.ptr r (p++[.idx i]) (dS R.h)))
     else .eY (aM i (show List (El kk) from xs).length) inferInstance (k (.fQ e kk ((show List (El kk) from xs).getD i.toNat kk.zero) (R.out r (.sl e kk))))
   | _=>.fail
  else .fail
 | _=>.fail
structure xE where
 k:K
 x:El k
 bad:List TypeId
 tags:List Tag
 ws:List Wr
 keep:Bool
 all:List Tag
def eU.iP (tk:eU):List Tag:=match tk.bad with
 | []=>[]
 | _=>tk.tags
def BQ:List (Nat×AV)->xE->(xE->Prog J)->Prog J
 | [],b,k=>k b
 | (n,a) :: l,b,k=>match b.k,b.x with
  | .st c,x=>match aS n c x with
   | some d=>sN d.1 a fun tk=>bif tk.k.beq d.1 then
     match dF n c x ⟨tk.k,tk.x⟩ with
     | some z=>BQ l { k:=.st z.1,x:=z.2,bad:=tk.bad++b.bad,tags:=lM (tk.iP) b.tags,ws:=b.ws++tk.ws,keep:=tk.keep || b.keep,all:=tk.tags++b.all } k
     | none=>.fail
    else .fail
   | none=>.fail
  | _,_=>.fail
def xg:List (Nat×Operand)->(List (Nat×AV)->Prog J)->Prog J
 | [],k=>k []
 | (n,x) :: l,k=>eP x fun a=>xg l fun r=>k ((n,a) :: r)
def o8:List Operand->(List AV->Prog J)->Prog J
 | [],k=>k []
 | x :: l,k=>eP x fun a=>o8 l fun r=>k (a :: r)
structure qN (kk:K) where
 xs:List (El kk)
 bad:List TypeId
 tags:List Tag
 ws:List Wr
 keep:Bool
 all:List Tag
def Iw (kk:K):List (Nat×AV)->qN kk->(qN kk->Prog J)->Prog J
 | [],b,k=>k b
 | (n,a) :: l,b,k=>sN kk a fun tk=>match bU tk.k kk tk.x with
  | some y=>bif Nat.beq n (dS b.xs) then Iw kk l { xs:=b.xs++[y],bad:=tk.bad++b.bad,tags:=lM (tk.iP) b.tags,ws:=b.ws++tk.ws,keep:=tk.keep || b.keep,all:=tk.tags++b.all } k else .fail
  | none=>.fail
def J6 (e:TypeId) (kk:K) (a:AV) (k:qN kk->Prog J):Prog J:=match a with
 | .val .str s _=>match bU (.int .u8) kk (0:Int) with
  | some _=>match bU (.sl e (.int .u8)) (.sl e kk) (show List Int from s) with
   | some xs=>k ⟨xs,[],[],[],false,[]⟩
   | none=>.fail
  | none=>.fail
 | .fG=>k ⟨[],[],[],[],false,[]⟩
 | .ref r g=>jo r fun R=>bif Nat.beq R.g g then
   match bU R.k (.sl e kk) R.x with
   | some xs=>bif kk.flat then k ⟨xs,[],[],[],false,[]⟩ else bif R.fixed then .fail else k ⟨xs,bif aa e R.own then bu R.own kk else kk.tys,bif aa e R.own && kk.tys.all (fun t=>aa t R.own) then [] else R.tags,[.r r none],R.keep,R.tags⟩
   | none=>.fail
  else .fail
 | a=>qw a fun k' x tags=>match bU k' (.sl e kk) x with
   | some xs=>k ⟨xs,kk.tys,bif kk.flat then [] else tags,[],false,[]⟩
   | none=>.fail
def Em (T:bH) (d:Nat) (t:TypeId) (a b:AV) (k:List Wr->Prog J):Prog J:=
 match T.ty t with
 | some (.sl e kk)=>J6 e kk b fun s=>bif aa e s.bad then .fail else match a with
  | .fG=>.eY (s.xs.length * T.bytes e<=140737488355328) inferInstance (kT (aG d 0)
    (k (s.ws++[.r (aG d 0) (some (bL (.sl e kk) s.xs (e :: fq kk.tys s.bad) s.tags .anon s.keep)), .s d (.one (.ref (aG d 0) 0))])))
  | .ref r g=>jo r fun R=>bif Nat.beq R.g g && !R.fixed && aa e R.own && !(R.keep && !kk.tys.all (fun t=>!aa t R.own || !aa t s.bad)) && s.ws.all (fun w=>!w.loc.beq (.r r)) && zB s.ws R.tags then
    match bU R.k (.sl e kk) R.x with
    | some xs=>.eY (((show List (El kk) from xs).length+s.xs.length) * T.bytes e<=140737488355328) inferInstance
      (k (s.ws++[.r r (some { R with
        k:=.sl e kk,x:=(show List (El kk) from xs)++s.xs
        own:=fq R.own s.bad
        tags:=lM (sj r s.tags) R.tags
        w:=e :: R.w,h:=jM :: e :: R.h,g:=R.g+1,keep:=R.keep || s.keep }), .s d (.one (.ref r (R.g+1)))]))
    | none=>.fail
   else .fail
  | .dZ r p h=>jo r fun R=>bif Nat.beq R.dL h && p.all Stp.kL && (!p.isEmpty || R.isVar) && !R.fixed && aa e R.own && !(R.keep && !kk.tys.all (fun t=>!aa t R.own || !aa t s.bad)) && s.ws.all (fun w=>!w.loc.beq (.r r)) && zB s.ws R.tags then
    match aB p R.k R.x with
    | some dd=>match bU dd.1 (.sl e kk) dd.2,xh R p dd with
     | some xs,some R'=>.eY (((show List (El kk) from xs).length+s.xs.length) * T.bytes e<=140737488355328) inferInstance (kT (aG d 0)
       (k (s.ws++[.r r (some R'), .r (aG d 0) (some (bL (.sl e kk) ((show List (El kk) from xs)++s.xs)
          (fq ((e :: kk.tys).filter fun t=>aa t R.own) s.bad) (lM s.tags R.tags) .anon (R.keep || s.keep))), .s d (.one (.ref (aG d 0) 0))])))
     | _,_=>.fail
    | none=>.fail
   else .fail
  | _=>.fail
 | _=>.fail
def ownRow (r g:Nat) (k:Root->(e:TypeId)->(kk:K)->List (El kk)->Prog J):Prog J:=jo r fun R=>bif Nat.beq R.g g then match R.k,R.x with
  | .sl e kk,xs=>bif kk.flat && aa e R.own then k R e kk (show List (El kk) from xs) else .fail
  | _,_=>.fail
 else .fail
def acs (k0:K) (r:Nat) (p:List Stp) (n:Nat) (lo hi:Option Int) (k:AV->Prog J):Prog J:=match k0 with
 | .sl e kk=>jo r fun R=>bif Nat.beq R.dL n then match aB p R.k R.x with
   | some dd=>match bU dd.1 (.sl e kk) dd.2 with
    | some xs=>.eY (0<=lo.getD 0/\lo.getD 0<=hi.getD ((show List (El kk) from xs).length:Int)/\hi.getD ((show List (El kk) from xs).length:Int)<=((show List (El kk) from xs).length:Int)) inferInstance
      (k (.sub r p n (lo.getD 0).toNat (hi.getD ((show List (El kk) from xs).length:Int)).toNat kk.size))
    | none=>.fail
   | none=>.fail
  else .fail
 | _=>.fail
def JI (k0:K) (a:AV) (lo hi mx:Option Int) (k:AV->Prog J):Prog J:=match a with
 | .ref r g=>ownRow r g fun _ e kk xs=>bif (K.sl e kk).beq k0 then
   match mx with
   | none=>.eY (0<=lo.getD 0/\lo.getD 0<=hi.getD (xs.length:Int)/\hi.getD (xs.length:Int)<=(xs.length:Int)) inferInstance (k (.part r g (lo.getD 0).toNat (hi.getD (xs.length:Int)).toNat kk.size))
   | some m=>bif hi.isSome then .eY (0<=lo.getD 0/\lo.getD 0<=hi.getD 0/\hi.getD 0<=m/\m<=(xs.length:Int)) inferInstance (k .undef) else .fail
  else .fail
 | .part r g l0 h0 sz=>ownRow r g fun _ e kk xs=>bif (K.sl e kk).beq k0 && Nat.beq kk.size sz && mx.isNone then
   .eY (0<=lo.getD 0/\lo.getD 0<=hi.getD ((h0 - l0:Nat):Int)/\(l0:Int)+hi.getD ((h0 - l0:Nat):Int)<=(xs.length:Int)) inferInstance
    (k (.part r g (l0+(lo.getD 0).toNat) (l0+(hi.getD ((h0 - l0:Nat):Int)).toNat) sz))
  else .fail
 | .dZ r p n=>bif mx.isNone then acs k0 r p n lo hi k else .fail
 | _=>.fail
def QU (k0:K) (a:AV) (k:List Wr->Prog J):Prog J:=match a with
 | .part r g lo hi sz=>ownRow r g fun R e kk xs=>bif (K.sl e kk).beq k0 && Nat.beq kk.size sz then
   k [.r r (some { R with k:=.sl e kk,x:=xs.take lo++List.replicate (hi - lo) kk.zero++xs.drop hi,w:=e :: R.w })]
  else .fail
 | _=>.fail
def QV (k0:K) (d:Nat) (a b:AV) (k:List Wr->Prog J):Prog J:=match a,b with
 | .part r g l0 h0 sz, .part r' g' l1 h1 sz'=>ownRow r g fun R e kk xs=>bif (K.sl e kk).beq k0 && Nat.beq r r' && Nat.beq g g' && Nat.beq sz sz' && Nat.beq l0 0 && Nat.beq kk.size sz then
   .eY (h0<=l1) inferInstance (k [.r r (some { R with k:=.sl e kk,x:=xs.take h0++(xs.take h1).drop l1++xs.drop (h0+(h1 - l1)),w:=e :: R.w }), .s d (.one (.part r g 0 (h0+(h1 - l1)) sz))])
  else .fail
 | _,_=>.fail
def QX (k0:K) (d:Nat) (a b:AV) (k:List Wr->Prog J):Prog J:=match a with
 | .ref r g=>ownRow r g fun R e kk xs=>bif (K.sl e kk).beq k0 then J6 e kk b fun s=>
   .eY (s.xs.length<=xs.length) inferInstance (k [.r r (some { R with k:=.sl e kk,x:=s.xs++xs.drop s.xs.length,w:=e :: R.w }), .s d (.one (.val (.int .i64) (s.xs.length:Int) []))])
  else .fail
 | _=>.fail
abbrev zC (e:TypeId) (kk:K):K:=.st (.pair kk (.pair (.sl e (.gap kk.size)) .unit))
def z_:List Stp->List Int
 | []=>[]
 | .aZ _ :: p=>z_ p
 | .idx i :: p=>i :: z_ p
def qd:List Stp->List Stp->Bool
 | [],[]=>true
 | .aZ n :: p, .aZ m :: q=>Nat.beq n m && qd p q
 | .idx _ :: p, .idx _ :: q=>qd p q
 | _,_=>false
def Qt (T:bH) (d:Nat) (t:TypeId) (a b:AV) (k:List Wr->Prog J):Prog J:=match T.ty t,a,b with
 | some (.sl e kk), .dZ r p h, .ref rb gb=>jo rb fun B=>bif Nat.beq B.g gb && !B.fixed && !Nat.beq r rb && p.all Stp.kL && !aa jM (K.sl e kk).tys && (K.sl e kk).tys.all (fun t=>aa t B.own) then
   match bU B.k (.sl e kk) B.x with
   | some ys=>jo r fun R=>bif Nat.beq R.dL h && !R.fixed && (K.sl e kk).tys.all (fun t=>aa t R.own) && R.tags.all (fun t=>!Nat.beq t.1 rb) then
     match aB p R.k R.x with
     | some dd=>match bU dd.1 (.sl e kk) dd.2 with
      | some xs=>match cz p R.k R.x dd with
       | some z=>.eY ((show List (El kk) from ys).length=1/\((show List (El kk) from xs).length+1) * T.bytes e<=140737488355328) inferInstance (kT (aG d 0)
         (k [.r rb none, .r r (some { R with k:=z.1,x:=z.2,w:=e :: R.w,h:=(K.sl e kk).tys++R.h }), .r (aG d 0) (some (bL (zC e kk) ((show List (El kk) from ys).getD 0 kk.zero,(([]:List Unit),())) (e :: kk.tys) [] .anon)),
          .s d (.one (.app r p (dS (e :: R.w)+dS ((K.sl e kk).tys++R.h)) (aG d 0)))]))
       | none=>.fail
      | none=>.fail
     | none=>.fail
    else .fail
   | none=>.fail
  else .fail
 | _,_,_=>.fail
def Qu (k0:K) (a:AV) (r:Nat) (p:List Stp) (n q:Nat) (k:List Wr->Prog J):Prog J:=match k0,a with
 | .sl e kk, .ptr r' p' h=>bif Nat.beq r r' && qd p p' && p.all Stp.kL && !Nat.beq r q then jo q fun Q=>bif Nat.beq Q.dL 0 && (e :: kk.tys).all (fun t=>aa t Q.own) then
    match bU Q.k (zC e kk) Q.x with
    | some y=>jo r fun R=>bif Nat.beq R.dL n && !R.fixed && clean R.h h (iW p' R.k) && (K.sl e kk).tys.all (fun t=>aa t R.own) && R.tags.all (fun t=>!Nat.beq t.1 q) then
      match aB p R.k R.x with
      | some dd=>match bU dd.1 (.sl e kk) dd.2 with
       | some xs=>match cz p R.k R.x ⟨.sl e kk,(show List (El kk) from xs)++[(show El kk from y.1)]⟩ with
        | some z=>k [.r q none, .r r (some { R with k:=z.1,x:=z.2,w:=iV R p :: e :: R.w,h:=(K.sl e kk).tys++R.h })]
        | none=>.fail
       | none=>.fail
      | none=>.fail
     else .fail
    | none=>.fail
   else .fail
  else .fail
 | _,_=>.fail
def QZ (k0:K) (a:AV) (r:Nat) (p:List Stp) (n m:Nat) (k:List Wr->Prog J):Prog J:=match k0,a with
 | .sl e kk, .ptr r' p' h=>bif Nat.beq r r' && qd p p' then .eY (z_ p=z_ p') inferInstance (jo r fun R=>bif Nat.beq R.dL n && !R.fixed && clean R.h h (iW p' R.k) && (K.sl e kk).tys.all (fun t=>aa t R.own) then
      match aB p R.k R.x with
      | some dd=>match bU dd.1 (.sl e kk) dd.2 with
       | some xs=>match cz p R.k R.x ⟨.sl e kk,(show List (El kk) from xs).take m⟩ with
        | some z=>k [.r r (some { R with k:=z.1,x:=z.2,w:=iV R p :: (K.sl e kk).tys++R.w,h:=(K.sl e kk).tys++R.h })]
        | none=>.fail
       | none=>.fail
      | none=>.fail
     else .fail)
  else .fail
 | _,_=>.fail
def Uo (T:bH) (d:Nat) (t:TypeId) (a:AV) (r:Nat) (p:List Stp) (n lo hi sz:Nat) (k:List Wr->Prog J):Prog J:=match T.ty t with
 | some (.sl e kk)=>jo r fun R=>bif Nat.beq kk.size sz && Nat.beq R.dL n && p.all Stp.kL && (K.sl e kk).tys.all (fun t=>aa t R.own) then
   match aB p R.k R.x with
   | some dd=>match bU dd.1 (.sl e kk) dd.2 with
    | some xs=>match a with
     | .ref q g=>jo q fun Q=>bif Nat.beq Q.g g && !Q.fixed && !Nat.beq r q && aa e Q.own then match bU Q.k (.sl e kk) Q.x with
       | some ys=>.eY ((show List (El kk) from ys).length=0/\lo=0/\hi * T.bytes e<=140737488355328) inferInstance (kT (aG d 0)
         (k [.r q none, .r (aG d 0) (some (bL (.sl e (.gap kk.size)) (List.replicate hi ()) [e] [] .anon)), .s d (.one (.sel r p n (aG d 0) hi (show List (El kk) from xs).length))]))
       | none=>.fail
      else .fail
     | .sel r' p' n' q a' b'=>jo q fun Q=>bif Nat.beq r r' && Nat.beq n n' && qd p p' && Nat.beq Q.dL 0 && !Q.fixed && !Nat.beq r q && aa e Q.own then match bU Q.k (.sl e (.gap kk.size)) Q.x with
       | some _=>.eY (a'<=lo/\lo<=hi/\hi=(show List (El kk) from xs).length/\b'=(show List (El kk) from xs).length/\(a'+(hi - lo)) * T.bytes e<=140737488355328) inferInstance (kT (aG d 0)
         (k [.r q none, .r (aG d 0) (some (bL (.sl e (.gap kk.size)) (List.replicate (a'+(hi - lo)) ()) [e] [] .anon)), .s d (.one (.sel r p n (aG d 0) a' lo))]))
       | none=>.fail
      else .fail
     | _=>.fail
    | none=>.fail
   | none=>.fail
  else .fail
 | _=>.fail
def Uq (k0:K) (a:AV) (r:Nat) (p:List Stp) (n q a' b':Nat) (k:List Wr->Prog J):Prog J:=match k0,a with
 | .sl e kk, .ptr r' p' h=>bif Nat.beq r r' && qd p p' && p.all Stp.kL && !Nat.beq r q then jo q fun Q=>bif Nat.beq Q.dL 0 && aa e Q.own then
    match bU Q.k (.sl e (.gap kk.size)) Q.x with
    | some _=>jo r fun R=>bif Nat.beq R.dL n && !R.fixed && clean R.h h (iW p' R.k) && (K.sl e kk).tys.all (fun t=>aa t R.own) && R.tags.all (fun t=>!Nat.beq t.1 q) then
      match aB p R.k R.x with
      | some dd=>match bU dd.1 (.sl e kk) dd.2 with
       | some xs=>match cz p R.k R.x ⟨.sl e kk,(show List (El kk) from xs).take a'++(show List (El kk) from xs).drop b'⟩ with
        | some z=>k [.r q none, .r r (some { R with k:=z.1,x:=z.2,w:=iV R p :: (K.sl e kk).tys++R.w,h:=(K.sl e kk).tys++R.h })]
        | none=>.fail
       | none=>.fail
      | none=>.fail
     else .fail
    | none=>.fail
   else .fail
  else .fail
 | _,_=>.fail
end
end
section
open Go
def Cont.fst:(ks ls:List K)->Cont (ks++ls)->Cont ks
 | [],_,_=>()
 | _ :: ks,ls,c=>(c.1,Cont.fst ks ls c.2)
def Cont.snd:(ks ls:List K)->Cont (ks++ls)->Cont ls
 | [],_,c=>c
 | _ :: ks,ls,c=>Cont.snd ks ls c.2
abbrev SENT:Nat:=4294967295
structure bM where
 ids:List Tag
 wb:Option (Nat×List Stp×List TypeId×List TypeId)
 ws:List Wr
 bt:List TypeId:=[]
def idxOf:(p:List (Option Nat))->List Stp->Option (Cont (aV.into 0 p).kin)
 | [],[]=>some ()
 | some n :: p, .aZ m :: q=>bif Nat.beq n m then idxOf p q else none
 | none :: p, .idx i :: q=>match idxOf p q with
  | some c=>some (i,c)
  | none=>none
 | _,_=>none
def pathOf:(p:List (Option Nat))->Cont (aV.into 0 p).kin->List Stp
 | [],_=>[]
 | some n :: p,c=>.aZ n :: pathOf p c
 | none :: p,c=>.idx c.1 :: pathOf p c.2
section
variable {J:Type}
def v_ (k:K) (own ow:List TypeId):Bool:=k.tys.all fun t=>aa t own == aa t ow
def MO:(ks:List K)->List (TypeId×Dat×List Tag)->(Cont ks->List Tag->Prog J)->Prog J
 | [],[],k=>k () []
 | kk :: ks,(t,d,tags) :: l,k=>rY tags (t :: d.1.tys) (match bU d.1 kk d.2 with
  | some x=>MO ks l fun c ts=>k (x,c) (lM tags ts)
  | none=>.fail)
 | _,_,_=>.fail
def o9:(ps:List aV)->List AV->(Cont (kin ps)->List bM->Prog J)->Prog J
 | [],[],k=>k () []
 | .val kk _ :: ps,a :: l,k=>
  let go (x:El kk) (tags:List Tag):Prog J:=o9 ps l fun c is=>k (x,c) (⟨tags,none,[],[]⟩ :: is)
  match a with
  | .fG=>match kk,go with
   | .sl _ _,go=>go [] []
   | _,_=>.fail
  | a=>qw a fun k' x tags=>match bU k' kk x with
   | some y=>go y (bif kk.flat then [] else tags)
   | none=>.fail
 | .ro kk :: ps,a :: l,k=>
  let go (d:Dat) (tags:List Tag):Prog J:=match bU d.1 kk d.2 with
   | some y=>o9 ps l fun c is=>k (y,c) (⟨tags,none,[],[]⟩ :: is)
   | none=>.fail
  addrOf a (fun R r _ d=>go d ((r,dS R.w) :: R.tags)) (fun _ d tags=>go d tags)
 | .rw kk ow wt ht :: ps,a :: l,k=>match a with
  | .ptr r p h=>jo r fun R=>bif clean R.h h (iW p R.k) && NU p R then
    match aB p R.k R.x with
    | some d=>match bU d.1 kk d.2 with
     | some y=>bif v_ kk R.own ow then o9 ps l fun c is=>k (y,c) (⟨R.tags,some (r,p,wt,ht),[],[iV R p]⟩ :: is) else .fail
     | none=>.fail
    | none=>.fail
   else .fail
  | _=>.fail
 | .bR kk ow wt :: ps,a :: l,k=>
  let go (R:Root) (r:Nat) (p:List Stp) (d:Dat):Prog J:=match bU d.1 kk d.2 with
   | some y=>bif v_ kk R.own ow then o9 ps l fun c is=>k (y,c) (⟨R.tags,some (r,p,wt,kk.tys),[],[]⟩ :: is) else .fail
   | none=>.fail
  match a with
  | .dZ r p h=>jo r fun R=>bif Nat.beq R.dL h then
    match aB p R.k R.x with
    | some d=>go R r p d
    | none=>.fail
   else .fail
  | .ref r g=>jo r fun R=>bif Nat.beq R.g g then go R r [] ⟨R.k,R.x⟩ else .fail
  | _=>.fail
 | .own kk ow :: ps,a :: l,k=>sN kk a fun tk=>match bU tk.k kk tk.x with
  | some y=>bif v_ kk tk.own ow then o9 ps l fun c is=>k (y,c) (⟨tk.tags,none,tk.ws,[]⟩ :: is) else .fail
  | none=>.fail
 | .fn f ks :: ps,a :: l,k=>match a with
  | .fn f' caps=>bif Nat.beq f f' then MO ks caps fun c tags=>o9 ps l fun c' is=>k (Cont.app ks (kin ps) c c') (⟨tags,none,[],[]⟩ :: is) else .fail
  | _=>.fail
 | .into _ [] :: ps,a :: l,k=>match a with
  | .fG=>o9 ps l fun c is=>k c (⟨[],none,[],[]⟩ :: is)
  | _=>.fail
 | _,_,_=>.fail
def bM.touched (i:bM):List Nat:=(match i.wb with | some (r,_)=>[r] | none=>[])++i.ws.flatMap Wr.eT
def yF:List bM->Bool
 | []=>true
 | i :: l=>match i.wb with
  | some _=>l.all fun j=>j.wb.isNone
  | none=>yF l
def uU (r:Nat):List bM->Nat->Option Nat
 | [],_=>none
 | i :: is,n=>match i.wb with
  | some (r',_)=>bif Nat.beq r r' then some n else uU r is (n+1)
  | none=>uU r is (n+1)
def Ay (is:List bM):List aV->List bM->Bool
 | .val k bE :: ps,i :: l=>(bE.all fun j=>match is[j]? with | some q=>q.wb.isSome | none=>false) && i.ids.all (fun t=>match uU t.1 is 0 with
   | some n=>aa n bE && (match is[n]? with
     | some j=>j.bt.all fun b=>!aa b k.tys
     | none=>false)
   | none=>!aa t.1 (is.flatMap fun j=>j.ws.flatMap Wr.eT)) && Ay is ps l
 | _ :: ps,i :: l=>i.ids.all (fun t=>!aa t.1 (is.flatMap bM.touched)) && Ay is ps l
 | [],[]=>true
 | _,_=>false
def BP:(ps:List aV)->List bM->Cont (gq ps)->(List Wr->Prog J)->Prog J
 | [],[],_,k=>k []
 | .rw kk _ _ _ :: ps,⟨_,some (r,p,wt,ht),_,_⟩ :: is,c,k=>.root r fun
  | some R=>match cz p R.k R.x ⟨kk,c.1⟩ with
   | some z=>BP ps is c.2 fun ws=>k (.r r (some { R with k:=z.1,x:=z.2,w:=(iV R p :: wt)++R.w,h:=ht++R.h }) :: ws)
   | none=>.fail
  | none=>.fail
 | .bR kk _ _ :: ps,⟨_,some (r,p,wt,ht),_,_⟩ :: is,c,k=>.root r fun
  | some R=>match cz p R.k R.x ⟨kk,c.1⟩ with
   | some z=>BP ps is c.2 fun ws=>k (.r r (some { R with k:=z.1,x:=z.2,w:=(SENT :: (kk.tys++wt))++R.w,h:=ht++R.h }) :: ws)
   | none=>.fail
  | none=>.fail
 | .val _ _ :: ps,_ :: is,c,k | .ro _ :: ps,_ :: is,c,k | .own _ _ :: ps,_ :: is,c,k | .fn _ _ :: ps,_ :: is,c,k | .into _ _ :: ps,_ :: is,c,k=>BP ps is c k
 | _,_,_,_=>.fail
def Ai (ws:List Wr):List Nat->(List Tag->Prog J)->Prog J
 | [],k=>k []
 | r :: l,k=>bif gZ r then Ai ws l fun ts=>k ((r,0) :: ts) else
  match ws.find? (fun w=>w.loc.beq (.r r)) with
  | some (.r _ (some R))=>Ai ws l fun ts=>k ((r,dS R.w) :: ts)
  | some _=>.fail
  | none=>.root r fun
   | some R=>Ai ws l fun ts=>k ((r,dS R.w) :: ts)
   | none=>.fail
def yx (is:List bM) (exts bE:List Nat):List Nat:=
 exts.flatMap (fun j=>match is[j]? with | some i=>i.ids.map (·.1) | none=>[])++
 bE.flatMap (fun j=>match is[j]? with
  | some i=>match i.wb with
   | some q=>[q.1]
   | none=>[]
  | none=>[])
def w9:List Nat->List Nat
 | []=>[]
 | n :: l=>bif aa n l then w9 l else n :: w9 l
def mW (d:Nat) (is:List bM) (ws:List Wr):(rs:List gN)->(c:Nat)->Cont (eO rs)->(List AV->List Wr->Prog J)->Prog J
 | [],_,_,k=>k [] []
 | .val kk exts bE :: rs,c,x,k=>Ai ws (bif kk.flat then [] else w9 (yx is exts bE)) fun tags=>
   mW d is ws rs (c+1) x.2 fun as ws'=>k (.val kk x.1 tags :: as) ws'
 | .own kk ow exts bE :: rs,c,x,k=>Ai ws (bif kk.tys.all (fun t=>aa t ow) then [] else w9 (yx is exts bE)) fun tags=>
   kT (aG d c) (mW d is ws rs (c+1) x.2 fun as ws'=>k (.ref (aG d c) 0 :: as) (.r (aG d c) (some (bL kk x.1 ow tags .anon)) :: ws'))
 | .ptr t kk ow exts :: rs,c,x,k=>Ai ws (bif kk.tys.all (fun t=>aa t ow) then [] else w9 (yx is exts [])) fun tags=>
   kT (aG d c) (mW d is ws rs (c+1) x.2 fun as ws'=>k (.ptr (aG d c) [] 0 :: as) (.r (aG d c) (some (bL kk x.1 ow tags (.var t))) :: ws'))
 | .into j p :: rs,c,x,k=>bif Nat.beq c 0 && p.isEmpty && rs.isEmpty then match is[j]? with
   | some i=>match i.wb with
    | some (r,q,_,ht)=>match ws.find? (fun w=>w.loc.beq (.r r)) with
     | some (.r _ (some R))=>bif aa jM ht then .fail else k [.nI r q (dS R.w+dS R.h) (show Int from x.1).toNat] []
     | _=>.fail
    | none=>.fail
   | none=>.fail
  else .fail
def Qw:List AV->gM
 | [a]=>.one a
 | l=>.mH l
def QM (n:Nat) (E:Entry) (dst:Option Nat) (nP:List AV) (k:List Wr->Prog J):Prog J:=
 o9 E.ps nP fun c is=>bif Ei (is.flatMap bM.touched) && yF is && Ay is E.ps is then
  .opt _ (E.F n c) fun out=>BP E.ps is (Cont.snd (eO E.rs) (gq E.ps) out) fun ws=>
   match dst with
   | some d=>mW d is ws E.rs 0 (Cont.fst (eO E.rs) (gq E.ps) out) fun as ws'=>k (is.flatMap bM.ws++ws++ws'++[.s d (Qw as)])
   | none=>k (is.flatMap bM.ws++ws)
 else .fail
def zS (f d:Nat):List (Nat×Option Nat×Entry)->Option Entry
 | []=>none
 | (g,none,E) :: l=>bif Nat.beq f g then some E else zS f d l
 | (g,some e,E) :: l=>bif Nat.beq f g && Nat.beq d e then some E else zS f d l
def FB (mx:Bool):IntKind->Int->List AV->(Int->Prog J)->Prog J
 | _,x,[],k=>k x
 | ik,x, .val (.int jk) y _ :: l,k=>bif uN ik jk then FB mx ik (if mx then (if y>x then y else x) else (if y<x then y else x)) l k else .fail
 | _,_,_,_=>.fail
def QW (T:bH) (d:Nat) (src dst:TypeId) (a:AV) (k:List Wr->Prog J):Prog J:=match T.ty src,T.ty dst with
 | some _,some (.int ik)=>match a with
  | .val (.int _) n _=>k [.s d (v1 (.int ik) (ik.wrap n))]
  | _=>.fail
 | some .str,some .str=>match a with
  | .val .str s _=>k [.s d (v1 .str s)]
  | _=>.fail
 | some (.sl _ (.int .u8)),some .str=>match a with
  | .fG=>k [.s d (v1 .str [])]
  | a=>qw a fun kk x _=>match kk,x with
   | .sl _ (.int .u8),xs=>k [.s d (v1 .str xs)]
   | _,_=>.fail
 | some .str,some (.sl e (.int .u8))=>match a with
  | .val .str s _=>kT (aG d 0) (k [.r (aG d 0) (some (bL (.sl e (.int .u8)) s [e] [] .anon)), .s d (.one (.ref (aG d 0) 0))])
  | _=>.fail
 | _,_=>.fail
def Et:List AV->(List (TypeId×Dat×List Tag)->Prog J)->Prog J
 | [],k=>k []
 | a :: l,k=>addrOf a
   (fun R r p d=>bif Nat.beq (iV R p) SENT then .fail else Et l fun cs=>k ((iV R p,d,(r,dS R.w) :: R.tags) :: cs))
   (fun bt d tags=>Et l fun cs=>k ((bt,d,tags) :: cs))
def Uz (k0:K) (a:AV) (lo hi:Option Int) (k:AV->Prog J):Prog J:=match a with
 | .val .str s _=>bif !k0.beq .str then .fail else
  let n:=(show List Int from s).length
  match lo,hi with
  | none,none=>k (.val .str s [])
  | some l,none=>.eY (0<=l/\l<=(n:Int)) inferInstance (k (.val .str ((show List Int from s).drop l.toNat) []))
  | none,some h=>.eY (0<=h/\h<=(n:Int)) inferInstance (k (.val .str ((show List Int from s).take h.toNat) []))
  | some l,some h=>.eY (0<=l/\l<=h/\h<=(n:Int)) inferInstance (k (.val .str (((show List Int from s).take h.toNat).drop l.toNat) []))
 | a=>qw a fun kk x tags=>match kk,x with
  | .sl e kk,xs=>bif !k0.beq (.sl e kk) then .fail else
   let xs:=(show List (El kk) from xs)
   match lo,hi with
   | none,none=>k (.val (.sl e kk) xs tags)
   | some l,none=>.eY (0<=l/\l<=(xs.length:Int)) inferInstance (k (.val (.sl e kk) (xs.drop l.toNat) tags))
   | none,some h=>.eY (0<=h/\h<=(xs.length:Int)) inferInstance (k (.val (.sl e kk) (xs.take h.toNat) tags))
   | some l,some h=>.eY (0<=l/\l<=h/\h<=(xs.length:Int)) inferInstance (k (.val (.sl e kk) ((xs.take h.toNat).drop l.toNat) tags))
  | _,_=>.fail
def uT (x:Option Operand) (k:Option Int->Prog J):Prog J:=match x with
 | none=>k none
 | some y=>eP y fun a=>asInt a fun _ i=>k (some i)
def isZero:Option Operand->Bool
 | some (.const (.int _ 0))=>true
 | _=>false
def MN (hi:Hint) (n:Nat) (dst:Option Nat) (c:Call) (k:List Wr->Prog J):Prog J:=match c.callee with
 | .value f=>eP f fun
  | .fn f caps=>o8 c.args.toList fun l=>match zS f (dst.getD 0) hi.calls with
   | some E=>bif Nat.beq E.f f then QM n E dst (l++caps.map fun (t,dd,tags)=>.fQ t dd.1 dd.2 tags) k else .fail
   | none=>.fail
  | _=>.fail
 | _=>.fail
def Ch (d:Nat):List (Nat×List TypeId)->List TypeId
 | []=>[]
 | (e,l) :: m=>bif Nat.beq d e then l else Ch d m
def NJ (hi:Hint) (d:Nat) (k:K):List TypeId:=match Ch d hi.less with
 | []=>k.tys
 | l=>fq k.tys l
def rM {A:Type}:Nat->List A->List (Nat×A)
 | _,[]=>[]
 | i,a :: l=>(i,a) :: rM (i+1) l
def Ju:K->List (Nat×AV)->Nat->Prog J->Prog J
 | .pair kk r,(n,a) :: l,i,p=>bif Nat.beq n i then sN kk a fun tk=>bif tk.k.beq kk then Ju r l (i+1) p else .fail else .fail
 | .unit,[],_,p=>p
 | _,_,_,_=>.fail
def QJ (e:TypeId) (d:Nat) (a:AV) (k:List Wr->Prog J):Prog J:=match a with
 | .ref r g=>ownRow r g fun R e' kk xs=>bif (K.sl e' kk).beq (.sl e (.int .u8)) then .eY (0<xs.length) inferInstance (k [.r r (some { R with k:=.sl e' kk,x:=xs,w:=e' :: R.w }), .s d (.one (.ref r g))]) else .fail
 | _=>.fail
def UC (T:bH) (o:Oper) (d:Nat) (k:List Wr->Prog J):Prog J:=match o.op with
 | .slice t x lo hi mx=>match T.ty t with
  | some kk=>eP x fun a=>uT lo fun lo=>uT hi fun hi=>uT mx fun mx=>JI kk a lo hi mx fun u=>k [.s d (.one u)]
  | none=>.fail
 | .call c=>match c.callee with
  | .builtin .len=>o8 c.args.toList fun
   | [.part _ _ lo hi _]=>match (c.argTypes[0]?).bind T.ty with
    | some (.sl _ _)=>k [.s d (.one (.val (.int .i64) ((hi - lo:Nat):Int) []))]
    | _=>.fail
   | _=>.fail
  | .builtin .append=>o8 c.args.toList fun
   | [a,b]=>match (c.argTypes[0]?).bind T.ty,(c.argTypes[1]?).bind T.ty with
    | some (.sl e0 k0),some (.sl _ _)=>QV (.sl e0 k0) d a b k
    | _,_=>.fail
   | _=>.fail
  | .builtin .copy=>o8 c.args.toList fun
   | [a,b]=>match (c.argTypes[0]?).bind T.ty,(c.argTypes[1]?).bind T.ty with
    | some (.sl e0 k0),some (.sl _ _)=>QX (.sl e0 k0) d a b k
    | _,_=>.fail
   | _=>.fail
  | _=>.fail
 | .build t ps=>match T.ty t with
  | some (.st c)=>xg ps.toList fun l=>Ju c l 0 (k [.s d (.lit t c (l.map (·.2)))])
  | _=>.fail
 | .convert s t x=>match T.ty t with
  | some (.sl e (.int .u8))=>bif Nat.beq s t then eP x fun a=>QJ e d a k else .fail
  | _=>.fail
 | _=>.fail
def Tv (T:bH) (s:Nat) (k:List Wr->Prog J):Prog J:=.slot s fun
 | .lit t c l=>bif (match T.ty t with | some kk=>kk.beq (.st c) | none=>false) then BQ (rM 0 l) ⟨.st c,(K.st c).zero,[],[],[],false,[]⟩ fun b=>
   bif !sO b.ws b.all then .fail else kT (aG s 1) (k (b.ws++[.r (aG s 1) (some (bL b.k b.x (fq b.k.tys b.bad) b.tags .anon b.keep)), .s s (.one (.ref (aG s 1) 0))]))
  else .fail
 | _=>.fail
def JG:List Stp->List Stp->Bool
 | [.aZ i],[.aZ j]=>!Nat.beq i j
 | _,_=>false
def freshen (r:Nat) (p:List Stp) (v v':Nat):AV->AV
 | .dZ q p' n=>bif Nat.beq r q && Nat.beq n v && JG p p' then .dZ q p' v' else .dZ q p' n
 | a=>a
def Rn (r:Nat) (p:List Stp) (v:Nat):List Wr->AV->AV
 | [.r _ (some R)]=>freshen r p v R.dL
 | _=>fun a=>a
def UA (s s2:Nat) (k:List Wr->Prog J):Prog J:=.slot s fun
 | .one (.dZ r p v)=>sN .unit (.dZ r p v) fun tk=>bif Nat.beq s s2 || tk.ws.isEmpty then .fail else kT (aG s 1) (.slot s2 fun
  | .lit t c l=>k (tk.ws++[.r (aG s 1) (some (bL tk.k tk.x tk.own tk.iP .anon tk.keep)), .s s (.one (.ref (aG s 1) 0)), .s s2 (.lit t c (l.map (Rn r p v tk.ws)))])
  | _=>.fail)
 | _=>.fail
def shares (r:Nat) (l:List AV):Bool:=l.any fun
 | .dZ q _ _=>Nat.beq r q
 | _=>false
def splits (s2:Nat):List (Nat×Operand)->Prog (List Wr)
 | []=>.ret []
 | (_, .tmp s) :: l=>.slot s fun
  | .one (.dZ r _ _)=>.slot s2 fun
   | .lit _ _ m=>bif shares r m then Oe (UA s s2 .ret) (splits s2 l) else splits s2 l
   | _=>.fail
  | _=>splits s2 l
 | _ :: l=>splits s2 l
def EC:List (Nat×Operand)->(Nat->Prog J)->Prog J
 | [],_=>.fail
 | (_, .tmp s) :: l,k=>.slot s fun
  | .lit _ _ _=>k s
  | _=>EC l k
 | _ :: l,k=>EC l k
def ahq (T:bH) (d:Nat) (t:TypeId) (ps:Array (Nat×Operand)):Prog (List Wr):=match T.ty t with
 | some (.st c)=>xg ps.toList fun l=>BQ l ⟨.st c,(K.st c).zero,[],[],[],false,[]⟩ fun b=>bif !sO b.ws b.all then .fail else bif b.k.tys.all fun t=>aa t b.bad then
   .ret (b.ws++[.s d (.one (.val b.k b.x b.tags))])
  else kT (aG d 0) (.ret (b.ws++[.r (aG d 0) (some (bL b.k b.x (fq b.k.tys b.bad) b.tags .anon b.keep)), .s d (.one (.ref (aG d 0) 0))]))
 | _=>.fail
def acm (T:bH) (d:Nat) (t:TypeId) (ps:Array (Nat×Operand)):Prog (List Wr):=
 EC ps.toList fun s=>Oe (splits s ps.toList) (Oe (Tv T s .ret) (ahq T d t ps))
def UB (T:bH) (o:Oper) (d:Nat) (k:List Wr->Prog J):Prog J:=match o.op with
 | .build t ps=>(acm T d t ps).bind k
 | .call c=>match c.callee with
  | .builtin .append=>o8 c.args.toList fun
   | [a,b]=>match c.argTypes[0]?,(c.argTypes[1]?).bind T.ty with
    | some t,some (.sl _ _)=>match b with
     | .sub r p n lo hi sz=>Uo T d t a r p n lo hi sz k
     | b=>Qt T d t a b k
    | _,_=>.fail
   | _=>.fail
  | _=>.fail
 | .load t x=>eP x fun a=>yA T true t a fun u=>match T.ty t with
  | some kk=>sN kk u fun tk=>kT (aG d 0) (k (tk.ws++[Wr.r (aG d 0) (some (bL tk.k tk.x tk.own tk.iP .anon tk.keep)),Wr.s d (.one (.ref (aG d 0) 0))]))
  | none=>.fail
 | _=>.fail
def UE (T:bH) (t:TypeId) (a v:AV) (k:List Wr->Prog J):Prog J:=match v with
 | .nI r p n m=>match T.ty t with
  | some k0=>QZ k0 a r p n m k
  | none=>.fail
 | .app r p n q=>match T.ty t with
  | some k0=>Qu k0 a r p n q k
  | none=>.fail
 | .sel r p n q a' b'=>match T.ty t with
  | some k0=>Uq k0 a r p n q a' b' k
  | none=>.fail
 | v=>UD T t a v k
def aco (T:bH) (hi:Hint) (n:Nat) (o:Oper) (k:List Wr->Prog J):Prog J:=match o.op with
 | .store t x v=>eP x fun a=>eP v fun v=>UE T t a v k
 | .call c=>match c.callee with
  | .builtin .clear=>o8 c.args.toList fun
   | [a]=>match (c.argTypes[0]?).bind T.ty with
    | some (.sl e0 k0)=>QU (.sl e0 k0) a k
    | _=>.fail
   | _=>.fail
  | _=>MN hi n none c k
 | _=>.fail
def acn (T:bH) (hi:Hint) (n:Nat) (o:Oper) (d:Nat) (k:List Wr->Prog J):Prog J:=
 let put (a:AV):Prog J:=k [.s d (.one a)]
 match o.op with
 | .move x=>uL x fun a=>k [.s d a]
 | .assign x=>uL x fun
  | .one .fG=>match T.ty o.type with
   | some (.sl e kk)=>.root (aG d 0) fun
    | none=>k [.r (aG d 0) (some (bL (.sl e kk) [] (e :: NJ hi d kk) [] .anon)), .s d (.one (.ref (aG d 0) 0))]
    | some _=>k [.s d (.one .fG)]
   | _=>.fail
  | a=>k [.s d a]
 | .pick c a b=>eP c fun c=>asBool c fun c=>uL a fun a=>uL b fun b=>.br c (k [.s d a]) (k [.s d b])
 | .alloc t=>match T.ty t with
  | some kk=>kT (aG d 0) (k [.r (aG d 0) (some (bL kk kk.zero kk.tys [] (.var t))), .s d (.one (.ptr (aG d 0) [] 0))])
  | none=>.fail
 | .box t x=>match T.ty t with
  | some kk=>eP x fun a=>MR a kk (fun r g=>put (.lZ r g kk [])) <| sN kk a fun tk=>bif tk.k.beq kk && !aa t tk.bad then
    kT (aG d 0) (k (tk.ws++[.r (aG d 0) (some (bL tk.k tk.x tk.own tk.iP (.var t) tk.keep)), .s d (.one (.ptr (aG d 0) [] 0))]))
   else .fail
  | none=>.fail
 | .load t x=>eP x fun a=>yA T (aa d hi.ahl) t a put
 | .nilCheck x=>eP x fun
  | .ptr r p h=>put (.ptr r p h)
  | .fQ bt kk y tags=>put (.fQ bt kk y tags)
  | _=>.fail
 | .binOp op t x y _=>QE T t op x y fun v=>k [.s d v]
 | .unOp op _ x=>eP x fun a=>UT op a fun v=>k [.s d v]
 | .convert s t x=>eP x fun a=>QW T d s t a k
 | .field t x f=>match T.ty t with
  | some kk=>eP x fun a=>IC kk a f put
  | none=>.fail
 | .fieldAddr t x f=>match T.ty t with
  | some kk=>eP x fun a=>IB kk a f put
  | none=>.fail
 | .indexAddr t x i=>match T.ty t with
  | some kk=>eP x fun a=>eP i fun i=>asInt i fun _ i=>Ji kk a i put
  | none=>.fail
 | .index t x i=>eP x fun a=>eP i fun i=>asInt i fun _ i=>match T.ty t,a with
  | some .str, .val .str s _=>.eY (aM i (show List Int from s).length) inferInstance (put (.val (.int .u8) ((show List Int from s).getD i.toNat 0) []))
  | _,_=>.fail
 | .extract x i=>uL x fun
  | .mH l=>match l[i]? with
   | some a=>put a
   | none=>.fail
  | _=>.fail
 | .build t ps=>match T.ty t with
  | some (.st c)=>xg ps.toList fun l=>BQ l ⟨.st c,(K.st c).zero,[],[],[],false,[]⟩ fun b=>bif !sO b.ws b.all then .fail else bif b.k.tys.all fun t=>aa t b.bad then
    k (b.ws++[.s d (.one (.val b.k b.x b.tags))])
   else kT (aG d 0) (k (b.ws++[.r (aG d 0) (some (bL b.k b.x (fq b.k.tys b.bad) b.tags .anon b.keep)), .s d (.one (.ref (aG d 0) 0))]))
  | _=>.fail
 | .buildSlice t len ps=>match T.ty t with
  | some (.sl e kk)=>xg ps.toList fun l=>Iw kk l ⟨[],[],[],[],false,[]⟩ fun b=>bif !(sO b.ws b.all && Nat.ble (len * kk.size) 16777216) then .fail else bif Nat.beq (dS b.xs) len && !aa e b.bad then
    kT (aG d 0) (k (b.ws++[.r (aG d 0) (some (bL (.sl e kk) b.xs (e :: fq (NJ hi d kk) b.bad) b.tags .anon b.keep)), .s d (.one (.ref (aG d 0) 0))]))
   else bif Nat.beq (dS b.xs) 0 then
    kT (aG d 0) (k [.r (aG d 0) (some (bL (.sl e kk) (List.replicate len kk.zero) (e :: kk.tys) [] .anon)), .s d (.one (.ref (aG d 0) 0))])
   else .fail
  | _=>.fail
 | .makeSlice t x y=>match T.ty t with
  | some (.sl e kk)=>eP x fun a=>eP y fun b=>asInt a fun ik i=>asInt b fun jk j=>bif uN ik .i64 && uN jk .i64 then
    .eY (i=j/\0<=i/\i * T.bytes e<=140737488355328) inferInstance (kT (aG d 0)
     (k [.r (aG d 0) (some (bL (.sl e kk) (List.replicate i.toNat kk.zero) (e :: kk.tys) [] .anon)), .s d (.one (.ref (aG d 0) 0))]))
   else .fail
  | _=>.fail
 | .makeFunc (.func f) first caps=>bif first.isEmpty then o8 caps.toList fun l=>Et l fun cs=>put (.fn f cs) else .fail
 | .slice t x lo hi mx=>match T.ty t with
  | some kk=>bif isZero lo && isZero hi && isZero mx then match kk with
    | .sl _ _=>eP x fun
     | .fG=>put .fG
     | a=>qw a fun k' _ _=>bif k'.beq kk then put .fG else .fail
    | _=>.fail
   else match mx with
    | none=>eP x fun a=>uT lo fun lo=>uT hi fun hi=>Uz kk a lo hi put
    | some _=>.fail
  | none=>.fail
 | .call c=>match c.callee with
  | .builtin .len=>o8 c.args.toList fun
   | [.fG]=>match (c.argTypes[0]?).bind T.ty with
    | some (.sl _ _)=>put (.val (.int .i64) 0 [])
    | _=>.fail
   | [.val .str s _]=>match (c.argTypes[0]?).bind T.ty with
    | some .str=>put (.val (.int .i64) ((show List Int from s).length:Int) [])
    | _=>.fail
   | [a]=>match (c.argTypes[0]?).bind T.ty with
    | some (.sl _ _)=>qw a fun kk x _=>match kk,x with
     | .sl _ kk,xs=>put (.val (.int .i64) ((show List (El kk) from xs).length:Int) [])
     | _,_=>.fail
    | _=>.fail
   | _=>.fail
  | .builtin .append=>o8 c.args.toList fun
   | [a,b]=>match c.argTypes[0]?,(c.argTypes[1]?).bind T.ty with
    | some t,some (.sl _ _)=>Em T d t a b k
    | some t,some .str=>Em T d t a b k
    | _,_=>.fail
   | _=>.fail
  | .builtin .min=>o8 c.args.toList fun
   | .val (.int ik) x _ :: l=>FB false ik x l fun z=>put (.val (.int ik) z [])
   | _=>.fail
  | .builtin .max=>o8 c.args.toList fun
   | .val (.int ik) x _ :: l=>FB true ik x l fun z=>put (.val (.int ik) z [])
   | _=>.fail
  | .value _=>MN hi n (some d) c k
  | _=>.fail
 | _=>.fail
def Am (T:bH) (hi:Hint) (n:Nat) (o:Oper) (k:List Wr->Prog J):Prog J:=match o.dst with
 | some d=>bif Nat.blt d hi.nt then (bif aa d hi.parts then UC T o d k else bif aa d hi.apps then UB T o d k else acn T hi n o d k) else .fail
 | none=>aco T hi n o k
end
variable {R:Type}
def refine (Z:St) (s:Nat) (b:Bool) (T:List Tag):St:={ Z with slots:=upd Z.slots s (.one (.val .bool b T)) }
def guardOf (ops:Array Oper) (o:Oper):Option (Option Nat×Bool):=match o.guard with
 | none=>none
 | some (g,want)=>some ((ops[g]?).bind (·.dst),want)
def guarded (Z:St) (ops:Array Oper) (o:Oper) (go:List Loc->St->Option R) (skip:List Loc->St->Option R):Option R:=match guardOf ops o with
 | none=>go [] Z
 | some (some s,want)=>match Z.slots s with
  | .one (.val .bool b T)=>if b=true then (bif want then go [.s s] (refine Z s true T) else skip [.s s] (refine Z s true T))
    else (bif want then skip [.s s] (refine Z s false T) else go [.s s] (refine Z s false T))
  | .mH []=>skip [.s s] Z
  | _=>none
 | some (none,_)=>none
def BZ (hi:Hint) (o:Oper):Bool:=match o.dst with
 | some d=>Nat.blt d hi.nt
 | none=>true
def Al (o:Oper):List Wr:=match o.dst with
 | some d=>[.s d (.mH [])]
 | none=>[]
def IA (T:bH) (hi:Hint) (n:Nat) (ops:Array Oper):List Oper->St->(St->Option R)->Option R
 | [],Z,K=>K Z
 | o :: l,Z,K=>guarded Z ops o
   (fun _ Z=>(Am T hi n o .ret).run Z fun ws=>IA T hi n ops l (aC ws Z) K)
   (fun _ Z=>bif BZ hi o then IA T hi n ops l (aC (Al o) Z) K else none)
structure Eff where
 i:Nat
 rd:List Loc
 wr:List Loc
def Fy (x:Loc):List Loc->Bool
 | []=>false
 | y :: l=>bif x.beq y then true else Fy x l
def ME (a b:List Loc):Bool:=a.all fun x=>!Fy x b
def binders (ops:Array Oper) (i:Nat):List Nat:=((((ops[i]?).getD default).after.toList.filter (Region.binds .any)).map (·.on))
def leads (ops:Array Oper):Nat->Nat->Nat->Bool
 | 0,_,_=>false
 | f+1,j,i=>aa j (binders ops i) || (binders ops i).any fun b=>Nat.blt j b && leads ops f j b
def zL (ops:Array Oper) (e:Eff) (l:List Eff):Bool:=
 (binders ops e.i).all (fun b=>Nat.blt b e.i) && l.all fun b=>aa b.i (binders ops e.i) || ((ME b.wr (e.rd++e.wr) && ME b.rd e.wr) || leads ops 6 b.i e.i)
def Ce (T:bH) (hi:Hint) (n:Nat) (ops:Array Oper):List Oper->Nat->List Eff->St->(St->Option R)->Option R
 | [],_,_,Z,K=>K Z
 | o :: l,i,es,Z,K=>guarded Z ops o
   (fun g Z=>(Am T hi n o .ret).uY Z g fun ws rd=>
    bif zL ops ⟨i,rd,ws.map Wr.loc⟩ es then Ce T hi n ops l (i+1) (⟨i,rd,ws.map Wr.loc⟩ :: es) (aC ws Z) K else none)
   (fun g Z=>bif BZ hi o && zL ops ⟨i,g,(Al o).map Wr.loc⟩ es then Ce T hi n ops l (i+1) (⟨i,g,(Al o).map Wr.loc⟩ :: es) (aC (Al o) Z) K else none)
inductive oO where
 | undef
 | val (k:K) (ids:List Nat)
 | fG
 | ref (r:Nat)
 | ptr (r:Nat) (p:List (Option Nat))
 | fQ (bt:TypeId) (k:K) (ids:List Nat)
 | kG
 | fn (f:Nat) (caps:List (TypeId×K×List Nat))
def BR:List (TypeId×K×List Nat)->List K
 | []=>[]
 | c :: l=>c.2.1 :: BR l
def oO.ks:oO->List K
 | .val k _ | .fQ _ k _=>[k]
 | .ptr _ p=>(aV.into 0 p).kin
 | .fn _ caps=>BR caps
 | _=>[]
structure zm where
 k:K
 own:List TypeId
 ids:List Nat
 kind:zl
 fixed:Bool
 keep:Bool
 log:Option (K×List TypeId×List TypeId)
def cO (Z:St) (tys:List TypeId):List Tag->Bool
 | []=>true
 | (r,n) :: l=>(bif gZ r then true else match Z.roots r with
  | some R=>!R.bY && clean R.w n tys
  | none=>false) && cO Z tys l
def mh (rs:List Nat):List Tag->List Nat
 | []=>[]
 | (r,_) :: l=>bif (gZ r || aa r rs) && !aa r (mh rs l) then r :: mh rs l else mh rs l
def Uv:List Stp->List (Option Nat)
 | []=>[]
 | .aZ n :: p=>some n :: Uv p
 | .idx _ :: p=>none :: Uv p
def JY (rs:List Nat):List (TypeId×Dat×List Tag)->List (TypeId×K×List Nat)
 | []=>[]
 | (t,d,tags) :: l=>(t,d.1,mh rs tags) :: JY rs l
def Iz (rs ex:List Nat):List Nat:=ex.filter fun i=>gZ i || aa i rs
def Uu (rs ex:List Nat):AV->oO
 | .undef=>.undef
 | .val k _ tags=>.val k (mh rs tags++Iz rs ex)
 | .fG=>.fG
 | .ref r _=>.ref r
 | .dZ _ _ _=>.undef
 | .ptr r p _=>.ptr r (Uv p)
 | .fQ bt k _ tags=>.fQ bt k (mh rs tags)
 | .kG=>.kG
 | .lZ _ _ _ _=>.undef
 | .pz _=>.undef
 | .part _ _ _ _ _=>.undef
 | .nI _ _ _ _=>.undef
 | .sub _ _ _ _ _ _=>.undef
 | .sel _ _ _ _ _ _=>.undef
 | .app _ _ _ _=>.undef
 | .fn f caps=>.fn f (JY rs caps)
def EB (t:TypeId) (ids:List Nat):Bool:=!Nat.beq t SENT || ids.all gZ
def yc (Z:St) (rs:List Nat):(cs:List (TypeId×K×List Nat))->List (TypeId×Dat×List Tag)->Option (Cont (BR cs))
 | [],[]=>some ()
 | (t,k,ids) :: cs,(t',d,tags) :: l=>bif Nat.beq t t' && cO Z (t :: k.tys) tags && iK (mh rs tags) ids && EB t ids then
   match bU d.1 k d.2,yc Z rs cs l with
   | some x,some c=>some (x,c)
   | _,_=>none
  else none
 | _,_=>none
def tO (Z:St) (rs:List Nat):(sh:oO)->AV->Option (Cont sh.ks)
 | .undef,_=>some ()
 | .val k ids, .val k' x tags=>bif cO Z k.tys tags && iK (mh rs tags) ids then
   match bU k' k x with
   | some y=>some (y,())
   | none=>none
  else none
 | .fG, .fG=>some ()
 | .ref r, .ref r' g=>bif Nat.beq r r' && aa r rs && (match Z.roots r with | some R=>Nat.beq R.g g | none=>false) then some () else none
 | .ptr r p, .ptr r' q h=>bif Nat.beq r r' && aa r rs && (match Z.roots r with | some R=>clean R.h h (iW q R.k) | none=>false) then idxOf p q else none
 | .fQ bt k ids, .fQ QH k' x tags=>bif Nat.beq bt QH && cO Z (bt :: k.tys) tags && iK (mh rs tags) ids && EB bt ids then
   match bU k' k x with
   | some y=>some (y,())
   | none=>none
  else none
 | .kG, .kG=>some ()
 | .fn f cs, .fn f' caps=>bif Nat.beq f f' then yc Z rs cs caps else none
 | _,_=>none
def Jz:(cs:List (TypeId×K×List Nat))->Cont (BR cs)->List (TypeId×Dat×List Tag)
 | [],_=>[]
 | (t,k,ids) :: cs,c=>(t,⟨k,c.1⟩,ids.map fun r=>(r,0)) :: Jz cs c.2
def Jy:(sh:oO)->Cont sh.ks->AV
 | .undef,_=>.undef
 | .val k ids,c=>.val k c.1 (ids.map fun r=>(r,0))
 | .fG,_=>.fG
 | .ref r,_=>.ref r 0
 | .ptr r p,c=>.ptr r (pathOf p c) 0
 | .fQ bt k ids,c=>.fQ bt k c.1 (ids.map fun r=>(r,0))
 | .kG,_=>.kG
 | .fn f cs,c=>.fn f (Jz cs c)
def J2 (wd:List (Nat×List Nat)) (rs:List Nat) (Z:St):List Nat->List (Nat×oO)
 | []=>[]
 | s :: l=>(match Z.slots s with
  | .one a=>(s,Uu rs (Ch (2 * s) wd) a)
  | _=>(s, .undef)) :: J2 wd rs Z l
def uj:List (Nat×oO)->List K
 | []=>[]
 | (_,sh) :: l=>sh.ks++uj l
def oF (r:Nat):List (Nat×K×List TypeId×List TypeId)->Option (K×List TypeId×List TypeId)
 | []=>none
 | (q,l) :: ls=>bif Nat.beq r q then some l else oF r ls
def JZ (wd:List (Nat×List Nat)) (fP:List (Nat×K×List TypeId×List TypeId)) (rs:List Nat) (Z:St):List Nat->Option (List (Nat×zm))
 | []=>some []
 | r :: l=>match Z.roots r,JZ wd fP rs Z l with
  | some R,some q=>some ((r,⟨R.k,R.own,mh rs R.tags++(Iz rs (Ch (2 * r+1) wd)).filter (fun q=>!Nat.beq q r),R.kind,R.fixed,R.keep,oF r fP⟩) :: q)
  | _,_=>none
def xu:List (Nat×zm)->List K
 | []=>[]
 | (_,sh) :: l=>sh.k :: xu l
def Iu (Z:St) (rs:List Nat):(l:List (Nat×oO))->Option (Cont (uj l))
 | []=>some ()
 | (s,sh) :: l=>match Z.slots s with
  | .one a=>match tO Z rs sh a,Iu Z rs l with
   | some c,some d=>some (Cont.app sh.ks (uj l) c d)
   | _,_=>none
  | _=>match sh with
   | .undef=>match Iu Z rs l with
    | some d=>some d
    | none=>none
   | _=>none
def Uc:zl->zl->Bool
 | .anon, .anon | .par, .par | .dead, .dead=>true
 | .var a, .var b=>Nat.beq a b
 | _,_=>false
def xx (R:Root):Option (List TypeId×List TypeId)->Bool
 | some (wt,ht)=>iK R.w wt && iK R.ew wt && iK R.h ht && iK R.eh ht && Nat.beq R.g 0
 | none=>true
def Tj (R:Root):Option (K×List TypeId×List TypeId)->Bool
 | some (k,l)=>R.k.beq k && xx R (some l)
 | none=>true
def CR (R:Root) (l:List TypeId):Root:={ R with own:=fq R.own l,w:=l++R.w }
def Tq (l:List TypeId) (r:Nat) (Z:St):St:=match l with
 | []=>Z
 | l=>match Z.roots r with
  | some R=>bif R.bY || !cO Z R.qJ R.tags || !R.own.any (fun t=>aa t l) then Z else { Z with roots:=upd Z.roots r (some (CR R l)) }
  | none=>Z
def CU (hi:Hint):List Nat->St->St
 | [],Z=>Z
 | r :: rs,Z=>CU hi rs (Tq (Ch (1000000+r) hi.less) r Z)
def MU (Z:St) (rs:List Nat):(l:List (Nat×zm))->Option (Cont (xu l))
 | []=>some ()
 | (r,sh) :: l=>match Z.roots r with
  | some R=>bif cO Z R.qJ R.tags && iK (mh rs R.tags) sh.ids && v_ sh.k R.own sh.own && Uc R.kind sh.kind && (R.fixed == sh.fixed) && (R.keep == sh.keep) && !R.bY && Tj R sh.log then
    match bU R.k sh.k R.x,MU Z rs l with
    | some x,some d=>some (x,d)
    | _,_=>none
   else none
  | none=>none
def mkS:(l:List (Nat×oO))->Cont (uj l)->Nat->gM
 | [],_,_=>.one .undef
 | (s,sh) :: l,c,n=>bif Nat.beq n s then .one (Jy sh (Cont.fst sh.ks (uj l) c)) else mkS l (Cont.snd sh.ks (uj l) c) n
def aaz:Option (K×List TypeId×List TypeId)->List TypeId
 | some (_,l,_)=>l
 | none=>[]
def aay:Option (K×List TypeId×List TypeId)->List TypeId
 | some (_,_,l)=>l
 | none=>[]
def Ah:(l:List (Nat×zm))->Cont (xu l)->Nat->Option Root
 | [],_,_=>none
 | (r,sh) :: l,c,n=>bif Nat.beq n r then some { k:=sh.k,x:=c.1,own:=sh.own,tags:=sh.ids.map fun r=>(r,0),w:=[],h:=[],g:=0,kind:=sh.kind,fixed:=sh.fixed,keep:=sh.keep,ew:=aaz sh.log,eh:=aay sh.log } else Ah l c.2 n
structure zf where
 ss:List (Nat×oO)
 rs:List (Nat×zm)
abbrev zf.V (s:zf):Type:=Cont (uj s.ss++xu s.rs)
def Uw (wd:List (Nat×List Nat)) (fP:List (Nat×K×List TypeId×List TypeId)) (ss rs:List Nat) (Z:St):Option zf:=match JZ wd fP rs Z rs with
 | some q=>bif fP.all (fun p=>aa p.1 rs) then some ⟨J2 wd rs Z ss,q⟩ else none
 | none=>none
def Ew (rs:List Nat) (s:zf) (Z:St):Option s.V:=match Iu Z rs s.ss,MU Z rs s.rs with
 | some a,some b=>some (Cont.app (uj s.ss) (xu s.rs) a b)
 | _,_=>none
def yD (s:zf) (c:s.V):St:=⟨mkS s.ss (Cont.fst _ _ c),Ah s.rs (Cont.snd _ _ c)⟩
inductive Ex where
 | normal
 | exit (id:Nat)
 | ret
def rounds {V:Type} (B:(V->Option R)->V->Option R):Nat->V->Option R
 | 0=>fun _=>none
 | n+1=>B (rounds B n)
def YC (b:Nat):List (Nat×List Nat×List Nat)->Option (List Nat×List Nat)
 | []=>none
 | (c,h) :: l=>bif Nat.beq b c then some h else YC b l
def Ag {A:Type} (f:A->A->Bool):List A->List A->Bool
 | [],[]=>true
 | a :: l,b :: m=>f a b && Ag f l m
 | _,_=>false
def yf:(k:K)->El k->El k->Bool
 | .int _,x,y=>decide ((show Int from x)=y)
 | .bool,x,y=>(show Bool from x) == y
 | .str,x,y=>decide ((show List Int from x)=y)
 | .sl _ k,xs,ys=>Ag (yf k) xs ys
 | .unit,_,_=>true
 | .pair a b,x,y=>yf a x.1 y.1 && yf b x.2 y.2
 | .st f,x,y=>yf f x y
 | .gap _,_,_=>true
 | .id _,x,y=>Nat.beq x y
def BV:(ks:List K)->Cont ks->Cont ks->Bool
 | [],_,_=>true
 | k :: ks,c,d=>yf k c.1 d.1 && BV ks c.2 d.2
def zA (ks:List K):Option (Cont ks)->Option (Cont ks)->Option (Cont ks)
 | some a,some b=>bif BV ks a b then some a else none
 | _,_=>none
theorem aaE {A:Type} {f:A->A->Bool} (hf:∀x y,f x y=true->x=y):∀{l m:List A},Ag f l m=true->l=m
 | [],[],_=>rfl
 | a :: l,b :: m,h=>by
  simp only [Ag,bg] at h
  rw [hf a b h.1,aaE hf h.2]
 | [],_ :: _,h=>by simp [Ag] at h
 | _ :: _,[],h=>by simp [Ag] at h
theorem aaF {A:Type} {f:A->A->Bool} (hf:∀x,f x x=true):∀{l:List A},Ag f l l=true
 | []=>rfl
 | a :: l=>by simp [Ag,hf a,aaF hf]
theorem aiK:∀{k:K} {x y:El k},yf k x y=true->x=y:=by
 intro k
 induction k with
 | int ik=>intro x y h; exact of_decide_eq_true h
 | bool=>intro x y h; exact eq_of_beq h
 | str=>intro x y h; exact of_decide_eq_true h
 | sl e k ih=>intro x y h; exact aaE (fun x y h=>ih h) h
 | unit=>intro x y _; rfl
 | pair a b iha ihb=>
  intro x y h
  simp only [yf,bg] at h
  exact Prod.ext (iha h.1) (ihb h.2)
 | st f ih=>intro x y h; exact ih (x:=x) (y:=y) h
 | gap n=>intro x y _; rfl
 | id e=>intro x y h; exact bC h
theorem aiL:∀{k:K} {x:El k},yf k x x=true:=by
 intro k
 induction k with
 | int ik=>intro x; exact gH rfl
 | bool=>intro x; exact @beq_self_eq_true Bool _ _ x
 | str=>intro x; exact gH rfl
 | sl e k ih=>intro x; exact aaF fun x=>ih
 | unit=>intro x; rfl
 | pair a b iha ihb=>intro x; simp [yf,iha,ihb]
 | st f ih=>intro x; exact ih (x:=x)
 | gap n=>intro x; rfl
 | id e=>intro x; exact Nat.beq_refl x
theorem Yf:∀{ks:List K} {c d:Cont ks},BV ks c d=true->c=d
 | [],_,_,_=>rfl
 | k :: ks,c,d,h=>by
  simp only [BV,bg] at h
  exact Prod.ext (aiK h.1) (Yf h.2)
theorem Yg:∀{ks:List K} {c:Cont ks},BV ks c c=true
 | [],_=>rfl
 | k :: ks,c=>by simp [BV,aiL,Yg]
theorem agV {ks:List K} (a:Option (Cont ks)):zA ks a a=a:=by
 cases a with
 | none=>rfl
 | some a=>simp [zA,Yg]
theorem agW {ks:List K} {a b:Option (Cont ks)} {z:Cont ks} (h:zA ks a b=some z):a=some z/\b=some z:=by
 cases a with
 | none=>simp [zA] at h
 | some a=>
  cases b with
  | none=>simp [zA] at h
  | some b=>
   simp only [zA] at h
   cases hb:BV ks a b with
   | false=>rw [hb] at h; simp at h
   | true=>
    rw [hb] at h
    simp only [gJ,au] at h
    have:=Yf hb
    subst h
    exact ⟨rfl,by rw [this]⟩
def den (T:bH) (hi:Hint) (n:Nat) (ag:Option R->Option R->Option R):Nat->Code->St->(Ex->St->Option R)->Option R
 | _, .skip,Z,K=>K .normal Z
 | _, .region _ ops draw,Z,K=>bif draw then Ce T hi n ops ops.toList 0 [] Z (K .normal) else IA T hi n ops ops.toList Z (K .normal)
 | b, .seq x y,Z,K=>den T hi n ag b x Z fun
  | .normal,Z'=>den T hi n ag b y Z' K
  | e,Z'=>K e Z'
 | b, .cond c x y,Z,K=>(eP c fun a=>.ret a).run Z fun
  | .pz e=>if e=true then ag (den T hi n ag b x Z K) (den T hi n ag b y Z K) else den T hi n ag b y Z K
  | a=>(asBool a .ret).run Z fun t=>if t=true then den T hi n ag b x Z K else den T hi n ag b y Z K
 | _, .block id x,Z,K=>den T hi n ag id x Z fun
  | .exit i,Z'=>bif Nat.beq i id then K .normal Z' else K (.exit i) Z'
  | e,Z'=>K e Z'
 | b, .loop x,Z,K=>match YC b hi.loops with
  | some (ss,rs)=>match Uw hi.wide hi.fP ss rs (CU hi rs Z) with
   | some s=>match Ew rs s (CU hi rs Z) with
    | some c=>rounds (fun L v=>den T hi n ag b x (yD s v) fun
     | .normal,Z'=>match Ew rs s (CU hi rs Z') with
      | some v'=>L v'
      | none=>none
     | e,Z'=>K e Z') n c
    | none=>none
   | none=>none
  | none=>none
 | _, .exit id,Z,K=>K (.exit id) Z
 | _, .ret,Z,K=>K .ret Z
 | _,_,_,_=>none
def gp:(ps:List aV)->(i:Nat)->Cont (kin ps)->List (Nat×AV)
 | [],_,_=>[]
 | .val k bE :: ps,i,c=>(i, .val k c.1 (bif k.flat then [] else (jA i,0) :: bE.map fun j=>(ah j,0))) :: gp ps (i+1) c.2
 | .ro k :: ps,i,c=>(i, .fQ SENT k c.1 [(jA i,0)]) :: gp ps (i+1) c.2
 | .rw _ _ _ _ :: ps,i,c=>(i, .ptr (ah i) [] 0) :: gp ps (i+1) c.2
 | .bR _ _ _ :: ps,i,c=>(i, .ref (ah i) 0) :: gp ps (i+1) c.2
 | .own _ _ :: ps,i,c=>(i, .ref (ah i) 0) :: gp ps (i+1) c.2
 | .fn f ks :: ps,i,c=>(i, .fn f (x8 i ks (Cont.fst ks (kin ps) c))) :: gp ps (i+1) (Cont.snd ks (kin ps) c)
 | .into _ p :: ps,i,c=>(i, .fG) :: gp ps (i+1) (Cont.snd (aV.into 0 p).kin (kin ps) c)
where x8 (i:Nat):(ks:List K)->Cont ks->List (TypeId×Dat×List Tag)
 | [],_=>[]
 | k :: ks,c=>(SENT,⟨k,c.1⟩,[(jA i,0)]) :: x8 i ks c.2
def iI:(ps:List aV)->(i:Nat)->Cont (kin ps)->List (Nat×Root)
 | [],_,_=>[]
 | .val _ _ :: ps,i,c=>iI ps (i+1) c.2
 | .ro _ :: ps,i,c=>iI ps (i+1) c.2
 | .rw k ow _ _ :: ps,i,c=>(ah i,bL k c.1 ow (bif k.tys.all (fun t=>aa t ow) then [] else [(jA i,0)]) .par true) :: iI ps (i+1) c.2
 | .bR k ow _ :: ps,i,c=>(ah i,{ bL k c.1 ow (bif k.tys.all (fun t=>aa t ow) then [] else [(jA i,0)]) .anon true with fixed:=true }) :: iI ps (i+1) c.2
 | .own k ow :: ps,i,c=>(ah i,bL k c.1 ow (bif k.tys.all (fun t=>aa t ow) then [] else [(jA i,0)]) .anon) :: iI ps (i+1) c.2
 | .fn _ ks :: ps,i,c=>iI ps (i+1) (Cont.snd ks (kin ps) c)
 | .into _ p :: ps,i,c=>iI ps (i+1) (Cont.snd (aV.into 0 p).kin (kin ps) c)
def jm:List (Nat×AV)->Nat->gM
 | [],_=>.one .undef
 | (s,a) :: l,n=>bif Nat.beq n s then .one a else jm l n
def iJ:List (Nat×Root)->Nat->Option Root
 | [],_=>none
 | (s,a) :: l,n=>bif Nat.beq n s then some a else iJ l n
def fD (ps:List aV) (c:Cont (kin ps)):St:=⟨jm (gp ps 0 c),iJ (iI ps 0 c)⟩
def rH (exts bE:List Nat) (tags:List Tag):Bool:=tags.all fun t=>
 bif gZ t.1 then aa (t.1 / 4) exts else bif Nat.beq (t.1 % 4) 0 then aa (t.1 / 4) bE else true
def Db {J:Type} (T:bH) (own:Bool) (rv:ResultVar) (k:AV->Prog J):Prog J:=match rv with
 | .tmp t=>eP (.tmp t) k
 | .cell t ty=>eP (.tmp t) fun a=>yA T own ty a k
def zR {J:Type} (T:bH):(rs:List gN)->List ResultVar->(Cont (eO rs)->List eU->List (List Tag)->Prog J)->Prog J
 | [],[],k=>k () [] []
 | .val kk exts bE :: rs,v :: vs,k=>
  let go (x:El kk) (tags:List Tag):Prog J:=bif kk.flat || rH exts bE tags then zR T rs vs fun c ts tg=>k (x,c) ts (tags :: tg) else .fail
  Db T false v fun a=>match a with
  | .fG=>match kk,go with
   | .sl _ _,go=>go [] []
   | _,_=>.fail
  | a=>qw a fun k' x tags=>match bU k' kk x with
   | some y=>go y (bif kk.flat then [] else tags)
   | none=>.fail
 | .own kk ow exts bE :: rs,v :: vs,k=>Db T true v fun a=>sN kk a fun tk=>match bU tk.k kk tk.x with
  | some y=>bif iK (kk.tys.filter fun t=>aa t ow) tk.own && (kk.tys.all (fun t=>aa t ow) || rH exts bE tk.tags) then zR T rs vs fun c ts tg=>k (y,c) (tk :: ts) tg else .fail
  | none=>.fail
 | _,_,_=>.fail
def MZ (Z:St) (i:Nat):Option Root:=match Z.roots (ah i) with
 | some R=>bif R.bY || !cO Z R.qJ R.tags then none else some R
 | none=>none
def nR (Z:St):(ps:List aV)->Nat->Option (Cont (gq ps))
 | [],_=>some ()
 | .rw k ow wt ht :: ps,i=>match MZ Z i,nR Z ps (i+1) with
  | some R,some d=>bif v_ k R.own ow && xx R (some (wt,ht)) && (k.tys.all (fun t=>aa t ow) || rH [i] [] R.tags) then
    match bU R.k k R.x with
    | some x=>some (x,d)
    | none=>none
   else none
  | _,_=>none
 | .bR k ow wt :: ps,i=>match MZ Z i,nR Z ps (i+1) with
  | some R,some d=>bif v_ k R.own ow && xx R (some (wt,k.tys)) && (k.tys.all (fun t=>aa t ow) || rH [i] [] R.tags) then
    match bU R.k k R.x with
    | some x=>some (x,d)
    | none=>none
   else none
  | _,_=>none
 | .val _ _ :: ps,i=>nR Z ps (i+1)
 | .ro _ :: ps,i=>nR Z ps (i+1)
 | .own _ _ :: ps,i=>nR Z ps (i+1)
 | .fn _ _ :: ps,i=>nR Z ps (i+1)
 | .into _ _ :: ps,i=>nR Z ps (i+1)
def fin (T:bH) (ps:List aV) (rs:List gN) (rv:List ResultVar) (Z:St):Option (Cont (eO rs++gq ps)):=
 (zR T rs rv fun c ts tg=>bif sO (ts.flatMap (·.ws)) (ts.flatMap (·.tags)++tg.flatten) then .ret (c,ts.flatMap (·.ws)) else .fail:Prog (Cont (eO rs)×List Wr)).run Z fun q=>
  match nR (aC q.2 Z) ps 0 with
  | some d=>some (Cont.app (eO rs) (gq ps) q.1 d)
  | none=>none
def Root.aab (R:Root) (t:TypeId):Bool:=match R.kind with
 | .var u=>Nat.beq t u
 | _=>false
def NW {J:Type} (t:TypeId) (kk:K) (ow:List TypeId) (exts:List Nat) (a:AV) (k:El kk->Nat->Prog J):Prog J:=match a with
 | .ptr r [] _=>jo r fun R=>bif R.aab t && iK (kk.tys.filter fun t=>aa t ow) R.own && (kk.tys.all (fun t=>aa t ow) || rH exts [] R.tags) then
   match bU R.k kk R.x with
   | some y=>k y r
   | none=>.fail
  else .fail
 | _=>.fail
def cutV {J:Type} (j:Nat) (a:AV) (k:Int->Prog J):Prog J:=match a with
 | .ref r g=>bif Nat.beq r (ah j) && Nat.beq g 0 then jo r fun R=>bif Nat.beq R.g 0 then match R.k,R.x with
   | .sl _ kk,xs=>k ((show List (El kk) from xs).length:Int)
   | _,_=>.fail
  else .fail
  else .fail
 | .part r g lo hi _=>bif Nat.beq r (ah j) && Nat.beq g 0 && Nat.beq lo 0 then k (hi:Int) else .fail
 | _=>.fail
def MX (T:bH) (ps:List aV):(rs:List gN)->List ResultVar->St->Option (Cont (eO rs++gq ps))
 | [.ptr t kk ow exts],[rv],Z=>(Db T false rv fun a=>NW t kk ow exts a fun y r=>.ret (y,r):Prog (El kk×Nat)).run Z fun q=>
   match nR (aC [.r q.2 none] Z) ps 0 with
   | some d=>some (q.1,d)
   | none=>none
 | [.into j []],[rv],Z=>(Db T false rv fun a=>cutV j a fun m=>.ret m:Prog Int).run Z fun m=>
   match nR Z ps 0 with
   | some d=>some (m,d)
   | none=>none
 | rs,gL,Z=>fin T ps rs gL Z
def wm:List aV->Nat->List (Nat×K×List TypeId×List TypeId)
 | [],_=>[]
 | .rw k _ wt ht :: ps,i=>(ah i,k,wt,ht) :: wm ps (i+1)
 | .bR k _ wt :: ps,i=>(ah i,k,wt,k.tys) :: wm ps (i+1)
 | _ :: ps,i=>wm ps (i+1)
def MW (T:bH) (hi:Hint) (fn:Func) (ps:List aV) (rs:List gN) (n:Nat) (c:Cont (kin ps)):Option (Cont (eO rs++gq ps)):=
 match fn.body with
 | some code=>den T { hi with nt:=fn.ntmps,fP:=wm ps 0 } n (zA (eO rs++gq ps)) 0 code (fD ps c) fun
  | .ret,Z=>MX T ps rs fn.results.toList Z
  | .normal,Z=>MX T ps rs fn.results.toList Z
  | _,_=>none
 | none=>none
end
section
open Go
class Fr where
 free:Nat->Prop
 obj:Nat->Option Obj
 bI:Nat->Value
 SI:bI 0=.slice none 0 0
 Z7:∀i,∃a n c,bI i=.slice a n c
abbrev amv:Fr:=⟨fun _=>False,fun _=>none,fun _=>.slice none 0 0,rfl,fun _=>⟨none,0,0,rfl⟩⟩
variable [Fr]
structure jq (n lo hi:Nat):Prop where
 le:lo<=hi
 out:∀i,i<n->¬(lo<=i/\i<hi)
instance {n lo hi:Nat}:CoeFun (jq n lo hi) (fun _=>∀i,i<n->¬(lo<=i/\i<hi)):=⟨jq.out⟩
theorem jq.zero {n:Nat}:jq n 0 0:=⟨bN _,fun _ _=>by omega⟩
abbrev Heap:=Nat->Option Obj
def hp (w:World):Heap:=fun b=>w.heap[b]?
def cellAt (h:Heap) (b o:Nat):Option Value:=match h b with
 | some (.cells c _ _)=>c[o]?
 | _=>none
def jS (h:Heap) (b:Nat):Option TypeId:=match h b with
 | some (.cells _ e _)=>some e
 | _=>none
def Cells (h:Heap) (b o:Nat) (cs:List Value):Prop:=∀i,i<cs.length->cellAt h b (o+i)=cs[i]?
theorem zI (w:World) (b o:Nat):w.cell? ⟨b,o,none⟩=cellAt (hp w) b o:=by
 unfold World.cell? cellAt hp
 cases w.heap[b]? with
 | none=>rfl
 | some x=>cases x <;> rfl
theorem BS {h h':Heap} {b:Nat} (e:h' b=h b) (o:Nat):cellAt h' b o=cellAt h b o:=by unfold cellAt; rw [e]
def l9 (h:Heap) (b:Nat) (e:TypeId):Prop:=jS h b=some e\/Fr.free b
theorem Yt {h h':Heap} {b:Nat} (e:h' b=h b):jS h' b=jS h b:=by unfold jS; rw [e]
theorem Yr {h h':Heap} {b:Nat} {t:TypeId} (e:h' b=h b) (H:l9 h b t):l9 h' b t:=H.imp (fun H=>(Yt e).trans H) id
theorem Cells.congr {h h':Heap} {b o:Nat} {cs:List Value} (e:h' b=h b) (H:Cells h b o cs):Cells h' b o cs:=fun i hi=>(BS e _).trans (H i hi)
def mG:IntKind->Int->Prop
 | .u8,n=>0<=n/\n<256
 | _,_=>True
def Vw (h:Heap) (ok:Nat->Prop):(k:K)->El k->List Value->Prop
 | .int ik,n,cs=>cs=[.int ik n]/\mG ik n
 | .bool,b,cs=>cs=[.bool b]
 | .str,s,cs=>∃B:ByteArray,cs=[.string B]/\(show List Int from s)=bytesOf B
 | .sl e k,xs,cs=>∃a n c,cs=[.slice a n c]/\n=(show List (El k) from xs).length/\n<=c/\
   (0<n->∃b o,a=some ⟨b,o,none⟩/\ok b/\l9 h b e/\
    ∀(i:Nat) (hi:i<(show List (El k) from xs).length),∃ds,Cells h b (o+i * k.size) ds/\Vw h ok k ((show List (El k) from xs)[i]) ds)
 | .unit,_,cs=>cs=[]
 | .pair a b,x,cs=>∃c1 c2,cs=c1++c2/\Vw h ok a x.1 c1/\Vw h ok b x.2 c2
 | .st f,x,cs=>Vw h ok f x cs
 | .gap n,_,cs=>cs.length=n
 | .id _,i,cs=>cs=[Fr.bI (show Nat from i)]
def Ow (h:Heap) (own:List TypeId) (ok:Nat->Prop):(k:K)->El k->List Value->List Nat->Prop
 | .sl e k,xs,cs,fo=>if aa e own=true then
   ∃a n c,cs=[.slice a n c]/\n=(show List (El k) from xs).length/\n<=c/\
    ((c=0/\fo=[])\/∃b o arr lo hi,a=some ⟨b,o,none⟩/\h b=some (.cells arr e (lo,hi))/\jq arr.size lo hi/\o+c * k.size<=arr.size/\
     ∃ay:List (List Nat),ay.length=(show List (El k) from xs).length/\fo.Perm (b :: ay.flatten)/\
      ∀(i:Nat) (hi:i<(show List (El k) from xs).length),∃ds,Cells h b (o+i * k.size) ds/\Ow h own ok k ((show List (El k) from xs)[i]) ds (ay.getD i []))
  else fo=[]/\Vw h ok (.sl e k) xs cs
 | .pair a b,x,cs,fo=>∃c1 c2 f1 f2,cs=c1++c2/\fo.Perm (f1++f2)/\Ow h own ok a x.1 c1 f1/\Ow h own ok b x.2 c2 f2
 | .st f,x,cs,fo=>Ow h own ok f x cs fo
 | .int ik,n,cs,fo=>fo=[]/\Vw h ok (.int ik) n cs
 | .bool,n,cs,fo=>fo=[]/\Vw h ok .bool n cs
 | .str,n,cs,fo=>fo=[]/\Vw h ok .str n cs
 | .unit,_,cs,fo=>fo=[]/\cs=[]
 | .gap n,_,cs,fo=>fo=[]/\cs.length=n
 | .id e,i,cs,fo=>fo=[]/\Vw h ok (.id e) i cs
theorem nO {h:Heap} {ok:Nat->Prop}:∀{k:K} {x:El k} {cs:List Value},Vw h ok k x cs->cs.length=k.size:=by
 intro k
 induction k with
 | int ik=>intro x cs H; rw [H.1]; rfl
 | bool=>intro x cs H; rw [show cs=_ from H]; rfl
 | id e=>intro x cs H; rw [show cs=_ from H]; rfl
 | str=>intro x cs H; obtain ⟨B,rfl,_⟩:=H; rfl
 | sl e k ih=>intro x cs H; obtain ⟨a,n,c,rfl,_⟩:=H; rfl
 | unit=>intro x cs H; rw [show cs=_ from H]; rfl
 | pair a b iha ihb=>intro x cs H; obtain ⟨c1,c2,rfl,h1,h2⟩:=H; simp [K.size,iha h1,ihb h2]
 | st f ih=>intro x cs H; exact ih (x:=x) H
 | gap n=>intro x cs H; exact H
theorem lN {h h':Heap} {ok ok':Nat->Prop} (hh:∀b,ok b->h' b=h b) (hk:∀b,ok b->ok' b):∀{k:K} {x:El k} {cs:List Value},Vw h ok k x cs->Vw h' ok' k x cs:=by
 intro k
 induction k with
 | int ik=>intro x cs H; exact H
 | bool=>intro x cs H; exact H
 | id e=>intro x cs H; exact H
 | str=>intro x cs H; exact H
 | sl e k ih=>
  intro x cs H
  obtain ⟨a,n,c,e1,e2,e3,H⟩:=H
  refine ⟨a,n,c,e1,e2,e3,fun hn=>?_⟩
  obtain ⟨b,o,ea,hb,ht,H⟩:=H hn
  refine ⟨b,o,ea,hk b hb,Yr (hh b hb) ht,fun i hi=>?_⟩
  obtain ⟨ds,h1,h2⟩:=H i hi
  exact ⟨ds,h1.congr (hh b hb),ih h2⟩
 | unit=>intro x cs H; exact H
 | pair a b iha ihb=>intro x cs H; obtain ⟨c1,c2,e,h1,h2⟩:=H; exact ⟨c1,c2,e,iha h1,ihb h2⟩
 | st f ih=>intro x cs H; exact ih (x:=x) H
 | gap n=>intro x cs H; exact H
theorem ni {h h':Heap} {ok ok':Nat->Prop}:∀{k:K} {x:El k} {cs:List Value},k.flat=true->Vw h ok k x cs->Vw h' ok' k x cs:=by
 intro k
 induction k with
 | sl e k ih=>intro x cs h; simp [K.flat] at h
 | gap n=>intro x cs h; simp [K.flat] at h
 | pair a b iha ihb=>
  intro x cs h H
  simp only [K.flat,bg] at h
  obtain ⟨c1,c2,e,h1,h2⟩:=H
  exact ⟨c1,c2,e,iha h.1 h1,ihb h.2 h2⟩
 | st f ih=>intro x cs h H; exact ih (x:=x) h H
 | _=>intro x cs _ H; exact H
theorem Ig {h:Heap} {ok:Nat->Prop}:∀{k:K} {x:El k} {cs:List Value} (ts:List TypeId),(∀t∈k.tys,t∈ts)->Vw h ok k x cs->Vw h (fun b=>ok b/\∃t∈ts,l9 h b t) k x cs:=by
 intro k
 induction k with
 | int ik=>intro x cs ts _ H; exact H
 | bool=>intro x cs ts _ H; exact H
 | id e=>intro x cs ts _ H; exact H
 | str=>intro x cs ts _ H; exact H
 | sl e k ih=>
  intro x cs ts hts H
  obtain ⟨a,n,c,e1,e2,e3,H⟩:=H
  refine ⟨a,n,c,e1,e2,e3,fun hn=>?_⟩
  obtain ⟨b,o,ea,hb,ht,H⟩:=H hn
  refine ⟨b,o,ea,⟨hb,e,hts e (by simp [K.tys]),ht⟩,ht,fun i hi=>?_⟩
  obtain ⟨ds,h1,h2⟩:=H i hi
  exact ⟨ds,h1,ih ts (fun t h=>hts t (by simp [K.tys,h])) h2⟩
 | unit=>intro x cs ts _ H; exact H
 | pair a b iha ihb=>
  intro x cs ts hts H
  obtain ⟨c1,c2,e,h1,h2⟩:=H
  exact ⟨c1,c2,e,iha ts (fun t h=>hts t (by simp [K.tys,h])) h1,ihb ts (fun t h=>hts t (by simp [K.tys,h])) h2⟩
 | st f ih=>intro x cs ts hts H; exact ih (x:=x) ts hts H
 | gap n=>intro x cs ts _ H; exact H
theorem fM {h:Heap} {own:List TypeId} {ok:Nat->Prop}:∀{k:K} {x:El k} {cs:List Value} {fo:List Nat},Ow h own ok k x cs fo->cs.length=k.size:=by
 intro k
 induction k with
 | int ik=>intro x cs fo H; exact nO H.2
 | bool=>intro x cs fo H; exact nO H.2
 | id e=>intro x cs fo H; exact nO H.2
 | str=>intro x cs fo H; exact nO H.2
 | sl e k ih=>
  intro x cs fo H
  unfold Ow at H
  split at H
  ·obtain ⟨a,n,c,rfl,_⟩:=H; rfl
  ·exact nO H.2
 | unit=>intro x cs fo H; rw [H.2]; rfl
 | pair a b iha ihb=>intro x cs fo H; obtain ⟨c1,c2,f1,f2,rfl,_,h1,h2⟩:=H; simp [K.size,iha h1,ihb h2]
 | st f ih=>intro x cs fo H; exact ih (x:=x) H
 | gap n=>intro x cs fo H; exact H.2
theorem vW {ay:List (List Nat)} {i:Nat} {b:Nat} (h:b∈ay.getD i []):b∈ay.flatten:=by
 rw [ig] at h
 cases hi:ay[i]? with
 | none=>rw [hi] at h; simp at h
 | some l=>rw [hi] at h; exact BA.2 ⟨l,qo hi,by simpa using h⟩
theorem dY {h h':Heap} {own:List TypeId} {ok ok':Nat->Prop} (hh:∀b,ok b->h' b=h b) (hk:∀b,ok b->ok' b) :
  ∀{k:K} {x:El k} {cs:List Value} {fo:List Nat},(∀b∈fo,h' b=h b)->Ow h own ok k x cs fo->Ow h' own ok' k x cs fo:=by
 intro k
 induction k with
 | int ik=>intro x cs fo _ H; exact ⟨H.1,lN hh hk H.2⟩
 | bool=>intro x cs fo _ H; exact ⟨H.1,lN hh hk H.2⟩
 | id e=>intro x cs fo _ H; exact ⟨H.1,lN hh hk H.2⟩
 | str=>intro x cs fo _ H; exact ⟨H.1,lN hh hk H.2⟩
 | sl e k ih=>
  intro x cs fo hfo H
  unfold Ow at H ⊢
  split
  ·rename_i hm
   rw [aj hm] at H
   obtain ⟨a,n,c,e1,e2,e3,H⟩:=H
   refine ⟨a,n,c,e1,e2,e3, ?_⟩
   rcases H with H | ⟨b,o,arr,lo,hi,ea,hb,hf,hs,ay,hl,hp,H⟩
   ·exact .inl H
   ·have hbb:h' b=h b:=hfo b (hp.mem_iff.2 (by simp))
    refine .inr ⟨b,o,arr,lo,hi,ea,hbb.trans hb,hf,hs,ay,hl,hp,fun i hi=>?_⟩
    obtain ⟨ds,h1,h2⟩:=H i hi
    exact ⟨ds,h1.congr hbb,ih (fun b' hb'=>hfo b' (hp.mem_iff.2 (by simp [vW hb']))) h2⟩
  ·rename_i hm
   rw [aA hm] at H
   exact ⟨H.1,lN hh hk H.2⟩
 | unit=>intro x cs fo _ H; exact H
 | pair a b iha ihb=>
  intro x cs fo hfo H
  obtain ⟨c1,c2,f1,f2,e,hp,h1,h2⟩:=H
  exact ⟨c1,c2,f1,f2,e,hp,iha (fun b hb=>hfo b (hp.mem_iff.2 (by simp [hb]))) h1,ihb (fun b hb=>hfo b (hp.mem_iff.2 (by simp [hb]))) h2⟩
 | st f ih=>intro x cs fo hfo H; exact ih (x:=x) hfo H
 | gap n=>intro x cs fo _ H; exact H
theorem tu {h:Heap} {own:List TypeId} {ok:Nat->Prop}:∀{k:K} {x:El k} {cs:List Value} {fo:List Nat} (ts:List TypeId),(∀t∈bu own k,t∈ts)->Ow h own ok k x cs fo->Ow h own (fun b=>ok b/\∃t∈ts,l9 h b t) k x cs fo:=by
 intro k
 induction k with
 | int ik=>intro x cs fo ts _ H; exact H
 | bool=>intro x cs fo ts _ H; exact H
 | id e=>intro x cs fo ts _ H; exact H
 | str=>intro x cs fo ts _ H; exact H
 | sl e k ih=>
  intro x cs fo ts hts H
  unfold Ow at H ⊢
  split
  ·rename_i hm
   rw [aj hm] at H
   obtain ⟨a,n,c,e1,e2,e3,H⟩:=H
   refine ⟨a,n,c,e1,e2,e3, ?_⟩
   rcases H with H | ⟨b,o,arr,lo,hi,ea,hb,hf,hs,ay,hl,hp,H⟩
   ·exact .inl H
   ·refine .inr ⟨b,o,arr,lo,hi,ea,hb,hf,hs,ay,hl,hp,fun i hi=>?_⟩
    obtain ⟨ds,h1,h2⟩:=H i hi
    exact ⟨ds,h1,ih ts (fun t ht=>hts t (by simp [bu,hm,ht])) h2⟩
  ·rename_i hm
   rw [aA hm] at H
   exact ⟨H.1,Ig ts (fun t ht=>hts t (by simpa [bu,hm,K.tys] using ht)) H.2⟩
 | unit=>intro x cs fo ts _ H; exact H
 | pair a b iha ihb=>
  intro x cs fo ts hts H
  obtain ⟨c1,c2,f1,f2,e,hp,h1,h2⟩:=H
  exact ⟨c1,c2,f1,f2,e,hp,iha ts (fun t h=>hts t (by simp [bu,h])) h1,ihb ts (fun t h=>hts t (by simp [bu,h])) h2⟩
 | st f ih=>intro x cs fo ts hts H; exact ih (x:=x) ts hts H
 | gap n=>intro x cs fo ts _ H; exact H
theorem qp {h:Heap} {own:List TypeId} {ok:Nat->Prop} (ok':Nat->Prop) (hk:∀b,ok b->ok' b) :
  ∀{k:K} {x:El k} {cs:List Value} {fo:List Nat},(∀b∈fo,ok' b)->Ow h own ok k x cs fo->Vw h ok' k x cs:=by
 intro k
 induction k with
 | int ik=>intro x cs fo _ H; exact lN (fun _ _=>rfl) hk H.2
 | bool=>intro x cs fo _ H; exact lN (fun _ _=>rfl) hk H.2
 | id e=>intro x cs fo _ H; exact lN (fun _ _=>rfl) hk H.2
 | str=>intro x cs fo _ H; exact lN (fun _ _=>rfl) hk H.2
 | sl e k ih=>
  intro x cs fo hfo H
  unfold Ow at H
  split at H
  ·obtain ⟨a,n,c,e1,e2,e3,H⟩:=H
   refine ⟨a,n,c,e1,e2,e3,fun hn=>?_⟩
   rcases H with H | ⟨b,o,arr,lo,hi,ea,hb,hf,hs,ay,hl,hp,H⟩
   ·omega
   ·refine ⟨b,o,ea,hfo b (hp.mem_iff.2 (by simp)),by refine .inl ?_; unfold jS; rw [hb],fun i hi=>?_⟩
    obtain ⟨ds,h1,h2⟩:=H i hi
    exact ⟨ds,h1,ih (fun b' hb'=>hfo b' (hp.mem_iff.2 (by simp [vW hb']))) h2⟩
  ·exact lN (fun _ _=>rfl) hk H.2
 | unit=>intro x cs fo _ H; exact H.2
 | pair a b iha ihb=>
  intro x cs fo hfo H
  obtain ⟨c1,c2,f1,f2,e,hp,h1,h2⟩:=H
  exact ⟨c1,c2,e,iha (fun b hb=>hfo b (hp.mem_iff.2 (by simp [hb]))) h1,ihb (fun b hb=>hfo b (hp.mem_iff.2 (by simp [hb]))) h2⟩
 | st f ih=>intro x cs fo hfo H; exact ih (x:=x) hfo H
 | gap n=>intro x cs fo _ H; exact H.2
theorem xU {h:Heap} {own own':List TypeId} {ok:Nat->Prop} :
  ∀{k:K} {x:El k} {cs:List Value} {fo:List Nat},(∀t∈k.tys,aa t own'=true->aa t own=true)->Ow h own ok k x cs fo->
   ∃aF fd,fo.Perm (aF++fd)/\Ow h own' (fun b=>ok b\/b∈fd) k x cs aF:=by
 intro k
 induction k with
 | int ik=>intro x cs fo _ H; exact ⟨[],[],by rw [H.1]; exact .refl _,rfl,lN (fun _ _=>rfl) (fun _ h=>.inl h) H.2⟩
 | bool=>intro x cs fo _ H; exact ⟨[],[],by rw [H.1]; exact .refl _,rfl,lN (fun _ _=>rfl) (fun _ h=>.inl h) H.2⟩
 | id e=>intro x cs fo _ H; exact ⟨[],[],by rw [H.1]; exact .refl _,rfl,lN (fun _ _=>rfl) (fun _ h=>.inl h) H.2⟩
 | str=>intro x cs fo _ H; exact ⟨[],[],by rw [H.1]; exact .refl _,rfl,lN (fun _ _=>rfl) (fun _ h=>.inl h) H.2⟩
 | sl e k ih=>
  intro x cs fo ht H
  by_cases hm':aa e own'=true
  ·have hm:=ht e (by simp [K.tys]) hm'
   unfold Ow at H
   rw [aj hm] at H
   obtain ⟨a,n,c,e1,e2,e3,H⟩:=H
   rcases H with ⟨h0,h1⟩ | ⟨b,o,arr,lo,hi,ea,hb,hf,hs,ay,hl,hp,H⟩
   ·refine ⟨[],[],by rw [h1]; exact .refl _, ?_⟩
    unfold Ow
    rw [aj hm']
    exact ⟨a,n,c,e1,e2,e3, .inl ⟨h0,rfl⟩⟩
   ·
    have step:∀i:Nat,∃p:List Nat×List Nat,(hi:i<(show List (El k) from x).length)->((ay.getD i []).Perm (p.1++p.2)/\∃ds,Cells h b (o+i * k.size) ds/\Ow h own' (fun b=>ok b\/b∈p.2) k ((show List (El k) from x)[i]) ds p.1):=by
     intro i
     by_cases hi:i<(show List (El k) from x).length
     ·obtain ⟨ds,h1,h2⟩:=H i hi
      obtain ⟨aF,fd,hp',h3⟩:=ih (fun t ht'=>ht t (by simp [K.tys,ht'])) h2
      exact ⟨(aF,fd),fun _=>⟨hp',ds,h1,h3⟩⟩
     ·exact ⟨([],[]),fun h=>absurd h hi⟩
    have ⟨q,hq⟩:∃q:Nat->List Nat×List Nat,∀i,(hi:i<(show List (El k) from x).length)->((ay.getD i []).Perm ((q i).1++(q i).2)/\∃ds,Cells h b (o+i * k.size) ds/\Ow h own' (fun b=>ok b\/b∈(q i).2) k ((show List (El k) from x)[i]) ds (q i).1):=
     ⟨fun i=>Classical.choose (step i),fun i=>Classical.choose_spec (step i)⟩
    let N:=(show List (El k) from x).length
    refine ⟨b :: (List.range N).flatMap (fun i=>(q i).1),(List.range N).flatMap (fun i=>(q i).2), ?_, ?_⟩
    ·refine hp.trans ?_
     rw [kX]
     refine .cons b ?_
     have akm:ay.flatten=(List.range N).flatMap (fun i=>ay.getD i []):=by
      rw [List.flatMap_def]
      congr 1
      apply LZ
      ·simp [N,hl]
      ·intro i h1 h2
       simp [ig,jd h1]
     rw [akm]
     have gen:∀l:List Nat,(∀i∈l,i<N)->(l.flatMap (fun i=>ay.getD i [])).Perm (l.flatMap (fun i=>(q i).1)++l.flatMap (fun i=>(q i).2)):=by
      intro l
      induction l with
      | nil=>intro _; exact .refl _
      | cons i l ihl=>
       intro hl'
       simp only [kQ]
       have h1:=(hq i (hl' i (by simp))).1
       have h2:=ihl (fun j hj=>hl' j (by simp [hj]))
       refine (h1.append h2).trans ?_
       simp only [gD]
       refine vo _ ?_
       rw [<-gD, <-gD]
       exact sU _ BB
     exact gen _ (fun i hi=>List.mem_range.1 hi)
    ·unfold Ow
     rw [aj hm']
     refine ⟨a,n,c,e1,e2,e3, .inr ⟨b,o,arr,lo,hi,ea,hb,hf,hs,(List.range N).map (fun i=>(q i).1),by simp [N],by rw [List.flatMap_def],fun i hi=>?_⟩⟩
     obtain ⟨ds,h1,h2⟩:=(hq i hi).2
     refine ⟨ds,h1, ?_⟩
     have:(List.map (fun i=>(q i).1) (List.range N)).getD i []=(q i).1:=by
      rw [ig,DZ,L_ hi]; rfl
     rw [this]
     exact dY (fun _ _=>rfl) (fun b' hb'=>hb'.imp id (fun h=>jZ.2 ⟨i,List.mem_range.2 hi,h⟩)) (fun _ _=>rfl) h2
  ·refine ⟨[],fo,by simp, ?_⟩
   unfold Ow
   rw [aA hm']
   exact ⟨rfl,qp _ (fun _ h=>.inl h) (fun _ h=>.inr h) H⟩
 | unit=>intro x cs fo _ H; exact ⟨[],[],by rw [H.1]; exact .refl _,rfl,H.2⟩
 | pair a b iha ihb=>
  intro x cs fo ht H
  obtain ⟨c1,c2,f1,f2,e,hp,h1,h2⟩:=H
  obtain ⟨g1,d1,p1,r1⟩:=iha (fun t h=>ht t (by simp [K.tys,h])) h1
  obtain ⟨g2,d2,p2,r2⟩:=ihb (fun t h=>ht t (by simp [K.tys,h])) h2
  refine ⟨g1++g2,d1++d2,(hp.trans (p1.append p2)).trans ?_,c1,c2,g1,g2,e, .refl _, ?_, ?_⟩
  ·simp only [gD]
   refine vo _ ?_
   rw [<-gD, <-gD]
   exact sU _ BB
  ·exact dY (fun _ _=>rfl) (fun b' hb'=>hb'.imp id (fun h=>by simp [h])) (fun _ _=>rfl) r1
  ·exact dY (fun _ _=>rfl) (fun b' hb'=>hb'.imp id (fun h=>by simp [h])) (fun _ _=>rfl) r2
 | st f ih=>intro x cs fo ht H; exact ih (x:=x) ht H
 | gap n=>intro x cs fo _ H; exact ⟨[],[],by rw [H.1]; exact .refl _,rfl,H.2⟩
theorem vv {h:Heap} {own own':List TypeId} {ok:Nat->Prop} :
  ∀{k:K} {x:El k} {cs:List Value} {fo:List Nat},(∀t∈k.tys,aa t own'=aa t own)->Ow h own ok k x cs fo->Ow h own' ok k x cs fo:=by
 intro k
 induction k with
 | int ik=>intro x cs fo _ H; exact H
 | bool=>intro x cs fo _ H; exact H
 | id e=>intro x cs fo _ H; exact H
 | str=>intro x cs fo _ H; exact H
 | sl e k ih=>
  intro x cs fo ht H
  unfold Ow at H ⊢
  rw [ht e (by simp [K.tys])]
  split
  ·rename_i hm
   rw [aj hm] at H
   obtain ⟨a,n,c,e1,e2,e3,H⟩:=H
   refine ⟨a,n,c,e1,e2,e3, ?_⟩
   rcases H with H | ⟨b,o,arr,lo,hi,ea,hb,hf,hs,ay,hl,hp,H⟩
   ·exact .inl H
   ·refine .inr ⟨b,o,arr,lo,hi,ea,hb,hf,hs,ay,hl,hp,fun i hi=>?_⟩
    obtain ⟨ds,h1,h2⟩:=H i hi
    exact ⟨ds,h1,ih (fun t ht'=>ht t (by simp [K.tys,ht'])) h2⟩
  ·rename_i hm
   rw [aA hm] at H
   exact H
 | unit=>intro x cs fo _ H; exact H
 | pair a b iha ihb=>
  intro x cs fo ht H
  obtain ⟨c1,c2,f1,f2,e,hp,h1,h2⟩:=H
  exact ⟨c1,c2,f1,f2,e,hp,iha (fun t h=>ht t (by simp [K.tys,h])) h1,ihb (fun t h=>ht t (by simp [K.tys,h])) h2⟩
 | st f ih=>intro x cs fo ht H; exact ih (x:=x) ht H
 | gap n=>intro x cs fo _ H; exact H
theorem ze {h:Heap} {own:List TypeId} {ok:Nat->Prop}:∀{k:K} {x:El k} {cs:List Value},(∀t∈k.tys,aa t own=false)->Vw h ok k x cs->Ow h own ok k x cs []:=by
 intro k
 induction k with
 | int ik=>intro x cs _ H; exact ⟨rfl,H⟩
 | bool=>intro x cs _ H; exact ⟨rfl,H⟩
 | id e=>intro x cs _ H; exact ⟨rfl,H⟩
 | str=>intro x cs _ H; exact ⟨rfl,H⟩
 | sl e k ih=>
  intro x cs ht H
  unfold Ow
  rw [aA (by rw [ht e (by simp [K.tys])]; simp)]
  exact ⟨rfl,H⟩
 | unit=>intro x cs _ H; exact ⟨rfl,H⟩
 | pair a b iha ihb=>
  intro x cs ht H
  obtain ⟨c1,c2,e,h1,h2⟩:=H
  exact ⟨c1,c2,[],[],e, .refl _,iha (fun t h=>ht t (by simp [K.tys,h])) h1,ihb (fun t h=>ht t (by simp [K.tys,h])) h2⟩
 | st f ih=>intro x cs ht H; exact ih (x:=x) ht H
 | gap n=>intro x cs _ H; exact ⟨rfl,H⟩
end
section
open Go
variable [Fr]
def bO:Nat->K->Option (Nat×K)
 | 0, .pair a _=>some (0,a)
 | n+1, .pair a b=>match bO n b with
  | some (o,k)=>some (a.size+o,k)
  | none=>none
 | _,_=>none
def iY (h:Heap) (b o n:Nat):List Value:=(List.range n).map fun j=>(cellAt h b (o+j)).getD undef
theorem yH {h:Heap} {b o:Nat} {cs:List Value} (H:Cells h b o cs):iY h b o cs.length=cs:=by
 unfold iY
 apply LZ
 ·simp
 ·intro i h1 h2
  simp [H i h2,jd h2]
def aT (h:Heap):List Stp->(k:K)->List Value->Option (Nat×Nat)->Option (List Value×Option (Nat×Nat))
 | [],_,cs,wh=>some (cs,wh)
 | .aZ n :: p, .st c,cs,wh=>match bO n c with
  | some (off,k')=>aT h p k' ((cs.drop off).take k'.size) (wh.map fun q=>(q.1,q.2+off))
  | none=>none
 | .idx i :: p, .sl _ k,cs,_=>match cs with
  | [.slice (some a) _ _]=>aT h p k (iY h a.block (a.off+i.toNat * k.size) k.size) (some (a.block,a.off+i.toNat * k.size))
  | _=>none
 | _,_,_,_=>none
def bX:List Stp->(k:K)->El k->Prop
 | [],_,_=>True
 | .aZ n :: p, .st c,x=>match aS n c x with
  | some d=>bX p d.1 d.2
  | none=>False
 | .idx i :: p, .sl _ k,xs=>0<=i/\i<((show List (El k) from xs).length:Int)/\bX p k ((show List (El k) from xs).getD i.toNat k.zero)
 | _,_,_=>False
def mM (h h':Heap) (b o n:Nat):Prop:=
 ∃arr gG e fr,h b=some (.cells arr e fr)/\h' b=some (.cells gG e fr)/\gG.size=arr.size/\∀i,¬(o<=i/\i<o+n)->gG[i]?=arr[i]?
theorem mM.of_same {h h':Heap} {b:Nat} (o n:Nat) {arr:Array Value} {e:TypeId} {fr:Nat×Nat} (e1:h b=some (.cells arr e fr)) (e2:h' b=h b):mM h h' b o n:=
 ⟨arr,arr,e,fr,e1,e2.trans e1,rfl,fun _ _=>rfl⟩
theorem mM.cells {h h':Heap} {b o n o':Nat} {cs:List Value} (H:mM h h' b o n) (hc:Cells h b o' cs) (hd:o'+cs.length<=o\/o+n<=o'):Cells h' b o' cs:=by
 obtain ⟨arr,gG,e,fr,h1,h2,_,h3⟩:=H
 intro i hi
 have:=hc i hi
 unfold cellAt at this ⊢
 rw [h1] at this
 rw [h2]
 simp only at this ⊢
 rw [h3 _ (by omega)]
 exact this
theorem mM.cellAt {h h':Heap} {b o n:Nat} (H:mM h h' b o n) {i:Nat} (hi:¬(o<=i/\i<o+n)):cellAt h' b i=cellAt h b i:=by
 obtain ⟨arr,gG,e,fr,h1,h2,_,h3⟩:=H
 unfold Ow.cellAt
 rw [h1,h2]
 exact h3 i hi
theorem Cells.append {h:Heap} {b o:Nat} {c1 c2:List Value}:Cells h b o (c1++c2)↔Cells h b o c1/\Cells h b (o+c1.length) c2:=by
 constructor
 ·intro H
  refine ⟨fun i hi=>?_,fun i hi=>?_⟩
  ·rw [H i (by simp; omega),y9 hi]
  ·have:=H (c1.length+i) (by simp; omega)
   rw [xQ (by omega)] at this
   rw [nM,this]
   congr 1
   omega
 ·rintro ⟨H1,H2⟩ i hi
  by_cases h1:i<c1.length
  ·rw [H1 i h1,y9 h1]
  ·have:=H2 (i - c1.length) (by simp at hi; omega)
   rw [xQ (by omega), <-this]
   congr 1
   omega
theorem FL {a b c:List Nat}:(a++(b++c)).Perm (b++(a++c)):=by
 rw [<-gD, <-gD]
 exact sU _ BB
theorem Ip:∀(n:Nat) {c:K} {x:El c} {t z:Dat},dF n c x t=some z->aS n z.1 z.2=some t:=by
 intro n
 induction n with
 | zero=>
  intro c x t z h
  cases c with
  | pair a b=>simp only [dF,au] at h; subst h; rfl
  | _=>simp [dF] at h
 | succ n ih=>
  intro c x t z h
  cases c with
  | pair a b=>
   simp only [dF] at h
   cases h2:dF n b x.2 t with
   | none=>rw [h2] at h; simp at h
   | some y=>rw [h2] at h; simp only [au] at h; subst h; exact ih h2
  | _=>simp [dF] at h
theorem Yc:∀(n:Nat) {c:K} {x:El c} {s t z:Dat},aS n c x=some s->dF n c x t=some z->t.1=s.1->z.1=c:=by
 intro n
 induction n with
 | zero=>
  intro c x s t z hg h e
  cases c with
  | pair a b=>
   simp only [aS,au] at hg
   simp only [dF,au] at h
   subst hg; subst h
   simp only at e
   simp [e]
  | _=>simp [dF] at h
 | succ n ih=>
  intro c x s t z hg h e
  cases c with
  | pair a b=>
   simp only [aS] at hg
   simp only [dF] at h
   cases h2:dF n b x.2 t with
   | none=>rw [h2] at h; simp at h
   | some y=>rw [h2] at h; simp only [au] at h; subst h; simp [ih hg h2 e]
  | _=>simp [dF] at h
theorem QT:∀(n:Nat) {c:K} {x:El c} {t z:Dat} {off:Nat} {k':K},bO n c=some (off,k')->dF n c x t=some z->bO n z.1=some (off,t.1):=by
 intro n
 induction n with
 | zero=>
  intro c x t z off k' ho h
  cases c with
  | pair a b=>
   simp only [dF,au] at h
   subst h
   simp only [bO,au,bS] at ho ⊢
   exact ⟨ho.1,trivial⟩
  | _=>simp [dF] at h
 | succ n ih=>
  intro c x t z off k' ho h
  cases c with
  | pair a b=>
   simp only [dF] at h
   cases h2:dF n b x.2 t with
   | none=>rw [h2] at h; simp at h
   | some y=>
    rw [h2] at h
    simp only [au] at h
    subst h
    simp only [bO] at ho ⊢
    cases h3:bO n b with
    | none=>rw [h3] at ho; simp at ho
    | some q=>
     rw [h3] at ho
     simp only [oU,au,bS] at ho
     rw [ih (k':=q.2) (off:=q.1) (by rw [h3]) h2]
     simp [<-ho.1]
  | _=>simp [dF] at h
theorem MP {h:Heap} {own:List TypeId} {ok:Nat->Prop}:∀(n:Nat) {c:K} {x:El c} {cs:List Value} {fo:List Nat} {d:Dat},
  Ow h own ok c x cs fo->aS n c x=some d->
   ∃off pre cs1 post aX fr,bO n c=some (off,d.1)/\cs=pre++(cs1++post)/\pre.length=off/\fo.Perm (aX++fr)/\Ow h own ok d.1 d.2 cs1 aX/\
    (∀(h':Heap) (ok':Nat->Prop) (t:Dat) (jy:List Value) (lS:List Nat) (z:Dat),dF n c x t=some z->Ow h' own ok' t.1 t.2 jy lS->
     (∀b,ok b->ok' b/\h' b=h b)->(∀b∈fr,h' b=h b)->Ow h' own ok' z.1 z.2 (pre++(jy++post)) (lS++fr))/\
    ∀m s2,m≠n->aS m c x=some s2->∃off2 cs2 zT,bO m c=some (off2,s2.1)/\(cs.drop off2).take s2.1.size=cs2/\Ow h own ok s2.1 s2.2 cs2 zT/\(∀b∈zT,b∈fr)/\
     (∀jy:List Value,jy.length=d.1.size->((pre++(jy++post)).drop off2).take s2.1.size=cs2)/\∀t z,dF n c x t=some z->aS m z.1 z.2=some s2:=by
 intro n
 induction n with
 | zero=>
  intro c x cs fo d H hg
  cases c with
  | pair a b=>
   simp only [aS,au] at hg
   subst hg
   obtain ⟨c1,c2,f1,f2,e,hp,h1,h2⟩:=H
   refine ⟨0,[],c1,c2,f1,f2,rfl,by simpa using e,rfl,hp,h1, ?_, ?_⟩
   ·intro h' ok' t jy lS z hz ht hok hfr
    simp only [dF,au] at hz
    subst hz
    exact ⟨jy,c2,lS,f2,by simp, .refl _,ht,dY (fun b hb=>(hok b hb).2) (fun b hb=>(hok b hb).1) hfr h2⟩
   ·intro m s2 hm hg2
    cases m with
    | zero=>exact absurd rfl hm
    | succ m=>
     simp only [aS] at hg2
     have key:∀(m:Nat) {c:K} {x:El c} {cs:List Value} {fo:List Nat} {d:Dat},Ow h own ok c x cs fo->aS m c x=some d->
       ∃off cs1 aX,bO m c=some (off,d.1)/\(cs.drop off).take d.1.size=cs1/\(∀b∈aX,b∈fo)/\Ow h own ok d.1 d.2 cs1 aX:=by
      intro m
      induction m with
      | zero=>
       intro c x cs fo d H hg
       cases c with
       | pair a b=>
        simp only [aS,au] at hg
        subst hg
        obtain ⟨c1,c2,f1,f2,rfl,hp,h1,h2⟩:=H
        exact ⟨0,c1,f1,rfl,by simp [<-fM h1],fun b hb=>hp.mem_iff.2 (by simp [hb]),h1⟩
       | _=>simp [aS] at hg
      | succ m ih=>
       intro c x cs fo d H hg
       cases c with
       | pair a b=>
        simp only [aS] at hg
        obtain ⟨c1,c2,f1,f2,rfl,hp,h1,h2⟩:=H
        obtain ⟨off,cs1,aX,g1,g2,g3,g4⟩:=ih h2 hg
        refine ⟨a.size+off,cs1,aX,by simp [bO,g1], ?_,fun b hb=>hp.mem_iff.2 (by simp [g3 b hb]),g4⟩
        rw [<-g2, <-fM h1, <-sV]
        simp
       | _=>simp [aS] at hg
     obtain ⟨off2,cs2,zT,g1,g2,g3,g4⟩:=key m h2 hg2
     refine ⟨a.size+off2,cs2,zT,by simp [bO,g1], ?_,g4,g3, ?_, ?_⟩
     ·rw [e, <-g2, <-fM h1, <-sV]; simp
     ·intro jy hl
      simp only at hl
      rw [<-g2, <-hl, <-sV]; simp
     ·intro t z hz
      simp only [dF,au] at hz
      subst hz
      exact hg2
  | _=>simp [aS] at hg
 | succ n ih=>
  intro c x cs fo d H hg
  cases c with
  | pair a b=>
   simp only [aS] at hg
   obtain ⟨c1,c2,f1,f2,e,hp,h1,h2⟩:=H
   obtain ⟨off,pre,cs1,post,aX,fr,ho,ec,hl,hp',hd,hu,hoth⟩:=ih h2 hg
   refine ⟨a.size+off,c1++pre,cs1,post,aX,f1++fr, ?_,by rw [e,ec]; simp,by simp [fM h1,hl], ?_,hd, ?_, ?_⟩
   ·simp [bO,ho]
   ·exact (hp.trans (vo _ hp')).trans FL
   ·intro h' ok' t jy lS z hz ht hok hfr
    simp only [dF] at hz
    cases hz2:dF n b x.2 t with
    | none=>rw [hz2] at hz; simp at hz
    | some z2=>
     rw [hz2] at hz
     simp only [au] at hz
     subst hz
     have r2:=hu h' ok' t jy lS z2 hz2 ht hok (fun b hb=>hfr b (by simp [hb]))
     exact ⟨c1,pre++(jy++post),f1,lS++fr,by simp,FL,dY (fun b hb=>(hok b hb).2) (fun b hb=>(hok b hb).1) (fun b hb=>hfr b (by simp [hb])) h1,r2⟩
   ·intro m s2 hm hg2
    cases m with
    | zero=>
     simp only [aS,au] at hg2
     subst hg2
     refine ⟨0,c1,f1,rfl,by rw [e, <-fM h1]; simp,h1,fun b hb=>by simp [hb],fun jy _=>by rw [<-fM h1]; simp, ?_⟩
     intro t z hz
     simp only [dF] at hz
     cases hz2:dF n b x.2 t with
     | none=>rw [hz2] at hz; simp at hz
     | some z2=>rw [hz2] at hz; simp only [au] at hz; subst hz; rfl
    | succ m=>
     simp only [aS] at hg2
     obtain ⟨off2,cs2,zT,g1,g2,g3,g4,g5,g6⟩:=hoth m s2 (by omega) hg2
     refine ⟨a.size+off2,cs2,zT,by simp [bO,g1], ?_,g3,fun b hb=>by simp [g4 b hb], ?_, ?_⟩
     ·rw [e, <-g2, <-fM h1, <-sV]; simp
     ·intro jy hl'
      rw [<-g5 jy hl', <-fM h1, <-sV]; simp
     ·intro t z hz
      simp only [dF] at hz
      cases hz2:dF n b x.2 t with
      | none=>rw [hz2] at hz; simp at hz
      | some z2=>rw [hz2] at hz; simp only [au] at hz; subst hz; exact g6 t z2 hz2
  | _=>simp [aS] at hg
theorem ahF:∀(n:Nat) {c:K} {x:El c} {s u y:Dat},aS n c x=some s->dF n c x u=some y->u.1.size=s.1.size->y.1.size=c.size:=by
 intro n
 induction n with
 | zero=>
  intro c x s u y h1 h2 e
  cases c with
  | pair a b=>simp only [aS,dF,au] at h1 h2; subst h1; subst h2; simp only at e; simp [K.size,e]
  | _=>simp [aS] at h1
 | succ n ih=>
  intro c x s u y h1 h2 e
  cases c with
  | pair a b=>
   simp only [aS,dF] at h1 h2
   cases h3:dF n b x.2 u with
   | none=>rw [h3] at h2; simp at h2
   | some y2=>rw [h3] at h2; simp only [au] at h2; subst h2; simp [K.size,ih h1 h3 e]
  | _=>simp [aS] at h1
theorem Yb:∀(n m:Nat) {c:K} {x:El c} {s u y:Dat} {off2:Nat} {k2:K},m≠n->aS n c x=some s->dF n c x u=some y->u.1.size=s.1.size->bO m c=some (off2,k2)->bO m y.1=some (off2,k2):=by
 intro n
 induction n with
 | zero=>
  intro m c x s u y off2 k2 hm h1 h2 e h3
  cases c with
  | pair a b=>
   simp only [aS,dF,au] at h1 h2
   subst h1; subst h2
   cases m with
   | zero=>exact absurd rfl hm
   | succ m=>simp only [bO] at h3 ⊢; simp only at e; rw [e]; exact h3
  | _=>simp [aS] at h1
 | succ n ih=>
  intro m c x s u y off2 k2 hm h1 h2 e h3
  cases c with
  | pair a b=>
   simp only [aS,dF] at h1 h2
   cases h4:dF n b x.2 u with
   | none=>rw [h4] at h2; simp at h2
   | some y2=>
    rw [h4] at h2
    simp only [au] at h2
    subst h2
    cases m with
    | zero=>simp only [bO] at h3 ⊢; exact h3
    | succ m=>
     simp only [bO] at h3 ⊢
     cases h5:bO m b with
     | none=>rw [h5] at h3; simp at h3
     | some q=>
      rw [h5] at h3
      rw [ih m (off2:=q.1) (k2:=q.2) (by omega) h1 h4 e (by rw [h5])]
      exact h3
  | _=>simp [aS] at h1
theorem J9 {pre cs1 post:List Value} {off n:Nat} (h1:pre.length=off) (h2:cs1.length=n):((pre++(cs1++post)).drop off).take n=cs1:=by
 subst h1; subst h2; simp
theorem oH {A:Type} {l:List A} {d:A} {i:Nat} (h:i<l.length):l.getD i d=l[i]:=by
 rw [ig,jd h]; rfl
theorem abb {ay:List (List Nat)} {i:Nat} (h:i<ay.length):ay.flatten.Perm (ay.getD i []++((ay.take i).flatten++(ay.drop (i+1)).flatten)):=by
 have e:ay=ay.take i++(ay.getD i [] :: ay.drop (i+1)):=by
  rw [oH h, <-HV h,BC]
 have:ay.flatten=(ay.take i).flatten++(ay.getD i []++(ay.drop (i+1)).flatten):=by
  rw [congrArg List.flatten e]; simp
 rw [this]
 exact FL
theorem amS {ay:List (List Nat)} {i:Nat} (h:i<ay.length) (q:List Nat):(ay.set i q).flatten.Perm (q++((ay.take i).flatten++(ay.drop (i+1)).flatten)):=by
 have h':i<(ay.set i q).length:=by simpa using h
 have:=abb h'
 rw [oH h',List.getElem_set_self] at this
 simpa [List.take_set_of_le,List.drop_set_of_lt] using this
theorem lI:∀(n:Nat) {c:K} {x:El c} {s:Dat},aS n c x=some s->az.lH n c=some s.1:=by
 intro n
 induction n with
 | zero=>
  intro c x s e
  cases c with
  | pair a b=>simp only [aS,au] at e; subst e; rfl
  | _=>simp [aS] at e
 | succ n ih=>
  intro c x s e
  cases c with
  | pair a b=>simp only [aS] at e; exact ih e
  | _=>simp [aS] at e
theorem TG {h h':Heap} {own:List TypeId} {ok:Nat->Prop}:∀(p:List Stp) {k:K} {x:El k} {cs:List Value} {fo:List Nat} {wh:Option (Nat×Nat)},
  Ow h own ok k x cs fo->bX p k x->(∀t∈az p k,aa t own=true)->(∀b∈fo,h' b=h b)->aT h' p k cs wh=aT h p k cs wh:=by
 intro p
 induction p with
 | nil=>intro k x cs fo wh _ _ _ _; rfl
 | cons s p ih=>
  intro k x cs fo wh H hin yw hfo
  cases s with
  | aZ n=>
   cases k with
   | st c=>
    simp only [bX] at hin
    cases hcg:aS n c x with
    | none=>rw [hcg] at hin; exact hin.elim
    | some s=>
     rw [hcg] at hin
     obtain ⟨off,pre,cs0,post,gQ,fr,ho,ec,hl,hp,hd,_⟩:=MP n (show Ow h own ok c x cs fo from H) hcg
     have hpt:az (.aZ n :: p) (.st c)=az p s.1:=by simp [az,lI n hcg]
     rw [hpt] at yw
     simp only [aT]
     rw [ho]
     simp only
     rw [ec,J9 hl (fM hd)]
     exact ih hd hin yw (fun b hb=>hfo b (hp.mem_iff.2 (bK _ hb)))
   | _=>simp [bX] at hin
  | idx i=>
   cases k with
   | sl e k=>
    simp only [bX] at hin
    obtain ⟨hi0,hi1,hin⟩:=hin
    have akz:i<((@List.length (El k) x:Nat):Int):=hi1
    have hlt:i.toNat < @List.length (El k) x:=by omega
    have eg:(show List (El k) from x).getD i.toNat k.zero=(show List (El k) from x)[i.toNat]'hlt:=oH hlt
    rw [eg] at hin
    unfold Ow at H
    rw [aj (yw e (by simp [az]))] at H
    obtain ⟨a,n,c,e1,e2,e3,H⟩:=H
    have e2':n=@List.length (El k) x:=e2
    rcases H with ⟨h0,_⟩ | ⟨b,o,arr,lo,hi,ea,hb,hf,hs,ay,hfl,hp,H⟩
    ·omega
    ·obtain ⟨ds,hcd,hod⟩:=H i.toNat hlt
     have hbb:h' b=h b:=hfo b (hp.mem_iff.2 (by simp))
     have r1:=yH hcd
     have r2:=yH (hcd.congr hbb)
     rw [fM hod] at r1 r2
     subst e1
     subst ea
     simp only [aT]
     rw [r1,r2]
     exact ih hod hin (fun t ht=>yw t (by simp [az,ht])) (fun b' hb'=>hfo b' (hp.mem_iff.2 (by simp [vW hb'])))
   | _=>simp [bX] at hin
def Mm (h h':Heap) (own:List TypeId) (k:K) (x:El k) (cs:List Value) (wh:Option (Nat×Nat)) (z:Dat) (cs':List Value) (bad:List TypeId):Prop:=
 ∀q c0 w0,bX q k x->(∀t∈az q k,aa t own=true/\t∉bad)->aT h q k cs wh=some (c0,w0)->(aB q z.1 z.2).isSome=true->bX q z.1 z.2/\∃c1,aT h' q z.1 cs' wh=some (c1,w0)
structure Upd (h:Heap) (own:List TypeId) (ok:Nat->Prop) (p:List Stp) (k:K) (x:El k) (cs:List Value) (wh:Option (Nat×Nat)) (d:Dat) (rest:List Nat) (cs1:List Value) (cu:Option (Nat×Nat)):Prop where
 go:∀(h':Heap) (ok':Nat->Prop) (t:Dat) (jy:List Value) (lS:List Nat) (z:Dat),cz p k x t=some z->jy.length=d.1.size->Ow h' own ok' t.1 t.2 jy lS->
  (∀b,ok b->ok' b/\h' b=h b)->(∀b∈rest,cu.map (·.1)≠some b->h' b=h b)->
  (∀b o,cu=some (b,o)->Cells h' b o jy/\mM h h' b o d.1.size)->
  (cu=none->jy=cs1)->(∀b o,wh=some (b,o)->cu.map (·.1)≠some b->h' b=h b)->
  ∃cs',cs'.length=cs.length/\Ow h' own ok' z.1 z.2 cs' (lS++rest)/\(∀b o,wh=some (b,o)->Cells h' b o cs')/\(wh=none->cs'=cs)/\
   ∀bad,t.1.size=d.1.size->Mm h h' own d.1 d.2 cs1 cu t jy bad->(t.1=d.1->z.1=k)/\z.1.size=k.size/\Mm h h' own k x cs wh z cs' bad/\aT h' p z.1 cs' wh=some (jy,cu)
def G9 (h:Heap) (own:List TypeId) (ok:Nat->Prop) (p:List Stp) (k:K) (x:El k) (cs:List Value) (fo:List Nat) (wh:Option (Nat×Nat)) (d:Dat):Prop:=
 ∃cs1 aX rest cu,aT h p k cs wh=some (cs1,cu)/\fo.Perm (aX++rest)/\Ow h own ok d.1 d.2 cs1 aX/\(∀b o,cu=some (b,o)->Cells h b o cs1)/\
  (∀b o,cu=some (b,o)->(az p k=[]/\∃o0,wh=some (b,o0)/\o0<=o/\o+d.1.size<=o0+k.size)\/
   (b∈rest/\∃arr e lo hi,h b=some (.cells arr e (lo,hi))/\jq arr.size lo hi/\(az p k).getLast?=some e/\o+d.1.size<=arr.size))/\
  (cu=none->wh=none)/\Upd h own ok p k x cs wh d rest cs1 cu
theorem Jw {wh:Option (Nat×Nat)} {off b o:Nat} (e:wh.map (fun q=>(q.1,q.2+off))=some (b,o)):∃o0,wh=some (b,o0)/\o=o0+off:=by
 cases wh with
 | none=>simp at e
 | some q=>
  simp only [oU,au,bS] at e
  exact ⟨q.2,by rw [<-e.1],e.2.symm⟩
theorem ajg {h:Heap} {own:List TypeId} {ok:Nat->Prop} {p:List Stp} {n:Nat} {c:K} {x:El c} {cs:List Value} {fo:List Nat} {wh:Option (Nat×Nat)} {s d:Dat}
  (H:Ow h own ok c x cs fo) (hc:∀b o,wh=some (b,o)->Cells h b o cs) (hcg:aS n c x=some s) (hnd:fo.Nodup) (hbase:∀b o,wh=some (b,o)->b∉fo)
  (ih:∀{cs0:List Value} {gQ:List Nat} {xC:Option (Nat×Nat)},Ow h own ok s.1 s.2 cs0 gQ->(∀b o,xC=some (b,o)->Cells h b o cs0)->gQ.Nodup->(∀b o,xC=some (b,o)->b∉gQ)->G9 h own ok p s.1 s.2 cs0 gQ xC d) :
  G9 h own ok (.aZ n :: p) (.st c) x cs fo wh d:=by
 obtain ⟨off,pre,cs0,post,gQ,fr,ho,ec,hl,hp,hd,hu,hoth⟩:=MP n H hcg
 have hsz:=fM hd
 have hpt:az (.aZ n :: p) (.st c)=az p s.1:=by simp [az,lI n hcg]
 have hnd':(gQ++fr).Nodup:=hp.nodup hnd
 have hsub:(cs.drop off).take s.1.size=cs0:=by rw [ec]; exact J9 hl hsz
 have hlen:cs.length=c.size:=fM H
 have aoz:off+s.1.size+post.length=c.size:=by rw [<-hlen,ec]; simp [hl,hsz]; omega
 obtain ⟨cs1,aX,rest,cu,hn,hp1,hd1,hc1,hin1,hnone,hup⟩:=ih (xC:=wh.map fun q=>(q.1,q.2+off)) hd
  (fun b o e=>by
   obtain ⟨o0,e1,rfl⟩:=Jw e
   have:=hc b o0 e1
   rw [ec,Cells.append,Cells.append] at this
   rw [<-hl]
   exact this.2.1) (cK.1 hnd').1
  (fun b o e hb=>by
   obtain ⟨o0,e1,rfl⟩:=Jw e
   exact hbase b o0 e1 (hp.mem_iff.2 (bK _ hb)))
 have akr:∀b o,cu=some (b,o)->b∉fr:=by
  intro b o e hb
  rcases hin1 b o e with ⟨_,o0,ew,_⟩ | ⟨h1,_⟩
  ·obtain ⟨o1,e1,_⟩:=Jw ew
   exact hbase b o1 e1 (hp.mem_iff.2 (bB _ hb))
  ·exact (cK.1 hnd').2.2 b (hp1.mem_iff.2 (bB _ h1)) b hb rfl
 refine ⟨cs1,aX,rest++fr,cu, ?_, ?_,hd1,hc1, ?_, ?_,⟨?_⟩⟩
 ·simp only [aT]
  rw [ho]
  simp only
  rw [hsub]
  exact hn
 ·rw [<-gD]
  exact hp.trans (sU _ hp1)
 ·intro b o e
  rw [hpt]
  rcases hin1 b o e with ⟨h0,o0,ew,h1,h2⟩ | ⟨h1,h2⟩
  ·obtain ⟨o1,e1,rfl⟩:=Jw ew
   refine .inl ⟨h0,o1,e1,by omega, ?_⟩
   show o+d.1.size<=o1+c.size
   omega
  ·exact .inr ⟨bK _ h1,h2⟩
 ·intro e
  have:=hnone e
  cases wh with
  | none=>rfl
  | some q=>simp at this
 ·intro h' ok' t jy lS z hz hl' ht hok hrest hw hcs hb0
  simp only [cz,hcg] at hz
  cases hs:cz p s.1 s.2 t with
  | none=>rw [hs] at hz; simp at hz
  | some u=>
   rw [hs] at hz
   simp only at hz
   cases hcp:dF n c x u with
   | none=>rw [hcp] at hz; simp at hz
   | some y=>
    rw [hcp] at hz
    simp only [au] at hz
    subst hz
    obtain ⟨MS,hl0,ho0,hc0,hn0,hnk⟩:=hup.go h' ok' t jy lS u hs hl' ht hok (fun b hb=>hrest b (bK _ hb)) hw hcs
     (fun b o e=>by
      obtain ⟨o0,e1,_⟩:=Jw e
      exact hb0 b o0 e1)
    have hfr:∀b∈fr,h' b=h b:=by
     intro b hb
     refine hrest b (bB _ hb) ?_
     intro e
     cases iH:cu with
     | none=>rw [iH] at e; simp at e
     | some q=>
      rw [iH] at e
      simp only [oU,au] at e
      exact akr q.1 q.2 iH (e▸hb)
    have r:=hu h' ok' u MS (lS++rest) y hcp ho0 hok hfr
    refine ⟨pre++(MS++post),by rw [ec]; simp [hl0], ?_, ?_, ?_, ?_⟩
    ·have r':Ow h' own ok' y.1 y.2 (pre++(MS++post)) (lS++(rest++fr)):=by
      rw [show lS++(rest++fr)=lS++rest++fr from (gD ..).symm]; exact r
     exact r'
    ·intro b o e
     have hwc:=hc b o e
     rw [ec,Cells.append,Cells.append] at hwc
     have hc0':=hc0 b (o+off) (by rw [e]; rfl)
     rw [Cells.append,Cells.append,hl0,hsz,hl]
     have SG:=hwc.2.2
     rw [hsz,hl] at SG
     by_cases hbw:cu.map (·.1)=some b
     ·cases iH:cu with
      | none=>rw [iH] at hbw; simp at hbw
      | some q=>
       rw [iH] at hbw
       simp only [oU,au] at hbw
       subst hbw
       have hsb:=(hw q.1 q.2 iH).2
       rcases hin1 q.1 q.2 iH with ⟨_,o0,ew,g1,g2⟩ | ⟨h1,_⟩
       ·rw [e] at ew
        simp only [oU,au,bS,true_and] at ew
        exact ⟨hsb.cells hwc.1 (.inl (by omega)),hc0',hsb.cells SG (.inr (by omega))⟩
       ·exact absurd (hp.mem_iff.2 (bK _ (hp1.mem_iff.2 (bB _ h1)))) (hbase q.1 o e)
     ·have hbb:=hb0 b o e hbw
      exact ⟨hwc.1.congr hbb,hc0',SG.congr hbb⟩
    ·intro e
     have:=hn0 (by rw [e]; rfl)
     rw [this,ec]
    ·intro bad hkind pg
     obtain ⟨n1,n3,n2,n4⟩:=hnk bad hkind pg
     refine ⟨fun e=>congrArg K.st (Yc n hcg hcp (n1 e)),(show y.1.size=c.size from ahF n hcg hcp n3), ?_,by
      show aT h' (.aZ n :: p) (.st y.1) _ _=_
      simp only [aT]
      rw [QT n ho hcp]
      simp only
      rw [J9 hl (fM ho0)]
      exact n4⟩
     intro q c0 w0 hq Ja oJ EU
     cases q with
     | nil=>
      simp only [aT,au,bS] at oJ ⊢
      exact ⟨trivial,_,rfl,oJ.2⟩
     | cons sq q=>
      cases sq with
      | idx i=>simp [bX] at hq
      | aZ m=>
       simp only [bX] at hq
       cases hg2:aS m c x with
       | none=>rw [hg2] at hq; exact hq.elim
       | some s2=>
        rw [hg2] at hq
        have ak1:az (.aZ m :: q) (.st c)=az q s2.1:=by simp [az,lI m hg2]
        rw [ak1] at Ja
        by_cases hmn:m=n
        ·subst hmn
         rw [hcg] at hg2
         simp only [au] at hg2
         subst hg2
         simp only [aT] at oJ
         rw [ho] at oJ
         simp only at oJ
         rw [hsub] at oJ
         obtain ⟨r1,c1,r2⟩:=n2 q c0 w0 hq Ja oJ (by
          have:(aB (.aZ m :: q) (.st y.1) y.2).isSome=true:=EU
          simpa only [aB,Ip m hcp] using this)
         refine ⟨?_,c1, ?_⟩
         ·show bX (.aZ m :: q) (.st y.1) y.2
          simp only [bX,Ip m hcp]
          exact r1
         ·show aT h' (.aZ m :: q) (.st y.1) _ _=_
          simp only [aT]
          rw [QT m ho hcp]
          simp only
          rw [J9 hl (fM ho0)]
          exact r2
        ·obtain ⟨off2,cs2,zT,g1,g2,g3,g4,g5,g6⟩:=hoth m s2 hmn hg2
         simp only [aT] at oJ
         rw [g1] at oJ
         simp only at oJ
         rw [g2] at oJ
         have g7:=g6 u y hcp
         refine ⟨?_,c0, ?_⟩
         ·show bX (.aZ m :: q) (.st y.1) y.2
          simp only [bX,g7]
          exact hq
         ·show aT h' (.aZ m :: q) (.st y.1) _ _=_
          simp only [aT]
          rw [Yb n m hmn hcg hcp n3 g1]
          simp only
          rw [g5 MS (by rw [hl0,hsz]), <-oJ]
          exact TG q g3 hq (fun t ht=>(Ja t ht).1) (fun b hb=>hfr b (g4 b hb))
theorem ajh {h:Heap} {own:List TypeId} {ok:Nat->Prop} {p:List Stp} {i:Int} {e:TypeId} {k:K} {xs:List (El k)} {cs:List Value} {fo:List Nat} {wh:Option (Nat×Nat)} {d:Dat}
  (H:Ow h own ok (.sl e k) xs cs fo) (hc:∀b o,wh=some (b,o)->Cells h b o cs) (hnd:fo.Nodup) (hbase:∀b o,wh=some (b,o)->b∉fo) (hmem:aa e own=true) (hlt:i.toNat<xs.length)
  (ih:∀{cs0:List Value} {gQ:List Nat} {xC:Option (Nat×Nat)},Ow h own ok k xs[i.toNat] cs0 gQ->(∀b o,xC=some (b,o)->Cells h b o cs0)->gQ.Nodup->(∀b o,xC=some (b,o)->b∉gQ)->G9 h own ok p k xs[i.toNat] cs0 gQ xC d) :
  G9 h own ok (.idx i :: p) (.sl e k) xs cs fo wh d:=by
 unfold Ow at H
 rw [aj hmem] at H
 obtain ⟨a,n,c,e1,e2,e3,H⟩:=H
 have e2':n=xs.length:=e2
 rcases H with ⟨h0,_⟩ | ⟨b,o,arr,lo,hi,ea,hb,hf,akc,ay,hfl,hp,H⟩
 ·omega
 have akj:ay.length=xs.length:=hfl
 obtain ⟨ds,hcd,hod⟩:=H i.toNat hlt
 have hnd':(b :: ay.flatten).Nodup:=hp.nodup hnd
 have hnb:b∉ay.flatten:=(jg.1 hnd').1
 have hpk:=abb (ay:=ay) (i:=i.toNat) (by omega)
 have jI:=hpk.nodup (jg.1 hnd').2
 obtain ⟨cs1,aX,rest,cu,hn,hp1,hd1,hc1,hin1,hnone,hup⟩:=ih (xC:=some (b,o+i.toNat * k.size)) hod
  (fun b' o' e'=>by
   simp only [au,bS] at e'
   obtain ⟨rfl,rfl⟩:=e'
   exact hcd) (cK.1 jI).1
  (fun b' o' e' hb'=>by
   simp only [au,bS] at e'
   obtain ⟨rfl,rfl⟩:=e'
   exact hnb (vW hb'))
 have hdl:ds.length=k.size:=fM hod
 have hwn:cu≠none:=fun e'=>by have:=hnone e'; simp at this
 generalize hR:(ay.take i.toNat).flatten++(ay.drop (i.toNat+1)).flatten=R at *
 have hcap:i.toNat * k.size+k.size<=c * k.size:=by
  have:(i.toNat+1) * k.size<=c * k.size:=kD _ (by omega)
  rw [iR,m_] at this
  exact this
 refine ⟨cs1,aX,b :: (rest++R),cu, ?_, ?_,hd1,hc1, ?_,fun e'=>absurd e' hwn,⟨?_⟩⟩
 ·subst e1
  subst ea
  simp only [aT]
  have:iY h b (o+i.toNat * k.size) k.size=ds:=by
   have:=yH hcd
   rwa [hdl] at this
  rw [this]
  exact hn
 ·refine (hp.trans (.cons b (hpk.trans (sU _ hp1)))).trans ?_
  rw [gD]
  exact List.perm_middle.symm
 ·intro b' o' e'
  rcases hin1 b' o' e' with ⟨hz,o0,ew,h1,h2⟩ | ⟨h1,gG,e'',lo',hi',g1,g2,g3,g4⟩
  ·simp only [au,bS] at ew
   obtain ⟨rfl,rfl⟩:=ew
   exact .inr ⟨jE,arr,e,lo,hi,hb,hf,by simp [az,hz],by omega⟩
  ·refine .inr ⟨by simp [h1],gG,e'',lo',hi',g1,g2, ?_,g4⟩
   simp only [az,List.getLast?_cons,g3,tq]
 ·intro h' ok' t jy lS z hz hl' ht hok hrest hw hcs hb0
  simp only [cz] at hz
  rw [oH hlt] at hz
  cases hs:cz p k xs[i.toNat] t with
  | none=>rw [hs] at hz; simp at hz
  | some u=>
   rw [hs] at hz
   simp only at hz
   cases hck:bU u.1 k u.2 with
   | none=>rw [hck] at hz; simp at hz
   | some y=>
    rw [hck] at hz
    simp only [au] at hz
    subst hz
    obtain ⟨uk,ux⟩:=u
    unfold bU at hck
    split at hck
    case isFalse=>simp at hck
    rename_i hbq
    have hk:=K.eq_of_beq hbq
    simp only at hk
    subst hk
    simp only [au] at hck
    subst hck
    have hwb:∀q,cu=some q->q.1∉R:=by
     intro q hq ZO
     rcases hin1 q.1 q.2 hq with ⟨_,o0,ew,_⟩ | ⟨h1,_⟩
     ·simp only [au,bS] at ew
      exact hnb (hpk.mem_iff.2 (bB _ (ew.1▸ZO)))
     ·exact (cK.1 jI).2.2 q.1 (hp1.mem_iff.2 (bB _ h1)) q.1 ZO rfl
    obtain ⟨ds',hl0,ho0,hc0,_,hnk⟩:=hup.go h' ok' t jy lS ⟨uk,ux⟩ hs hl' ht hok (fun b' hb'=>hrest b' (by simp [hb'])) hw hcs
     (fun b' o' e' hne=>by
      simp only [au,bS] at e'
      obtain ⟨rfl,rfl⟩:=e'
      exact hrest b jE hne)
    have ajL:∀b'∈R,h' b'=h b':=by
     intro b' hb'
     refine hrest b' (by simp [hb']) ?_
     intro e'
     cases iH:cu with
     | none=>exact absurd iH hwn
     | some q=>
      rw [iH] at e'
      simp only [oU,au] at e'
      exact hwb q iH (e'▸hb')
    have hblk:∃gG,h' b=some (.cells gG e (lo,hi))/\gG.size=arr.size/\∀j,¬(o+i.toNat * uk.size<=j/\j<o+i.toNat * uk.size+uk.size)->gG[j]?=arr[j]?:=by
     by_cases hbw:cu.map (·.1)=some b
     ·cases iH:cu with
      | none=>exact absurd iH hwn
      | some q=>
       rw [iH] at hbw
       simp only [oU,au] at hbw
       obtain ⟨a1,a2,te,fr,g1,g2,g3,g4⟩:=(hw q.1 q.2 iH).2
       rw [hbw] at g1 g2
       rw [hb] at g1
       simp only [au,Obj.cells.injEq] at g1
       obtain ⟨rfl,rfl,rfl⟩:=g1
       rcases hin1 q.1 q.2 iH with ⟨_,o0,ew,h1,h2⟩ | ⟨h1,_⟩
       ·simp only [au,bS] at ew
        refine ⟨a2,g2,g3,fun j hj=>g4 j ?_⟩
        intro hj2
        exact hj (by omega)
       ·exact absurd (hpk.mem_iff.2 (bK _ (hp1.mem_iff.2 (bB _ (hbw▸h1))))) hnb
     ·have:=hrest b jE hbw
      exact ⟨arr,this.trans hb,rfl,fun _ _=>rfl⟩
    obtain ⟨gG,hb',hsz',hsame⟩:=hblk
    have hmul:∀a b:Nat,a<b->a * uk.size+uk.size<=b * uk.size:=by
     intro a b hab
     have:(a+1) * uk.size<=b * uk.size:=kD _ (by omega)
     rwa [iR,m_] at this
    have ZG:∀(j:Nat) (dj:List Value),j≠i.toNat->dj.length=uk.size->Cells h b (o+j * uk.size) dj->Cells h' b (o+j * uk.size) dj:=by
     intro j dj hji hjl h1 q hq
     have:=h1 q hq
     unfold cellAt at this ⊢
     rw [hb] at this
     rw [hb']
     simp only at this ⊢
     rw [hsame _ (by
      rcases Nat.lt_or_gt_of_ne hji with hlt' | Zr
      ·have:=hmul j i.toNat hlt'; omega
      ·have:=hmul i.toNat j Zr; omega)]
     exact this
    have ZH:∀j,j≠i.toNat->∀q∈ay.getD j [],h' q=h q:=by
     intro j hji q hq
     refine ajL q ?_
     rw [<-hR]
     by_cases hjf:j<ay.length
     ·rw [ig,jd hjf] at hq
      simp only [tq] at hq
      rcases Nat.lt_or_gt_of_ne hji with hlt' | Zr
      ·exact bK _ (BA.2 ⟨ay[j],List.mem_take_iff_getElem.2 ⟨j,by omega,rfl⟩,hq⟩)
      ·refine bB _ (BA.2 ⟨ay[j],List.mem_drop_iff_getElem.2 ⟨j - (i.toNat+1),by omega, ?_⟩,hq⟩)
       congr 1
       omega
     ·rw [ig,uE (by omega)] at hq
      simp at hq
    refine ⟨cs,rfl, ?_, ?_,fun _=>rfl, ?_⟩
    ·unfold Ow
     rw [aj hmem]
     refine ⟨a,n,c,e1,by rw [e2']; simp,e3, .inr ⟨b,o,gG,lo,hi,ea,hb',by rw [hsz']; exact hf,by rw [hsz']; exact akc,ay.set i.toNat (lS++rest),by simp [akj], ?_, ?_⟩⟩
     ·have:=amS (ay:=ay) (i:=i.toNat) (by omega) (lS++rest)
      rw [hR,gD] at this
      exact (List.perm_middle.trans (.cons b this.symm))
     ·intro j hj
      have hj':j<xs.length:=by simpa using hj
      by_cases hji:j=i.toNat
      ·subst hji
       refine ⟨ds',hc0 b _ rfl, ?_⟩
       have e1:(xs.set i.toNat ux)[i.toNat]'(by simpa using hj')=ux:=by simp
       have e2:(ay.set i.toNat (lS++rest)).getD i.toNat []=lS++rest:=by
        rw [oH (by simp; omega)]; simp
       rw [e2]
       show Ow h' own ok' uk ((xs.set i.toNat ux)[i.toNat]'(by simpa using hj')) ds' _
       rw [e1]
       exact ho0
      ·obtain ⟨dj,h1,h2⟩:=H j hj'
       have hjl:dj.length=uk.size:=fM h2
       refine ⟨dj,ZG j dj hji hjl h1, ?_⟩
       have e1:(xs.set i.toNat ux)[j]'(by simpa using hj')=xs[j]:=by
        rw [List.getElem_set_ne (by omega)]
       have e2:(ay.set i.toNat (lS++rest)).getD j []=ay.getD j []:=by
        rw [ig,ig,List.getElem?_set_ne (by omega)]
       rw [e2]
       show Ow h' own ok' uk ((xs.set i.toNat ux)[j]'(by simpa using hj')) dj _
       rw [e1]
       exact dY (fun b hb=>(hok b hb).2) (fun b hb=>(hok b hb).1) (ZH j hji) h2
    ·intro b' o' e'
     have hcb:=hc b' o' e'
     by_cases hbw:cu.map (·.1)=some b'
     ·cases iH:cu with
      | none=>exact absurd iH hwn
      | some q=>
       rw [iH] at hbw
       simp only [oU,au] at hbw
       have hbf:=hbase b' o' e'
       rcases hin1 q.1 q.2 iH with ⟨_,o0,ew,_⟩ | ⟨h1,_⟩
       ·simp only [au,bS] at ew
        exact absurd (hp.mem_iff.2 (by rw [<-hbw, <-ew.1]; exact jE)) hbf
       ·exact absurd (hp.mem_iff.2 (jD _ (hpk.mem_iff.2 (bK _ (hp1.mem_iff.2 (bB _ (hbw▸h1))))))) hbf
     ·exact hcb.congr (hb0 b' o' e' hbw)
    ·intro bad hkind pg
     obtain ⟨_,_,n2,n4⟩:=hnk bad hkind pg
     refine ⟨fun _=>rfl,rfl, ?_,by
      subst e1
      subst ea
      simp only [aT]
      have hr':iY h' b (o+i.toNat * uk.size) uk.size=ds':=by
       have:=yH (hc0 b _ rfl)
       rwa [hl0,hdl] at this
      rw [hr']
      exact n4⟩
     intro q c0 w0 hq Ja oJ EU
     cases q with
     | nil=>exact ⟨trivial,_,by rw [<-(show (cs,wh)=(c0,w0) from by simpa [aT] using oJ)]; rfl⟩
     | cons sq q=>
      cases sq with
      | aZ m=>simp [bX] at hq
      | idx j=>
       simp only [bX] at hq
       obtain ⟨hj0,hj1,hq⟩:=hq
       have akB:j<(xs.length:Int):=hj1
       have hjl:j.toNat<xs.length:=by omega
       have ejx:(show List (El uk) from xs).getD j.toNat uk.zero=xs[j.toNat]:=oH hjl
       rw [ejx] at hq
       subst e1
       subst ea
       simp only [aT] at oJ
       have ZP:∀t∈az q uk,aa t own=true/\t∉bad:=fun t ht=>Ja t (by simp [az,ht])
       have hln:j<((xs.set i.toNat ux).length:Int):=by simpa using akB
       by_cases hji:j.toNat=i.toNat
       ·have hr:iY h b (o+j.toNat * uk.size) uk.size=ds:=by
         rw [hji]
         have:=yH hcd
         rwa [hdl] at this
        rw [hr,hji] at oJ
        have hq':bX q uk xs[i.toNat]:=by
         have:xs[j.toNat]=xs[i.toNat]:=by congr 1
         rw [<-this]; exact hq
        obtain ⟨r1,c1,r2⟩:=n2 q c0 w0 hq' ZP oJ (by
         have:(aB (.idx j :: q) (.sl e uk) (xs.set i.toNat ux)).isSome=true:=EU
         simp only [aB] at this
         have e3:(show List (El uk) from xs.set i.toNat ux).getD j.toNat uk.zero=ux:=by
          rw [hji,oH (by simpa using hlt)]; simp
         rw [e3] at this
         exact this)
        refine ⟨⟨hj0,hln, ?_⟩,c1, ?_⟩
        ·have:(show List (El uk) from xs.set i.toNat ux).getD j.toNat uk.zero=ux:=by
          rw [hji,oH (by simpa using hlt)]; simp
         rw [this]
         exact r1
        ·simp only [aT]
         have hr':iY h' b (o+j.toNat * uk.size) uk.size=ds':=by
          rw [hji]
          have:=yH (hc0 b _ rfl)
          rwa [hl0,hdl] at this
         rw [hr',hji]
         exact r2
       ·obtain ⟨dj,h1,h2⟩:=H j.toNat hjl
        have Sa:dj.length=uk.size:=fM h2
        have hr:iY h b (o+j.toNat * uk.size) uk.size=dj:=by
         have:=yH h1
         rwa [Sa] at this
        have hr':iY h' b (o+j.toNat * uk.size) uk.size=dj:=by
         have:=yH (ZG j.toNat dj hji Sa h1)
         rwa [Sa] at this
        rw [hr] at oJ
        refine ⟨⟨hj0,hln, ?_⟩,c0, ?_⟩
        ·have:(show List (El uk) from xs.set i.toNat ux).getD j.toNat uk.zero=xs[j.toNat]:=by
          rw [oH (by simpa using hjl),List.getElem_set_ne (by omega)]
         rw [this]
         exact hq
        ·simp only [aT]
         rw [hr', <-oJ]
         exact TG q h2 hq (fun t ht=>(ZP t ht).1) (ZH j.toNat hji)
theorem focus {h:Heap} {own:List TypeId} {ok:Nat->Prop}:∀(p:List Stp) {k:K} {x:El k} {cs:List Value} {fo:List Nat} {wh:Option (Nat×Nat)} {d:Dat},
  Ow h own ok k x cs fo->(∀b o,wh=some (b,o)->Cells h b o cs)->aB p k x=some d->bX p k x->(∀t∈az p k,aa t own=true)->fo.Nodup->(∀b o,wh=some (b,o)->b∉fo)->
   G9 h own ok p k x cs fo wh d:=by
 intro p
 induction p with
 | nil=>
  intro k x cs fo wh d H hc hg _ _ _ _
  simp only [aB,au] at hg
  subst hg
  refine ⟨cs,fo,[],wh,rfl,by simp,H,hc,fun b o e=>.inl ⟨rfl,o,e,bN _,bN _⟩,id,⟨?_⟩⟩
  intro h' ok' t jy lS z hz hl ht _ _ hw hn _
  simp only [cz,au] at hz
  subst hz
  exact ⟨jy,by rw [hl,fM H],by simpa using ht,fun b o e=>(hw b o e).1,hn,fun bad hk pg=>⟨id,hk,pg,rfl⟩⟩
 | cons s p ih=>
  intro k x cs fo wh d H hc hg hin yw hnd hbase
  cases s with
  | aZ n=>
   cases k with
   | st c=>
    simp only [aB] at hg
    cases hcg:aS n c x with
    | none=>rw [hcg] at hg; simp at hg
    | some s=>
     rw [hcg] at hg
     simp only at hg
     simp only [bX,hcg] at hin
     have hpt:az (.aZ n :: p) (.st c)=az p s.1:=by simp [az,lI n hcg]
     rw [hpt] at yw
     exact ajg (show Ow h own ok c x cs fo from H) hc hcg hnd hbase (fun H0 hc0 kK hb0=>ih H0 hc0 hg hin yw kK hb0)
   | _=>simp [aB] at hg
  | idx i=>
   cases k with
   | sl e k=>
    simp only [aB] at hg
    simp only [bX] at hin
    obtain ⟨hi0,hi1,hin⟩:=hin
    have akz:i<((@List.length (El k) x:Nat):Int):=hi1
    have hlt:i.toNat < @List.length (El k) x:=by omega
    have eg:(show List (El k) from x).getD i.toNat k.zero=(show List (El k) from x)[i.toNat]'hlt:=oH hlt
    rw [eg] at hin hg
    exact ajh (xs:=x) H hc hnd hbase (yw e (by simp [az])) hlt (fun H0 hc0 kK hb0=>ih H0 hc0 hg hin (fun t ht=>yw t (by simp [az,ht])) kK hb0)
   | _=>simp [aB] at hg
end
section
open Go
variable [Fr]
def Prog.ends {J:Type}:Prog J->St->J->Prop
 | .ret a,_,x=>x=a
 | .fail,_,_=>False
 | .slot n k,Z,x=>(k (Z.slots n)).ends Z x
 | .root r k,Z,x=>(k (Z.roots r)).ends Z x
 | .eY c _ k,Z,x=>c/\k.ends Z x
 | .br c t e,Z,x=>(c=true/\t.ends Z x)\/(c=false/\e.ends Z x)
 | .opt _ o k,Z,x=>∃b,o=some b/\(k b).ends Z x
theorem Dc {J R:Type} (p:Prog J) {Z:St} {K:J->Option R} {r:R} (h:p.run Z K=some r):∃x,p.ends Z x/\K x=some r:=by
 induction p with
 | ret a=>exact ⟨a,rfl,h⟩
 | fail=>simp [Prog.run] at h
 | slot n k ih=>exact ih _ h
 | root n k ih=>exact ih _ h
 | eY c d k ih=>
  simp only [Prog.run] at h
  split at h
  ·rename_i hc
   obtain ⟨x,h1,h2⟩:=ih h
   exact ⟨x,⟨hc,h1⟩,h2⟩
  ·simp at h
 | br c t e ru rq=>
  simp only [Prog.run] at h
  split at h
  ·rename_i hc
   obtain ⟨x,h1,h2⟩:=ru h
   exact ⟨x, .inl ⟨hc,h1⟩,h2⟩
  ·rename_i hc
   obtain ⟨x,h1,h2⟩:=rq h
   exact ⟨x, .inr ⟨by simpa using hc,h1⟩,h2⟩
 | opt β o k ih=>
  simp only [Prog.run] at h
  cases ho:o with
  | none=>rw [ho] at h; simp at h
  | some b=>
   rw [ho] at h
   obtain ⟨x,h1,h2⟩:=ih b h
   exact ⟨x,⟨b,rfl,h1⟩,h2⟩
def dR:K->List Value
 | .int ik=>[.int ik 0]
 | .bool=>[.bool false]
 | .str=>[.string ByteArray.empty]
 | .sl _ _=>[.slice none 0 0]
 | .id _=>[.slice none 0 0]
 | .unit=>[]
 | .pair a b=>dR a++dR b
 | .st f=>dR f
 | .gap _=>[]
def jC:K->Value
 | .st f=>.agg (dR f).toArray
 | .int ik=>.int ik 0
 | .bool=>.bool false
 | .str=>.string ByteArray.empty
 | .sl _ _=>.slice none 0 0
 | .id _=>.slice none 0 0
 | _=>undef
def sS (P:Program) (t:TypeId) (k:K):Prop:=∃i,P.info? t=some i/\i.size=k.size/\i.zero=some (jC k)
def jO (P:Program) (T:bH):K->(TypeId->Prop)×(List Field->Nat->Prop)
 | .int ik=>(fun t=>P.underlying t=some (.int ik)/\sS P t (.int ik),fun _ _=>False)
 | .bool=>(fun t=>P.underlying t=some .bool/\sS P t .bool,fun _ _=>False)
 | .str=>(fun t=>P.underlying t=some .string/\sS P t .str,fun _ _=>False)
 | .sl e k=>(fun t=>P.underlying t=some (.slice e)/\sS P t (.sl e k)/\(jO P T k).1 e/\0<k.size/\∃i,P.info? e=some i/\i.bytes=T.bytes e/\0<i.bytes,fun _ _=>False)
 | .unit=>(fun _=>False,fun fs _=>fs=[])
 | .pair a b=>(fun _=>False,fun fs off=>match fs with
  | []=>False
  | f :: fs=>f.offset=off/\(jO P T a).1 f.type/\0<a.size/\(jO P T b).2 fs (off+a.size))
 | .st c=>(fun t=>(∃fs,P.underlying t=some (.struct fs)/\(jO P T c).2 fs.toList 0)/\sS P t (.st c),fun _ _=>False)
 | .gap _=>(fun _=>False,fun _ _=>False)
 | .id e=>(fun t=>P.underlying t=some (.slice e)/\sS P t (.id e)/\T.ids=true,fun _ _=>False)
def dn (P:Program) (T:bH) (t:TypeId) (k:K):Prop:=(jO P T k).1 t
structure fJ (P:Program) (T:bH):Prop where
 ty:∀t k,T.ty t=some k->dn P T t k
 ptr:∀t,T.ptr t=true->∃e,P.underlying t=some (.pointer e)
theorem dn.info {P:Program} {T:bH} {t:TypeId} {k:K} (h:dn P T t k):sS P t k:=by
 unfold dn jO at h
 cases k with
 | int ik=>exact h.2
 | bool=>exact h.2
 | id e=>exact h.2.1
 | str=>exact h.2
 | sl e k=>exact h.2.1
 | unit=>exact h.elim
 | pair a b=>exact h.elim
 | st c=>exact h.2
 | gap n=>exact h.elim
def VC (k:K) (v:Value) (cs:List Value):Prop:=match k with
 | .st _=>v=.agg cs.toArray
 | _=>cs=[v]/\∀x,v≠.agg x
theorem VC.cells {k:K} {v:Value} {cs:List Value} (h:VC k v cs):v.cells.toList=cs:=by
 unfold VC at h
 split at h
 ·subst h; simp [Value.cells]
 ·obtain ⟨rfl,hn⟩:=h
  cases v <;> first | rfl | (exact absurd rfl (hn _))
def kZ:K->Bool
 | .st _=>true
 | _=>false
theorem dn.isAgg {P:Program} {T:bH} {t:TypeId} {k:K} (h:dn P T t k) (w:World):(Go.isAgg t).run P w=.ok (kZ k) w:=by
 unfold dn jO at h
 cases k with
 | int ik=>simp [Go.isAgg,iy h.1,kZ]
 | bool=>simp [Go.isAgg,iy h.1,kZ]
 | id e=>simp [Go.isAgg,iy h.1,kZ]
 | str=>simp [Go.isAgg,iy h.1,kZ]
 | sl e k=>simp [Go.isAgg,iy h.1,kZ]
 | unit=>exact h.elim
 | pair a b=>exact h.elim
 | st c=>obtain ⟨⟨fs,h1,_⟩,_⟩:=h; simp [Go.isAgg,iy h1,kZ]
 | gap n=>exact h.elim
theorem sS.sizeOf {P:Program} {t:TypeId} {k:K} (h:sS P t k) (w:World):(Go.sizeOf t).run P w=.ok k.size w:=by
 obtain ⟨i,h1,h2,_⟩:=h
 simp [Go.sizeOf,run_typeInfo w h1,h2]
theorem sS.zero {P:Program} {t:TypeId} {k:K} (h:sS P t k) (w:World):(Go.zeroValue t).run P w=.ok (jC k) w:=by
 obtain ⟨i,h1,_,h3⟩:=h
 simp [Go.zeroValue,run_typeInfo w h1,h3]
theorem addr_add (b o n:Nat):(⟨b,o,none⟩:Addr).add n=⟨b,o+n,none⟩:=by unfold Addr.add; split <;> simp_all
theorem FV {P:Program} {T:bH} {t:TypeId} {k:K} {w:World} {b o:Nat} {cs:List Value} {v:Value} (h:dn P T t k) (hc:Cells (hp w) b o cs) (hl:cs.length=k.size) (hv:VC k v cs) :
  (Instr.loadAt t (.pointer (some ⟨b,o,none⟩))).run P w=.ok v w:=by
 have hcell:∀j u,cs[j]?=some u->w.cell? ((⟨b,o,none⟩:Addr).add j)=some u:=by
  intro j u hj
  rw [addr_add,zI,hc j (qm.1 hj).1]
  exact hj
 unfold Instr.loadAt Instr.sureAddr loadVar
 simp only [dO,fA,Result.andThen,h.isAgg w]
 cases k with
 | st c=>
  have e:v=.agg cs.toArray:=hv
  have h2:=run_loadCells_list (P:=P) w ⟨b,o,none⟩ cs hcell
  rw [hl] at h2
  simp [kZ,h.info.sizeOf w,h2,Result.andThen,e]
 | unit=>exact (show False from h).elim
 | pair a b=>exact (show False from h).elim
 | gap n=>exact (show False from h).elim
 | int ik=>
  obtain ⟨e,_⟩:cs=[v]/\_:=hv
  have:=hcell 0 v (by rw [e]; rfl)
  rw [addr_add,pK] at this
  simp [kZ,this]
 | bool=>
  obtain ⟨e,_⟩:cs=[v]/\_:=hv
  have:=hcell 0 v (by rw [e]; rfl)
  rw [addr_add,pK] at this
  simp [kZ,this]
 | id e=>
  obtain ⟨e,_⟩:cs=[v]/\_:=hv
  have:=hcell 0 v (by rw [e]; rfl)
  rw [addr_add,pK] at this
  simp [kZ,this]
 | str=>
  obtain ⟨e,_⟩:cs=[v]/\_:=hv
  have:=hcell 0 v (by rw [e]; rfl)
  rw [addr_add,pK] at this
  simp [kZ,this]
 | sl e k=>
  obtain ⟨e,_⟩:cs=[v]/\_:=hv
  have:=hcell 0 v (by rw [e]; rfl)
  rw [addr_add,pK] at this
  simp [kZ,this]
def fV:K->Bool
 | .gap _=>false
 | .pair a b=>fV a && fV b
 | .st f=>fV f
 | _=>true
theorem jO.fV {P:Program} {T:bH}:∀{k:K},(∀t,(jO P T k).1 t->Ow.fV k=true)/\(∀fs off,(jO P T k).2 fs off->Ow.fV k=true):=by
 intro k
 induction k with
 | int ik=>exact ⟨fun _ _=>rfl,fun _ _ h=>h.elim⟩
 | bool=>exact ⟨fun _ _=>rfl,fun _ _ h=>h.elim⟩
 | id e=>exact ⟨fun _ _=>rfl,fun _ _ h=>h.elim⟩
 | str=>exact ⟨fun _ _=>rfl,fun _ _ h=>h.elim⟩
 | sl e k ih=>exact ⟨fun _ _=>rfl,fun _ _ h=>h.elim⟩
 | unit=>exact ⟨fun _ h=>h.elim,fun _ _ _=>rfl⟩
 | pair a b iha ihb=>
  refine ⟨fun _ h=>h.elim,fun fs off h=>?_⟩
  cases fs with
  | nil=>exact h.elim
  | cons f fs=>simp [Ow.fV,iha.1 _ h.2.1,ihb.2 _ _ h.2.2.2]
 | st f ih=>exact ⟨fun t h=>by obtain ⟨⟨fs,_,h⟩,_⟩:=h; exact ih.2 _ _ h,fun _ _ h=>h.elim⟩
 | gap n=>exact ⟨fun _ h=>h.elim,fun _ _ h=>h.elim⟩
theorem dn.fV {P:Program} {T:bH} {t:TypeId} {k:K} (h:dn P T t k):Ow.fV k=true:=jO.fV.1 t h
theorem Mv {h:Heap} {ok:Nat->Prop}:∀{k:K} {x:El k} {cs:List Value},fV k=true->Vw h ok k x cs->∀v∈cs,v.oneCell'=true:=by
 intro k
 induction k with
 | int ik=>intro x cs _ H v hv; rw [H.1] at hv; simp at hv; subst hv; rfl
 | bool=>intro x cs _ H v hv; rw [show cs=_ from H] at hv; simp at hv; subst hv; rfl
 | id e=>intro x cs _ H v hv; rw [show cs=_ from H] at hv; simp only [gI] at hv; subst hv; obtain ⟨a,n,c,h⟩:=Fr.Z7 x; rw [h]; rfl
 | str=>intro x cs _ H v hv; obtain ⟨B,rfl,_⟩:=H; simp at hv; subst hv; rfl
 | sl e k ih=>intro x cs _ H v hv; obtain ⟨a,n,c,rfl,_⟩:=H; simp at hv; subst hv; rfl
 | unit=>intro x cs _ H v hv; rw [show cs=_ from H] at hv; simp at hv
 | pair a b iha ihb=>
  intro x cs hg H v hv
  simp [fV] at hg
  obtain ⟨c1,c2,rfl,h1,h2⟩:=H
  rcases bW.1 hv with h | h
  ·exact iha hg.1 h1 v h
  ·exact ihb hg.2 h2 v h
 | st f ih=>intro x cs hg H; exact ih (x:=x) hg H
 | gap n=>intro x cs hg; simp [fV] at hg
theorem Mq {h:Heap} {own:List TypeId} {ok:Nat->Prop} {k:K} {x:El k} {cs:List Value} {fo:List Nat} (hg:fV k=true) (H:Ow h own ok k x cs fo):∀v∈cs,v.oneCell'=true:=
 Mv hg (qp (fun _=>True) (fun _ _=>trivial) (fun _ _=>trivial) H)
theorem VC.mk {h:Heap} {ok:Nat->Prop} {k:K} {x:El k} {cs:List Value} (hk:∀a b,k≠.pair a b) (hu:k≠.unit) (hg:∀n,k≠.gap n) (H:Vw h ok k x cs):∃v,VC k v cs:=by
 cases k with
 | int ik=>exact ⟨.int ik x,H.1,by simp⟩
 | bool=>exact ⟨.bool x,H,by simp⟩
 | id e=>obtain ⟨a,n,c,h⟩:=Fr.Z7 x; exact ⟨Fr.bI x,H,by rw [h]; simp⟩
 | str=>obtain ⟨B,e,_⟩:=H; exact ⟨.string B,e,by simp⟩
 | sl e k=>obtain ⟨a,n,c,e,_⟩:=H; exact ⟨.slice a n c,e,by simp⟩
 | unit=>exact absurd rfl hu
 | pair a b=>exact absurd rfl (hk a b)
 | st c=>exact ⟨.agg cs.toArray,rfl⟩
 | gap n=>exact absurd rfl (hg n)
theorem ZK (w:World) (o:Obj) (b:Nat):hp (w.alloc o) b=if b=w.heap.size then some o else hp w b:=by
 show (w.heap.push o)[b]?=_
 rw [Array.getElem?_push]
 rfl
theorem CE (w:World) (o:Obj) {b:Nat} (h:b<w.heap.size):hp (w.alloc o) b=hp w b:=by
 rw [ZK,aA (by omega)]
theorem ET (w:World) (o:Obj):hp (w.alloc o) w.heap.size=some o:=by
 rw [ZK,aj rfl]
theorem akW {w:World} {b:Nat} {o:Obj} (h:hp w b=some o):b<w.heap.size:=(Array.getElem?_eq_some_iff.1 h).1
theorem anB (w:World) (b o:Nat) (v:Value) {b':Nat} (h:b'≠b):hp (w.setCell ⟨b,o,none⟩ v) b'=hp w b':=by
 simp only [hp,World.setCell,OB]
 rw [aA (by omega)]
theorem anC (w:World) (b o:Nat) (v:Value) {arr:Array Value} {e:TypeId} {fr:Nat×Nat} (h:hp w b=some (.cells arr e fr)) :
  hp (w.setCell ⟨b,o,none⟩ v) b=some (.cells (arr.setIfInBounds o v) e fr):=by
 have h':w.heap[b]?=some (.cells arr e fr):=h
 simp [hp,World.setCell,OB,h']
theorem FX (b:Nat):∀(vs:List Value) (w:World) (arr:Array Value) (e:TypeId) (fr:Nat×Nat) (o:Nat),hp w b=some (.cells arr e fr)->o+vs.length<=arr.size->
  (∀b',b'≠b->hp (w.setCells b o vs) b'=hp w b')/\(w.setCells b o vs).heap.size=w.heap.size/\
  ∃gG,hp (w.setCells b o vs) b=some (.cells gG e fr)/\gG.size=arr.size/\(∀i,i<vs.length->gG[o+i]?=vs[i]?)/\∀i,¬(o<=i/\i<o+vs.length)->gG[i]?=arr[i]?:=by
 intro vs
 induction vs with
 | nil=>intro w arr e fr o hb _; exact ⟨fun _ _=>rfl,rfl,arr,hb,rfl,fun i hi=>by simp at hi,fun _ _=>rfl⟩
 | cons v vs ih=>
  intro w arr e fr o hb hl
  simp only [gY] at hl
  have h1:=anC w b o v hb
  obtain ⟨g1,g2,gG,g3,g4,g5,g6⟩:=ih (w.setCell ⟨b,o,none⟩ v) _ e fr (o+1) h1 (by simp; omega)
  refine ⟨fun b' hb'=>(g1 b' hb').trans (anB w b o v hb'),by rw [World.setCells,g2]; simp [World.setCell],gG,g3,by rw [g4]; simp, ?_, ?_⟩
  ·intro i hi
   simp only [gY] at hi
   cases i with
   | zero=>
    rw [g6 _ (by omega)]
    simp only [pK,qO]
    rw [U4 (by omega)]
   | succ i=>
    rw [show o+(i+1)=o+1+i from by omega,g5 i (by omega)]
    simp
  ·intro i hi
   simp only [gY] at hi
   rw [g6 i (by omega),U3 (by omega)]
theorem FY (b:Nat):∀(vs:List Value) (w:World) (o:Nat),(w.setCells b o vs).os=w.os/\(w.setCells b o vs).tape=w.tape/\(w.setCells b o vs).output=w.output:=by
 intro vs
 induction vs with
 | nil=>intro w o; exact ⟨rfl,rfl,rfl⟩
 | cons v vs ih=>intro w o; exact ih (w.setCell ⟨b,o,none⟩ v) (o+1)
theorem JX {P:Program} {w:World} {b o:Nat} {arr:Array Value} {e:TypeId} {lo hi:Nat} (vs:List Value) (hb:hp w b=some (.cells arr e (lo,hi))) (hf:jq arr.size lo hi)
  (hl:o+vs.length<=arr.size) (h1:∀v∈vs,v.oneCell'=true):(storeCells ⟨b,o,none⟩ vs).run P w=.ok () (w.setCells b o vs):=by
 have:=run_storeCells_cells (P:=P) b o vs 0 w (fun j hj=>by
   rw [zI]
   unfold cellAt
   rw [hb]
   simp only [pK]
   rw [Array.getElem?_eq_getElem (by omega)]
   rfl) (fun j hj=>by
   unfold World.frozen?
   have hb':w.heap[b]?=some (.cells arr e (lo,hi)):=hb
   simp only [hb',pK]
   have:=hf (o+j) (by omega)
   simp
   omega) h1
 simpa using this
theorem ab5 {P:Program} {T:bH} {t:TypeId} {k:K} {w:World} {b o:Nat} {cs:List Value} {v:Value} {arr:Array Value} {e:TypeId} {lo hi:Nat} (h:dn P T t k) (hb:hp w b=some (.cells arr e (lo,hi)))
  (hf:jq arr.size lo hi) (hl:cs.length=k.size) (hs:o+k.size<=arr.size) (hv:VC k v cs) (h1:∀v∈cs,v.oneCell'=true) :
  (Instr.storeAt t (.pointer (some ⟨b,o,none⟩)) v).run P w=.ok () (w.setCells b o cs):=by
 have hc:=hv.cells
 have hsz:v.cells.size=k.size:=by rw [<-hl, <-hc]; simp
 unfold Instr.storeAt Instr.sureAddr storeVar
 simp only [dO,fA,Result.andThen,h.info.sizeOf w,Sem.run_ite]
 rw [aA (by rw [hsz]; simp)]
 rw [hc]
 exact JX cs hb hf (by omega) h1
theorem ab4 {P:Program} (t:TypeId) (v:Value) (w:World):(newVar t v).run P w=.ok ⟨w.heap.size,0,none⟩ (w.alloc (.cells v.cells t)):=by
 simp [newVar,newRow]
theorem abZ {P:Program} (t:TypeId) (v:Value) (w:World):(Instr.box t v).run P w=.ok (.pointer (some ⟨w.heap.size,0,none⟩)) (w.alloc (.cells v.cells t)):=by
 simp [Instr.box,ab4,Result.andThen]
theorem anl {P:Program} {T:bH} {t:TypeId} {k:K} (h:dn P T t k) (w:World):(Instr.alloc t true (.tuple #[])).run P w=.ok (.pointer (some ⟨w.heap.size,0,none⟩)) (w.alloc (.cells (jC k).cells t)):=by
 simp [Instr.alloc,h.info.zero w,ab4,Result.andThen]
theorem acS:∀{k:K},(∀a b,k≠.pair a b)->k≠.unit->(∀n,k≠.gap n)->VC k (jC k) (dR k):=by
 intro k h1 h2 h3
 cases k with
 | int ik=>exact ⟨rfl,by simp [jC]⟩
 | bool=>exact ⟨rfl,by simp [jC]⟩
 | id e=>exact ⟨rfl,by simp [jC]⟩
 | str=>exact ⟨rfl,by simp [jC]⟩
 | sl e k=>exact ⟨rfl,by simp [jC]⟩
 | unit=>exact absurd rfl h2
 | pair a b=>exact absurd rfl (h1 a b)
 | st c=>rfl
 | gap n=>exact absurd rfl (h3 n)
theorem Kg {h:Heap} {own:List TypeId} {ok:Nat->Prop}:∀{k:K},fV k=true->(∀t∈k.tys,aa t own=true)->Ow h own ok k k.zero (dR k) []:=by
 intro k
 induction k with
 | int ik=>intro _ _; exact ⟨rfl,rfl,by cases ik <;> simp [mG,K.zero]⟩
 | bool=>intro _ _; exact ⟨rfl,rfl⟩
 | id e=>intro _ _; exact ⟨rfl,by show _=[Fr.bI 0]; rw [Fr.SI]; rfl⟩
 | str=>intro _ _; exact ⟨rfl,ByteArray.empty,rfl,rfl⟩
 | sl e k ih=>
  intro _ ht
  unfold Ow
  rw [aj (ht e (by simp [K.tys]))]
  exact ⟨none,0,0,rfl,rfl,bN _, .inl ⟨rfl,rfl⟩⟩
 | unit=>intro _ _; exact ⟨rfl,rfl⟩
 | pair a b iha ihb=>
  intro hg ht
  simp [fV] at hg
  exact ⟨dR a,dR b,[],[],rfl, .refl _,iha hg.1 (fun t h=>ht t (by simp [K.tys,h])),ihb hg.2 (fun t h=>ht t (by simp [K.tys,h]))⟩
 | st f ih=>intro hg ht; exact ih hg ht
 | gap n=>intro hg; simp [fV] at hg
end
section
open Go
variable [Fr]
structure D8 where
 base:Option (Nat×Nat×Nat)
 bl:List Nat
 kp:Bool
structure Cx where
 nt:Nat
 w0:World
 ext:Nat->Nat->Prop
 par:Nat->Option D8
 ptrs:Nat->List Stp->List TypeId->Value->Prop
 refs:Nat->Value->Prop
structure aH where
 loc:Nat->Nat×Nat
 hdr:Nat->List Value
 fo:Nat->List Nat
def aK (J:aH) (R:Root) (r:Nat):Option (Nat×Nat):=match R.kind with
 | .var _=>some (J.loc r)
 | .par=>some (J.loc r)
 | _=>none
def blk (J:aH) (R:Root) (r:Nat):List Nat:=(match aK J R r with
 | some q=>[q.1]
 | none=>[])++J.fo r
def aU (Z:St) (r:Nat) (R:Root):Prop:=Z.roots r=some R/\R.bY=false
def nV (cx:Cx) (b:Nat):Prop:=∃j pi o n,cx.par j=some pi/\pi.base=some (b,o,n)
def bG (cx:Cx) (Z:St) (J:aH) (F:List Nat) (w:World) (T:List Tag) (b:Nat):Prop:=
 b<w.heap.size/\b∉F/\¬nV cx b/\(∀r R,aU Z r R->b∈blk J R r->∃n,(r,n)∈T)/\
 (b<cx.w0.heap.size->(∃j n,(jA j,n)∈T/\cx.ext j b)\/∃j pi,cx.par j=some pi/\b∈pi.bl)
def cB (Z:St) (R:Root):Prop:=R.bY=false/\cO Z R.qJ R.tags=true
def mE (Z:St) (J:aH) (F:List Nat) (w:World) (T:List Tag) (b:Nat):Prop:=
 b<w.heap.size/\b∉F/\∀r R,aU Z r R->b∈blk J R r->∃n,(r,n)∈T
def wz (cx:Cx) (Z:St) (J:aH) (F:List Nat) (w:World) (bt:TypeId) (k:K) (x:El k) (T:List Tag) (v:Value):Prop:=
 (∃b o,v=.pointer (some ⟨b,o,none⟩))/\(cO Z (bt :: k.tys) T=true->∃b o cs,v=.pointer (some ⟨b,o,none⟩)/\Cells (hp w) b o cs/\Vw (hp w) (bG cx Z J F w T) k x cs/\mE Z J F w T b/\
  ((bt=SENT/\∀t∈T,gZ t.1=true)\/(l9 (hp w) b bt/\¬nV cx b)))
def nA (cx:Cx) (Z:St) (J:aH) (F:List Nat) (w:World):List (TypeId×Dat×List Tag)->List Value->Prop
 | [],[]=>True
 | c :: cs,v :: vs=>wz cx Z J F w c.1 c.2.1.1 c.2.1.2 c.2.2 v/\nA cx Z J F w cs vs
 | _,_=>False
def nC:List Stp->K->Option (Nat×K)
 | [],k=>some (0,k)
 | .aZ n :: p, .st c=>match bO n c with
  | some q=>match nC p q.2 with
   | some r=>some (q.1+r.1,r.2)
   | none=>none
  | none=>none
 | _,_=>none
def acW (J:aH) (h:Heap) (r:Nat) (R:Root) (p:List Stp) (q:Nat) (Q:Root) (v:Value):Prop:=
 ∃(e:TypeId) (kk:K) (xs:List (El kk)) (wh:Option (Nat×Nat)) (b:Option Addr) (n c:Nat) (ce:List Value) (hq:Value) (b1 o1 c1:Nat) (arr:Array Value) (lo hi:Nat),
  aB p R.k R.x=some ⟨.sl e kk,xs⟩/\bX p R.k R.x/\(∀t∈az p R.k,aa t R.own=true)/\aT h p R.k (J.hdr r) (aK J R r)=some ([.slice b n c],wh)/\
  (Q.k=zC e kk/\Q.kind=.anon)/\J.hdr q=ce++[hq]/\ce.length=kk.size/\v=.slice (some ⟨b1,o1,none⟩) (n+1) c1/\n+1<=c1/\
  h b1=some (.cells arr e (lo,hi))/\jq arr.size lo hi/\o1+c1 * kk.size<=arr.size/\Cells h b1 (o1+n * kk.size) ce/\
  ((b=some ⟨b1,o1,none⟩/\b1∈J.fo r/\hq=.slice none 0 0/\c=c1)\/(hq=.slice (some ⟨b1,o1,none⟩) 0 c1/\b1∈J.fo q/\(0<n->∃b0 o0,b=some ⟨b0,o0,none⟩/\b0∈J.fo r/\∀i,i<n * kk.size->cellAt h b1 (o1+i)=cellAt h b0 (o0+i))))
def agO (J:aH) (h:Heap) (r:Nat) (R:Root) (p:List Stp) (q:Nat) (Q:Root) (a b:Nat) (v:Value):Prop:=
 ∃(e:TypeId) (kk:K) (xs:List (El kk)) (wh:Option (Nat×Nat)) (bb:Option Addr) (m c:Nat) (bq:Option Addr) (m1 c1:Nat),
  aB p R.k R.x=some ⟨.sl e kk,xs⟩/\bX p R.k R.x/\(∀t∈az p R.k,aa t R.own=true)/\aT h p R.k (J.hdr r) (aK J R r)=some ([.slice bb m c],wh)/\
  (Q.k=.sl e (.gap kk.size)/\Q.kind=.anon)/\J.hdr q=[v]/\v=.slice bq m1 c1/\(a<=b/\b<=m/\m=xs.length/\m1=a+(m - b))/\
  (0<m1->∃b1 o1 b0 o0,bq=some ⟨b1,o1,none⟩/\bb=some ⟨b0,o0,none⟩/\b1∈J.fo q/\b0∈J.fo r/\
   ∀j i,j<m1->i<kk.size->cellAt h b1 (o1+(j * kk.size+i))=cellAt h b0 (o0+((if j<a then j else b+(j - a)) * kk.size+i)))
def aW (cx:Cx) (Z:St) (J:aH) (F:List Nat) (w:World):AV->Value->Prop
 | .undef,_=>True
 | .val k x T,v=>(k.flat=true\/cO Z k.tys T=true)->∃cs,VC k v cs/\Vw (hp w) (bG cx Z J F w T) k x cs
 | .fG,v=>∃a,v=.slice a 0 0
 | .ref r g,v=>∀R,aU Z r R->R.g=g->R.kind=.anon/\VC R.k v (J.hdr r)
 | .dZ r p n,v=>∀R,Z.roots r=some R->cB Z R->R.dL=n->∀d,aB p R.k R.x=some d->
   bX p R.k R.x/\(∀t∈az p R.k,aa t R.own=true)/\∃cs wh,aT (hp w) p R.k (J.hdr r) (aK J R r)=some (cs,wh)/\VC d.1 v cs
 | .ptr r p n,v=>(∃b o,v=.pointer (some ⟨b,o,none⟩))/\∀R,Z.roots r=some R->cB Z R->clean R.h n (iW p R.k)=true->(∀t∈az p R.k,aa t R.own=true)->(aB p R.k R.x).isSome=true->
   bX p R.k R.x/\∃cs b o,aT (hp w) p R.k (J.hdr r) (aK J R r)=some (cs,some (b,o))/\v=.pointer (some ⟨b,o,none⟩)
 | .fQ bt k x T,v=>wz cx Z J F w bt k x T v
 | .kG,v=>v=.pointer none
 | .pz e,v=>∃b,v=.bool b/\(b=true->e=true)
 | .part r g lo hi sz,v=>∃b' b n c,v=.slice b' (hi - lo) (c - lo)/\(lo=0\/c≠lo->b'=b.map (·.add (lo * sz)))/\lo<=hi/\hi<=n/\n<=c/\∀R,aU Z r R->R.g=g->R.kind=.anon/\VC R.k (.slice b n c) (J.hdr r)
 | .lZ r g k p,v=>∃u b off k1,v=.pointer (some ⟨b,off,none⟩)/\mE Z J F w [] b/\Cells (hp w) b 0 u.cells.toList/\nC p k=some (off,k1)/\∀R,aU Z r R->R.g=g->R.kind=.anon/\VC R.k u (J.hdr r)
 | .nI r p n m,v=>∃b c,v=.slice b m c/\∀R,Z.roots r=some R->cB Z R->R.dL=n->∀d,aB p R.k R.x=some d->
   bX p R.k R.x/\(∀t∈az p R.k,aa t R.own=true)/\∃q wh,aT (hp w) p R.k (J.hdr r) (aK J R r)=some ([.slice b q c],wh)/\m<=q
 | .sub r p n lo hi sz,v=>∃b' b m c,v=.slice b' (hi - lo) (c - lo)/\(lo=0\/c≠lo->b'=b.map (·.add (lo * sz)))/\lo<=hi/\hi<=m/\m<=c/\∀R,Z.roots r=some R->cB Z R->R.dL=n->∀d,aB p R.k R.x=some d->
   bX p R.k R.x/\(∀t∈az p R.k,aa t R.own=true)/\∃wh,aT (hp w) p R.k (J.hdr r) (aK J R r)=some ([.slice b m c],wh)
 | .sel r p n q x y,v=>∀R,Z.roots r=some R->cB Z R->R.dL=n->∀Q,aU Z q Q->Q.dL=0->agO J (hp w) r R p q Q x y v
 | .app r p n q,v=>∀R,Z.roots r=some R->cB Z R->R.dL=n->∀Q,aU Z q Q->Q.dL=0->acW J (hp w) r R p q Q v
 | .fn f cs,v=>∃vs:List Value,v=.func (.func f) #[] vs.toArray/\nA cx Z J F w cs vs
def iN (cx:Cx) (Z:St) (J:aH) (F:List Nat) (w:World):List AV->List Value->Prop
 | [],[]=>True
 | a :: l,v :: vs=>aW cx Z J F w a v/\iN cx Z J F w l vs
 | _,_=>False
def Fx:K->List Value->List Value->Prop
 | .pair k r,u :: us,cs=>∃c1 c2,cs=c1++c2/\VC k u c1/\c1.length=k.size/\Fx r us c2
 | .unit,[],cs=>cs=[]
 | _,_,_=>False
def jv (cx:Cx) (Z:St) (J:aH) (F:List Nat) (w:World):gM->Value->Prop
 | .one a,v=>aW cx Z J F w a v
 | .mH l,v=>∃vs:List Value,v=.tuple vs.toArray/\iN cx Z J F w l vs
 | .lit _ c l,v=>∃vs cs:List Value,(v=.agg cs.toArray/\Fx c vs cs)/\iN cx Z J F w l vs
def yI (Z:St) (t:Tag):Prop:=gZ t.1=true\/∃R,Z.roots t.1=some R/\(R.bY=true\/t.2<=dS R.w)
def gB (Z:St) (T:List Tag):Prop:=∀t∈T,yI Z t
def dQ (Z:St):AV->Prop
 | .val _ _ T=>gB Z T
 | .ref r g=>∃R,Z.roots r=some R/\(R.bY=true\/g<=R.g)
 | .dZ r _ n=>∃R,Z.roots r=some R/\(R.bY=true\/n<=R.dL)
 | .lZ r g _ _=>∃R,Z.roots r=some R/\(R.bY=true\/g<=R.g)
 | .part r g _ _ _=>∃R,Z.roots r=some R/\(R.bY=true\/g<=R.g)
 | .nI r _ n _=>∃R,Z.roots r=some R/\(R.bY=true\/n<=R.dL)
 | .sub r _ n _ _ _=>∃R,Z.roots r=some R/\(R.bY=true\/n<=R.dL)
 | .sel r _ n q _ _=>(∃R,Z.roots r=some R/\(R.bY=true\/n<=R.dL))/\∃R,Z.roots q=some R
 | .app r _ n q=>(∃R,Z.roots r=some R/\(R.bY=true\/n<=R.dL))/\∃R,Z.roots q=some R
 | .ptr r _ n=>∃R,Z.roots r=some R/\(R.bY=true\/n<=dS R.h)
 | .fQ _ _ _ T=>gB Z T
 | .fn _ cs=>∀c∈cs,gB Z c.2.2
 | _=>True
def nu (Z:St):gM->Prop
 | .one a=>dQ Z a
 | .mH l=>∀a∈l,dQ Z a
 | .lit _ _ l=>∀a∈l,dQ Z a
def acZ (cx:Cx) (w:World):Prop:=
 w.os=cx.w0.os/\w.tape=cx.w0.tape/\w.output=cx.w0.output/\cx.w0.heap.size<=w.heap.size/\
 (∀b,b<cx.w0.heap.size->(∀j pi,cx.par j=some pi->b∉pi.bl)->hp w b=hp cx.w0 b)/\
 (∀j pi b o n,cx.par j=some pi->pi.base=some (b,o,n)->mM (hp cx.w0) (hp w) b o n)
def mine (cx:Cx) (w:World) (b:Nat):Prop:=b<w.heap.size/\(cx.w0.heap.size<=b\/∃j pi,cx.par j=some pi/\b∈pi.bl)
structure uF (cx:Cx) (Z:St) (J:aH) (F:List Nat) (w:World) (r:Nat) (R:Root):Prop where
 ow:cB Z R->Ow (hp w) R.own (bG cx Z J F w R.tags) R.k R.x (J.hdr r) (J.fo r)
 len:(J.hdr r).length=R.k.size
 mem:∀b o,aK J R r=some (b,o)->Cells (hp w) b o (J.hdr r)/\∃arr e lo hi,hp w b=some (.cells arr e (lo,hi))/\jq arr.size lo hi/\o+R.k.size<=arr.size/\(∀t,R.kind=.var t->e=t)
 nd:(blk J R r).Nodup
 mine:∀b∈blk J R r,Ow.mine cx w b
structure Rel (cx:Cx) (Z:St) (J:aH) (F:List Nat) (a:Act) (w:World):Prop where
 defs:a.defers=[]
 sz:cx.nt<=a.tmps.size
 kM:∀j pi b o n,cx.par j=some pi->pi.base=some (b,o,n)->∃R,aU Z (ah j) R/\R.kind=.par/\J.loc (ah j)=(b,o)/\R.k.size=n
 sK:∀r R,aU Z r R->R.kind=.par->∃j pi n,r=ah j/\cx.par j=some pi/\pi.base=some ((J.loc r).1,(J.loc r).2,n)
 slots:∀s,jv cx Z J F w (Z.slots s) (a.tmps.getD s undef)
 sP:∀s,nu Z (Z.slots s)
 roots:∀r R,aU Z r R->uF cx Z J F w r R
 gy:∀r R,Z.roots r=some R->gB Z R.tags/\gZ r=false/\(∀n,(r,n)∉R.tags)
 lQ:∀r R r' R',aU Z r R->aU Z r' R'->r≠r'->∀b∈blk J R r,b∉blk J R' r'
 fl:∀b∈F,mine cx w b
 iq:F.Nodup
 fB:∀r R,aU Z r R->∀b∈blk J R r,b∉F
 frame:acZ cx w
 qc:∀j pi,cx.par j=some pi->pi.kp=true->∃R,Z.roots (ah j)=some R/\(R.bY=false->∀b∈pi.bl,¬nV cx b->
  (∃e,jS (hp cx.w0) b=some e/\(e∈R.w\/e∈R.ew))\/(hp w b=hp cx.w0 b/\b∉F/\∀q Q,aU Z q Q->b∈blk J Q q->q=ah j))
 mF:(∀j pi,cx.par j=some pi->∀b∈pi.bl,b<cx.w0.heap.size)/\(∀b,Fr.free b->b<cx.w0.heap.size/\∀j pi,cx.par j=some pi->b∉pi.bl)/\∀b,Fr.free b->hp cx.w0 b=Fr.obj b
 ry:∀j p ts v,cx.ptrs j p ts v->(∃b o,v=.pointer (some ⟨b,o,none⟩))/\∃R,Z.roots (ah j)=some R/\((∀t∈ts,t∉R.eh)->aW cx Z J F w (.ptr (ah j) p 0) v)
 rz:∀j v,cx.refs j v->(∃R,Z.roots (ah j)=some R)/\aW cx Z J F w (.ref (ah j) 0) v
theorem Rel.aaS {cx:Cx} {Z:St} {J:aH} {F:List Nat} {a:Act} {w:World} (H:Rel cx Z J F a w) {b:Nat} (hm:mine cx w b):¬Fr.free b:=by
 intro hf
 obtain ⟨h1,h2⟩:=H.mF.2.1 b hf
 rcases hm.2 with h | ⟨j,pi,h3,h4⟩
 ·omega
 ·exact h2 j pi h3 h4
theorem Rel.fixed {cx:Cx} {Z:St} {J:aH} {F:List Nat} {a:Act} {w:World} (H:Rel cx Z J F a w) {b:Nat} (hf:Fr.free b):hp w b=Fr.obj b:=by
 obtain ⟨h1,h2⟩:=H.mF.2.1 b hf
 rw [H.frame.2.2.2.2.1 b h1 h2]
 exact H.mF.2.2 b hf
theorem Rel.Di {cx:Cx} {Z:St} {J:aH} {F:List Nat} {a:Act} {w:World} (H:Rel cx Z J F a w) {b:Nat} {t:TypeId} (hm:mine cx w b) (h:l9 (hp w) b t):jS (hp w) b=some t:=h.resolve_right (H.aaS hm)
theorem qF {A:Type} (l:List A):dS l=l.length:=by induction l <;> simp_all [dS]
theorem b_ {n:Nat} {l:List Nat}:aa n l=true↔n∈l:=by
 induction l with
 | nil=>simp [aa]
 | cons m l ih=>
  simp only [aa,bT]
  cases h:Nat.beq n m with
  | true=>simp [bC h]
  | false=>simp [ih,Ml h]
theorem gT {n:Nat} {l:List Nat}:aa n l=false↔n∉l:=by rw [<-b_]; simp
theorem anH (a l:List Nat) {n:Nat} (h:n<=dS l):since (a++l) n=a++since l n:=by
 unfold since
 rw [qF] at h
 simp only [qF,bV]
 rw [List.take_append,BD (by omega)]
 congr 2
 omega
theorem Eu {a l:List Nat} {n:Nat} {tys:List Nat} (h:n<=dS l):clean (a++l) n tys=true↔(∀t∈a,t∉tys)/\clean l n tys=true:=by
 unfold clean
 rw [anH a l h,List.all_append,bg,eH]
 simp [gT]
theorem ahK {Z:St} {tys:List TypeId} {t:Tag} {T:List Tag}:cO Z tys (t :: T)=true↔(gZ t.1=true\/∃R,Z.roots t.1=some R/\R.bY=false/\clean R.w t.2 tys=true)/\cO Z tys T=true:=by
 obtain ⟨r,n⟩:=t
 simp only [cO,bg]
 cases he:gZ r with
 | true=>simp
 | false=>
  simp only [kg,bJ,false_or]
  cases hr:Z.roots r with
  | none=>simp
  | some R=>simp
theorem zJ {Z:St} {tys:List TypeId} {T:List Tag}:cO Z tys T=true↔∀t∈T,gZ t.1=true\/∃R,Z.roots t.1=some R/\R.bY=false/\clean R.w t.2 tys=true:=by
 induction T with
 | nil=>simp [cO]
 | cons t T ih=>rw [ahK,ih]; simp
def Views (cx:Cx) (Z:St) (J:aH) (F:List Nat) (w:World) (Z':St) (J':aH) (F':List Nat) (w':World):Prop:=
 ∀T tys,gB Z T->cO Z' tys T=true->cO Z tys T=true/\
  (∀b,bG cx Z J F w T b->((∃t∈tys,l9 (hp w) b t)\/∀t∈T,gZ t.1=true)->bG cx Z' J' F' w' T b/\hp w' b=hp w b)/\
  ∀b,mE Z J F w T b->((∃t∈tys,l9 (hp w) b t)/\¬nV cx b\/∀t∈T,gZ t.1=true)->mE Z' J' F' w' T b/\hp w' b=hp w b
theorem Views.vw {cx:Cx} {Z Z':St} {J J':aH} {F F':List Nat} {w w':World} (H:Views cx Z J F w Z' J' F' w') {T:List Tag} {tys:List TypeId} (hw:gB Z T) (hc:cO Z' tys T=true)
  {k:K} {x:El k} {cs:List Value} (hk:∀t∈k.tys,t∈tys) (h:Vw (hp w) (bG cx Z J F w T) k x cs):Vw (hp w') (bG cx Z' J' F' w' T) k x cs:=by
 obtain ⟨_,h2,_⟩:=H T tys hw hc
 exact lN (fun b hb=>(h2 b hb.1 (.inl hb.2)).2) (fun b hb=>(h2 b hb.1 (.inl hb.2)).1) (Ig tys hk h)
theorem Views.ro {cx:Cx} {Z Z':St} {J J':aH} {F F':List Nat} {w w':World} (H:Views cx Z J F w Z' J' F' w') {bt:TypeId} {k:K} {x:El k} {T:List Tag} {v:Value} (hw:gB Z T)
  (h:wz cx Z J F w bt k x T v):wz cx Z' J' F' w' bt k x T v:=by
 refine ⟨h.1,fun hc=>?_⟩
 obtain ⟨h1,_,h2⟩:=H T _ hw hc
 obtain ⟨b,o,cs,e,hcs,hv,hok,hb⟩:=h.2 h1
 have hb':mE Z' J' F' w' T b/\hp w' b=hp w b:=h2 b hok (by
  rcases hb with ⟨_,hb⟩ | hb
  ·exact .inr hb
  ·exact .inl ⟨⟨bt,by simp,hb.1⟩,hb.2⟩)
 exact ⟨b,o,cs,e,hcs.congr hb'.2,H.vw hw hc (fun t ht=>by simp [ht]) hv,hb'.1,hb.imp id (fun h=>⟨Yr hb'.2 h.1,h.2⟩)⟩
theorem Views.caps {cx:Cx} {Z Z':St} {J J':aH} {F F':List Nat} {w w':World} (H:Views cx Z J F w Z' J' F' w') :
  ∀{cs:List (TypeId×Dat×List Tag)} {vs:List Value},(∀c∈cs,gB Z c.2.2)->nA cx Z J F w cs vs->nA cx Z' J' F' w' cs vs
 | [],[],_,h=>h
 | c :: cs,v :: vs,hw,h=>⟨H.ro (hw c (by simp)) h.1,H.caps (fun c hc=>hw c (by simp [hc])) h.2⟩
 | [],_ :: _,_,h=>h.elim
 | _ :: _,[],_,h=>h.elim
theorem Av {cx:Cx} {Z Z':St} {J J':aH} {F F':List Nat} {w w':World} (H:Views cx Z J F w Z' J' F' w') {R:Root} (hw:gB Z R.tags) (h:cB Z' R):cB Z R:=
 ⟨h.1,(H R.tags R.qJ hw h.2).1⟩
end
end Go.Proofs.YtailcbngagacaaaGreat.Ow

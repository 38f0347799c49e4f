/- A verified reading of translated code, part A of 7. No condition. -/
import Derived.Calls
import Derived.Orders
import Derived.Laws.Cells
import Derived.Laws.IdiomCopy
import Derived.Laws.Entries
import Derived.ChangeKeysEq
import Derived.WalkKit
set_option linter.unusedSectionVars false
set_option linter.unusedVariables false
set_option linter.unusedSimpArgs false
namespace Go.Proofs.YtgppmpedglhhfaaGreatDoor.Ow
open Go
abbrev aa := @Option.some.injEq
abbrev bf := @Option.bind_some
abbrev bD := @List.mem_append_right
abbrev bY := @Bool.false_eq_true
abbrev a_ := @Nat.eq_of_beq_eq_true
abbrev bP := @List.mem_append_left
abbrev bg := @Bool.and_eq_true
abbrev dA := @List.nodup_append
abbrev d_ := @List.length_append
abbrev cZ := @List.mem_append
abbrev kJ := @Int.toNat_natCast
abbrev bK := @Prod.mk.injEq
abbrev bH := @List.mem_cons
abbrev gy := @List.getD_eq_getElem?_getD
abbrev gK := @List.getElem?_eq_getElem
abbrev dX := @List.all_eq_true
abbrev bT := @Nat.le_refl
abbrev iU := @List.mem_filter
abbrev eZ := @Result.andThen_ok
abbrev gW := @List.mem_singleton
abbrev aoZ := @List.length_singleton
abbrev fH := @List.append_assoc
abbrev jI := @Classical.byContradiction
abbrev iT := @List.length_cons
abbrev ji := @List.mem_cons_of_mem
abbrev dG := @Sem.run_bind
abbrev ou := @Int.ofNat_lt
abbrev iM := @Bool.not_true
abbrev nM := @List.getElem_mem
abbrev jJ := @List.append_nil
abbrev dW := @Sem.run_pure
abbrev jC := @Nat.mul_le_mul_right
abbrev jl := @List.mem_cons_self
abbrev jB := @List.nodup_cons
abbrev dY := @Nat.zero_le
abbrev jV := @Option.some.inj
abbrev eD := @List.mem_map
abbrev nN := @List.mem_flatMap
abbrev mq := @Bool.not_false
abbrev kK := @List.flatMap_cons
abbrev qC := @List.getElem?_cons_zero
abbrev pX := @List.mem_of_getElem?
abbrev iR := @List.cons_append
abbrev jq := @List.nil_append
abbrev jN := @Nat.zero_add
abbrev nL := @List.getElem?_eq_some_iff
abbrev fJ := @cond_true
abbrev gz := @Option.map_some
abbrev x9 := @Array.getD_eq_getD_getElem?
abbrev jr := @cond_false
abbrev lM := @List.nodup_nil
abbrev uu := @Nat.lt_of_lt_of_le
abbrev Li := @List.mem_of_mem_take
abbrev jU := @Bool.not_eq_true'
abbrev oP := @Addr.mk.injEq
abbrev dZ := @and_true
abbrev oW := @List.flatten_cons
abbrev GQ := @List.flatten_nil
abbrev u_ := @List.mem_iff_getElem
abbrev qV := @Array.ext'
abbrev GY := @Nat.le_of_ble_eq_true
abbrev bQ := @if_true
abbrev bO := @if_false
abbrev jh := @List.map_cons
abbrev ak := @if_pos
abbrev sF := @Option.getD_some
abbrev aj := @if_neg
abbrev nI := @Bool.or_eq_true
abbrev qB := @List.eq_nil_of_length_eq_zero
abbrev Aj := @List.map_append
abbrev Td := @List.Sublist.append_left
abbrev Ky := @Array.length_toList
abbrev Kz := @Bool.or_eq_false_iff
abbrev FX := @Bool.false_or
abbrev Ak := @List.not_mem_nil
abbrev GZ := @Nat.ne_of_beq_eq_false
abbrev ve := @Nat.le_trans
abbrev cB := @decide_true
abbrev oz := @List.length_map
abbrev GV := @List.mem_flatten
abbrev Te := @List.ext_getElem
abbrev yC := @List.Perm.append_left
abbrev uY := @List.Perm.append_right
abbrev Lj := @List.perm_append_comm
abbrev CY := @List.getElem?_map
abbrev Tj := @List.getElem?_range
abbrev uo := @List.getElem?_append_left
abbrev u7 := @List.getElem?_append_right
abbrev nO := @Nat.add_assoc
abbrev uZ := @List.drop_drop
abbrev wM := @List.drop_eq_getElem_cons
abbrev Am := @List.take_append_drop
abbrev gX := @Nat.add_mul
abbrev kZ := @Nat.one_mul
abbrev qD := @List.getElem?_eq_none
abbrev gu := @run_underlying
abbrev lN := @Nat.add_zero
abbrev Kw := @Array.getElem?_modify
abbrev Q8 := @Array.getElem?_setIfInBounds_self_of_lt
abbrev Q7 := @Array.getElem?_setIfInBounds_ne
abbrev Tp := @List.take_of_length_le
abbrev uq := @List.length_take
abbrev MH := @decide_eq_false
abbrev bN := @decide_eq_true_eq
abbrev GU := @List.length_drop
abbrev jA := @List.length_nil
abbrev C9 := @List.map_map
abbrev K9 := @Int.lt_irrefl
abbrev dL := @decide_false
abbrev Ll := @List.take_length
abbrev u6 := @List.drop_zero
abbrev GX := @List.take_succ_eq_append_getElem
abbrev Ah := @List.flatMap_nil
abbrev CZ := @List.getElem?_take_of_lt
abbrev yD := @List.getElem?_drop
abbrev C8 := @List.mapM_cons
abbrev gQ := @List.cons.injEq
abbrev Ao := @Nat.sub_self
abbrev qW := @Array.getElem?_toList
abbrev C_ := @Option.bind_eq_some_iff
abbrev Q6 := @Array.eq_empty_of_size_eq_zero
abbrev Tf := @List.flatten_append
abbrev Lh := @List.getElem?_take
abbrev yE := @List.getElem_append_left
abbrev GR := @List.getElem_append_right
abbrev Qq := @run_firstCells_none
abbrev zP := @run_firstCells_some
abbrev CX := @List.ext_getElem?
abbrev Al := @List.size_toArray
abbrev Kv := @Array.getElem?_append_left
abbrev uf := @Array.toList_map
abbrev yF := @List.zip_cons_cons
abbrev Ti := @List.getElem?_cons_succ
abbrev uE := @decide_eq_decide
abbrev FY := @ByteArray.toList_eq
abbrev Aq := @Option.getD_none
abbrev mE := @Value.slice.injEq
abbrev Ai := @List.length_pos_iff
abbrev Tm := @List.getLastD_eq_getLast?
section
open Go
inductive K where
 |int (k:IntKind)
 |bool
 |str
 |sl (e:TypeId) (k:K)
 |unit
 |pair (a b:K)
 |st (f:K)
 |gap (n:Nat)
 |id (e:TypeId)
 deriving Inhabited
abbrev El:K->Type
 |.int _=>Int
 |.bool=>Bool
 |.str=>List Int
 |.sl _ k=>List (El k)
 |.unit=>Unit
 |.pair a b=>El a×El b
 |.st f=>El f
 |.gap _=>Unit
 |.id _=>Nat
def K.size:K->Nat
 |.int _ | .bool | .str | .sl _ _ | .id _=>1
 |.unit=>0
 |.pair a b=>a.size+b.size
 |.st f=>f.size
 |.gap n=>n
def K.zero:(k:K)->El k
 |.int _=>(0:Int)
 |.bool=>false
 |.str=>([]:List Int)
 |.sl _ _=>[]
 |.unit=>()
 |.pair a b=>(a.zero,b.zero)
 |.st f=>f.zero
 |.gap _=>()
 |.id _=>(0:Nat)
def rF:IntKind->IntKind->Bool
 |.i8,.i8 | .i16,.i16 | .i32,.i32 | .i64,.i64 | .u8,.u8 | .u16,.u16 | .u32,.u32 | .u64,.u64=>true
 |_,_=>false
def K.beq:K->K->Bool
 |.int a,.int b=>rF a b
 |.bool,.bool=>true
 |.str,.str=>true
 |.sl e a,.sl f b=>Nat.beq e f&&a.beq b
 |.unit,.unit=>true
 |.pair a b,.pair c d=>a.beq c&&b.beq d
 |.st a,.st b=>a.beq b
 |.gap n,.gap m=>Nat.beq n m
 |.id e,.id f=>Nat.beq e f
 |_,_=>false
theorem Ef{a b:IntKind}(h:rF a b=true):a=b:=by cases a<;>cases b<;>simp_all[rF]
theorem K.eq_of_beq:∀{a b:K},a.beq b=true->a=b:=by
 intro a
 induction a with
 |int k=>intro b h;cases b<;>simp_all[K.beq];exact Ef h
 |sl e k ih=>intro b h;cases b<;>simp_all[K.beq];exact ih h.2
 |pair a b iha ihb=>intro c h;cases c<;>simp_all[K.beq];exact⟨iha h.1,ihb h.2⟩
 |st f ih=>intro b h;cases b<;>simp_all[K.beq];exact ih h
 |gap n=>intro b h;cases b<;>simp_all[K.beq]
 |id e=>intro b h;cases b<;>simp_all[K.beq]
 |_=>intro b h;cases b<;>simp_all[K.beq]
def K.like:K->K->Bool
 |.gap n,k=>Nat.beq n k.size
 |.pair a b,.pair c d=>a.like c&&b.like d
 |.st a,.st b=>a.like b
 |a,b=>a.beq b
def bR(a b:K)(x:El a):Option (El b):=if h:a.beq b=true then some (K.eq_of_beq h▸x)else none
def K.hole:K->K
 |.sl _ _=>.gap 1
 |.pair a b=>.pair a.hole b.hole
 |.st f=>.st f.hole
 |k=>k
def nU:(k:K)->El k->El k.hole
 |.sl _ _,_=>()
 |.pair a b,x=>(nU a x.1,nU b x.2)
 |.st f,x=>nU f x
 |.int _,x=>x
 |.bool,x=>x
 |.str,x=>x
 |.unit,_=>()
 |.gap _,_=>()
 |.id _,x=>x
def K.tys:K->List TypeId
 |.sl e k=>e :: k.tys
 |.pair a b=>a.tys++b.tys
 |.st f=>f.tys
 |_=>[]
def K.flat:K->Bool
 |.sl _ _ | .gap _=>false
 |.pair a b=>a.flat&&b.flat
 |.st f=>f.flat
 |_=>true
def Cont:List K->Type
 | []=>Unit
 |k :: ks=>El k×Cont ks
def Cont.app:(ks ls:List K)->Cont ks->Cont ls->Cont (ks++ls)
 | [],_,_,d=>d
 |_ :: ks,ls,c,d=>(c.1,Cont.app ks ls c.2 d)
inductive Stp where
 |aP (n:Nat)
 |idx (i:Int)
abbrev Dat:=(k:K)×El k
def mO(d:Dat):Dat:=⟨d.1.hole,nU d.1 d.2⟩
def aM:Nat->(c:K)->El c->Option Dat
 |0,.pair a _,x=>some ⟨a,x.1⟩
 |n+1,.pair _ b,x=>aM n b x.2
 |_,_,_=>none
def aA:List Stp->(k:K)->El k->Option Dat
 | [],k,x=>some ⟨k,x⟩
 |.aP n :: p,.st c,x=>match aM n c x with
  |some d=>aA p d.1 d.2
  |none=>none
 |.idx i :: p,.sl _ k,xs=>aA p k ((show List (El k)from xs).getD i.toNat k.zero)
 |_,_,_=>none
def dh:Nat->(c:K)->El c->Dat->Option Dat
 |0,.pair _ b,x,d=>some ⟨.pair d.1 b,(d.2,x.2)⟩
 |n+1,.pair a b,x,d=>match dh n b x.2 d with
  |some z=>some ⟨.pair a z.1,(x.1,z.2)⟩
  |none=>none
 |_,_,_,_=>none
def bJ:List Stp->(k:K)->El k->Dat->Option Dat
 | [],_,_,d=>some d
 |.aP n :: p,.st c,x,d=>match aM n c x with
  |some s=>match bJ p s.1 s.2 d with
   |some t=>match dh n c x t with
    |some z=>some ⟨.st z.1,z.2⟩
    |none=>none
   |none=>none
  |none=>none
 |.idx i :: p,.sl e k,xs,d=>match bJ p k ((show List (El k)from xs).getD i.toNat k.zero) d with
  |some t=>match bR t.1 k t.2 with
   |some y=>some ⟨.sl e k,(show List (El k)from xs).set i.toNat y⟩
   |none=>none
  |none=>none
 |_,_,_,_=>none
def Stp.jo:Stp->Bool
 |.aP _=>true
 |.idx _=>false
def az:List Stp->K->List TypeId
 |.aP n :: p,.st c=>match jQ n c with
  |some k=>az p k
  |none=>[]
 |.idx _ :: p,.sl e k=>e :: az p k
 |_,_=>[]
where jQ:Nat->K->Option K
 |0,.pair a _=>some a
 |n+1,.pair _ b=>jQ n b
 |_,_=>none
abbrev Tag:=Nat×Nat
inductive AV where
 |undef
 |val (k:K) (x:El k) (tags:List Tag)
 |eH
 |ref (r g:Nat)
 |dJ (r:Nat) (p:List Stp) (v:Nat)
 |ptr (r:Nat) (p:List Stp) (h:Nat)
 |eY (bt:TypeId) (k:K) (x:El k) (tags:List Tag)
 |iI
 |ko (r g:Nat) (k:K) (p:List Stp)
 |nG (e:Bool)
 |part (r g lo hi sz:Nat)
 |lH (r:Nat) (p:List Stp) (v m:Nat)
 |app (r:Nat) (p:List Stp) (v q:Nat)
 |sub (r:Nat) (p:List Stp) (v lo hi sz:Nat)
 |sel (r:Nat) (p:List Stp) (v q a b:Nat)
 |fn (f:Nat) (caps:List (TypeId×Dat×List Tag))
inductive fQ where
 |one (a:AV)
 |mg (l:List AV)
 |lit (t:TypeId) (c:K) (l:List AV)
inductive wR where
 |anon
 |var (t:TypeId)
 |par
 |dead
structure Root where
 k:K
 x:El k
 own:List TypeId
 tags:List Tag
 w:List TypeId
 h:List TypeId
 g:Nat
 kind:wR
 fixed:Bool
 keep:Bool
 ew:List TypeId:=[]
 eh:List TypeId:=[]
def Root.bV(R:Root):Bool:=match R.kind with
 |.dead=>true
 |_=>false
def Root.isVar(R:Root):Bool:=match R.kind with
 |.var _=>true
 |_=>false
def gM:Root:={ k:=.unit,x:=(),own:=[],tags:=[],w:=[],h:=[],g:=0,kind:=.dead,fixed:=true,keep:=true }
structure St where
 slots:Nat->fQ
 roots:Nat->Option Root
inductive Loc where
 |s (n:Nat)
 |r (n:Nat)
inductive Wr where
 |s (n:Nat) (a:fQ)
 |r (n:Nat) (o:Option Root)
def Loc.beq:Loc->Loc->Bool
 |.s a,.s b=>Nat.beq a b
 |.r a,.r b=>Nat.beq a b
 |_,_=>false
def Wr.loc:Wr->Loc
 |.s n _=>.s n
 |.r n _=>.r n
def upd{J:Type}(f:Nat->J)(n:Nat)(v:J):Nat->J:=λm=>bif Nat.beq m n then v else f m
def Wr.app(w:Wr)(Z:St):St:=match w with
 |.s n a=>{ Z with slots:=upd Z.slots n a }
 |.r n (some R)=>{ Z with roots:=upd Z.roots n (some R) }
 |.r n none=>{ Z with roots:=upd Z.roots n (some gM) }
def aB:List Wr->St->St
 | [],Z=>Z
 |w :: ws,Z=>aB ws (w.app Z)
inductive Prog(J:Type):Type 1 where
 |ret (a:J)
 |fail
 |slot (n:Nat) (k:fQ->Prog J)
 |root (r:Nat) (k:Option Root->Prog J)
 |dO (c:Prop) (d:Decidable c) (k:Prog J)
 |br (c:Bool) (t e:Prog J)
 |opt (β:Type) (o:Option β) (k:β->Prog J)
def Prog.bind{J β:Type}:Prog J->(J->Prog β)->Prog β
 |.ret a,f=>f a
 |.fail,_=>.fail
 |.slot n k,f=>.slot n λv=>(k v).bind f
 |.root r k,f=>.root r λv=>(k v).bind f
 |.dO c d k,f=>.dO c d (k.bind f)
 |.br c t e,f=>.br c (t.bind f) (e.bind f)
 |.opt β o k,f=>.opt β o λb=>(k b).bind f
def Prog.run{J R:Type}:Prog J->St->(J->Option R)->Option R
 |.ret a,_,K=>K a
 |.fail,_,_=>none
 |.slot n k,Z,K=>(k (Z.slots n)).run Z K
 |.root r k,Z,K=>(k (Z.roots r)).run Z K
 |.dO c d k,Z,K=>@ite _ c d (k.run Z K) none
 |.br c t e,Z,K=>if c=true then t.run Z K else e.run Z K
 |.opt _ o k,Z,K=>o.bind λb=>(k b).run Z K
def Prog.rX{J R:Type}:Prog J->St->List Loc->(J->List Loc->Option R)->Option R
 |.ret a,_,l,K=>K a l
 |.fail,_,_,_=>none
 |.slot n k,Z,l,K=>(k (Z.slots n)).rX Z (.s n :: l) K
 |.root r k,Z,l,K=>(k (Z.roots r)).rX Z (.r r :: l) K
 |.dO c d k,Z,l,K=>@ite _ c d (k.rX Z l K) none
 |.br c t e,Z,l,K=>if c=true then t.rX Z l K else e.rX Z l K
 |.opt _ o k,Z,l,K=>o.bind λb=>(k b).rX Z l K
def xK:List Wr->Nat->Option fQ
 | [],_=>none
 |.s m a :: ws,n=>match xK ws n with
  |some b=>some b
  |none=>bif Nat.beq n m then some a else none
 |.r _ _ :: ws,n=>xK ws n
def zJ:List Wr->Nat->Option (Option Root)
 | [],_=>none
 |.r m o :: ws,n=>match zJ ws n with
  |some b=>some b
  |none=>bif Nat.beq n m then some (some (o.getD gM))else none
 |.s _ _ :: ws,n=>zJ ws n
def Prog.over{J:Type}(ws:List Wr):Prog J->Prog J
 |.ret a=>.ret a
 |.fail=>.fail
 |.slot n k=>match xK ws n with
  |some v=>(k v).over ws
  |none=>.slot n λv=>(k v).over ws
 |.root r k=>match zJ ws r with
  |some v=>(k v).over ws
  |none=>.root r λv=>(k v).over ws
 |.dO c d k=>.dO c d (k.over ws)
 |.br c t e=>.br c (t.over ws) (e.over ws)
 |.opt β o k=>.opt β o λb=>(k b).over ws
def J_(p q:Prog (List Wr)):Prog (List Wr):=p.bind λws=>(q.over ws).bind λvs=>.ret (ws++vs)
end
section
open Go
def ah(n:Nat):List Nat->Bool
 | []=>false
 |m :: l=>bif Nat.beq n m then true else ah n l
def lZ(l m:List Nat):Bool:=l.all λn=>ah n m
def dz{J:Type}:List J->Nat
 | []=>0
 |_ :: l=>dz l+1
def aC(j:Nat):Nat:=4*j
def gB(j:Nat):Nat:=4*j+1
def aG(d c:Nat):Nat:=4*(8*d+c)+2
def fO(r:Nat):Bool:=Nat.beq (r%4) 1
def since(l:List Nat)(n:Nat):List Nat:=l.take (dz l-n)
def clean(l:List Nat)(n:Nat)(tys:List Nat):Bool:=(since l n).all λt=>!ah t tys
def bytesOf(s:ByteArray):List Int:=s.data.toList.map λb=>(b.toNat:Int)
inductive aH where
 |val (k:K) (bB:List Nat)
 |ro (k:K)
 |rw (k:K) (ow wt ht:List TypeId)
 |into (j:Nat) (p:List (Option Nat))
 |dH (k:K) (ow wt:List TypeId)
 |own (k:K) (ow:List TypeId)
 |fn (f:Nat) (ks:List K)
inductive eF where
 |val (k:K) (exts bB:List Nat)
 |own (k:K) (ow:List TypeId) (exts bB:List Nat)
 |ptr (t:TypeId) (k:K) (ow:List TypeId) (exts:List Nat)
 |into (j:Nat) (p:List (Option Nat))
def aH.kin:aH->List K
 |.val k _ | .ro k | .rw k _ _ _ | .dH k _ _ | .own k _=>[k]
 |.into _ p=>p.filterMap fun|none=>some (.int .i64)|some _=>none
 |.fn _ ks=>ks
def aH.gF:aH->List K
 |.rw k _ _ _ | .dH k _ _=>[k]
 |_=>[]
def eF.iq:eF->List K
 |.val k _ _ | .own k _ _ _ | .ptr _ k _ _=>[k]
 |.into _ _=>[.int .i64]
def kin:List aH->List K
 | []=>[]
 |p :: ps=>p.kin++kin ps
def gF:List aH->List K
 | []=>[]
 |p :: ps=>p.gF++gF ps
def iq:List eF->List K
 | []=>[]
 |p :: ps=>p.iq++iq ps
structure Entry where
 f:FuncId
 ps:List aH
 rs:List eF
 F:Nat->Cont (kin ps)->Option (Cont (iq rs++gF ps))
structure bF where
 ty:TypeId->Option K
 bytes:TypeId->Nat
 ptr:TypeId->Bool
 eq:TypeId->Bool
 ids:Bool:=false
structure Hint where
 nt:Nat
 ad6:List Nat
 loops:List (Nat×List Nat×List Nat)
 less:List (Nat×List TypeId)
 calls:List (Nat×Option Nat×Entry)
 eX:List (Nat×K×List TypeId×List TypeId)
 wide:List (Nat×List Nat):=[]
 parts:List Nat:=[]
 apps:List Nat:=[]
section
variable {J:Type}
def qb:List Tag->List TypeId->Prog J->Prog J
 | [],_,k=>k
 |(r,n) :: ts,tys,k=>bif fO r then qb ts tys k else .root r fun
  |some R=>bif !R.bV&&clean R.w n tys then qb ts tys k else .fail
  |none=>.fail
def aZ(own:List TypeId):K->List TypeId
 |.sl e k=>bif ah e own then aZ own k else e :: k.tys
 |.pair a b=>aZ own a++aZ own b
 |.st f=>aZ own f
 |_=>[]
def Root.oO(R:Root):List TypeId:=aZ R.own R.k
def g_(r:Nat)(k:Root->Prog J):Prog J:=.root r fun
 |some R=>bif R.bV then .fail else qb R.tags R.oO (k R)
 |none=>.fail
def Root.dF(R:Root):Nat:=dz R.w+dz R.h
def Root.out(R:Root)(r:Nat)(k:K):List Tag:=bif k.flat then []else bif k.tys.any (λt=>ah t R.own)then(r,dz R.w) :: R.tags else R.tags
def jD(r:Nat)(k:Prog J):Prog J:=.root r fun
 |none=>k
 |some _=>.fail
def BD:IntKind->Int->Bool
 |.u8,n=>Int.blt n 256&&Int.ble 0 n
 |_,_=>true
where
 Int.blt (a b:Int):Bool:=decide (a<b)
 Int.ble (a b:Int):Bool:=decide (a<=b)
def EZ:Value->AV
 |.int k n=>bif BD k n then .val (.int k) n []else .undef
 |.bool b=>.val .bool b []
 |.string s=>.val .str (bytesOf s) []
 |.slice none 0 0=>.eH
 |.pointer none=>.iI
 |_=>.undef
def rz(x:Operand)(k:fQ->Prog J):Prog J:=match x with
 |.tmp t=>.slot t k
 |.const v=>k (.one (EZ v))
 |.func f=>k (.one (.fn f []))
 |.global _=>.fail
def dP(x:Operand)(k:AV->Prog J):Prog J:=rz x fun
 |.one a=>k a
 |_=>.fail
def oD(a:AV)(k:(kk:K)->El kk->List Tag->Prog J):Prog J:=match a with
 |.val kk x tags=>qb tags kk.tys (k kk x tags)
 |.ref r g=>g_ r λR=>bif Nat.beq R.g g then k R.k R.x (R.out r R.k)else .fail
 |.dJ r p h=>g_ r λR=>bif Nat.beq R.dF h then
   match aA p R.k R.x with
   |some d=>k d.1 d.2 (R.out r d.1)
   |none=>.fail
  else .fail
 |_=>.fail
def asInt(a:AV)(k:IntKind->Int->Prog J):Prog J:=match a with
 |.val (.int ik) n _=>k ik n
 |_=>.fail
def asBool(a:AV)(k:Bool->Prog J):Prog J:=match a with
 |.val .bool b _=>k b
 |_=>.fail
def Wr.dR:Wr->List Nat
 |.r n _=>[n]
 |.s _ _=>[]
def Ay:List Nat->Bool
 | []=>true
 |n :: l=>!ah n l&&Ay l
def wX(ws:List Wr)(tags:List Tag):Bool:=tags.all λt=>!ah t.1 (ws.flatMap Wr.dR)
def qw(ws:List Wr)(tags:List Tag):Bool:=Ay (ws.flatMap Wr.dR)&&wX ws tags
structure dS where
 k:K
 x:El k
 own:List TypeId
 tags:List Tag
 ws:List Wr
 keep:Bool
abbrev iZ:Nat:=4294967294
def iD:List Stp->K->List TypeId
 | [],_=>[]
 |p,k=>iZ :: az p k
def qJ(k:K):List TypeId:=match k.tys with
 | []=>[iZ]
 |_=>[]
def uJ(R:Root)(p:List Stp)(d:Dat):Option Root:=
 match bJ p R.k R.x (mO d)with
 |some z=>some { R with k:=z.1,x:=z.2,w:=d.1.tys++R.w,h:=qJ d.1++d.1.tys++R.h }
 |none=>none
def qp(want:K)(a:AV)(k:dS->Prog J):Prog J:=match a with
 |.val kk x tags=>qb tags kk.tys (k ⟨kk,x,[],tags,[],false⟩)
 |.eH=>match want with
  |.sl e kk=>k ⟨.sl e kk,[],e :: kk.tys,[],[],false⟩
  |_=>.fail
 |.ref r g=>g_ r λR=>bif Nat.beq R.g g && !R.fixed then k ⟨R.k,R.x,R.own,R.tags,[.r r none],R.keep⟩else .fail
 |.dJ r p h=>g_ r λR=>bif Nat.beq R.dF h then
   match aA p R.k R.x with
   |some d=>bif p.all Stp.jo && !R.fixed&&(!p.isEmpty||R.isVar)then
     match uJ R p d with
     |some R'=>k ⟨d.1,d.2,d.1.tys.filter (λt=>ah t R.own),R.tags,[.r r (some R')],R.keep⟩
     |none=>.fail
    else qb (R.out r d.1) d.1.tys (k ⟨d.1,d.2,[],R.out r d.1,[],false⟩)
   |none=>.fail
  else .fail
 |.part r g lo hi sz=>g_ r λR=>bif Nat.beq R.g g && !R.fixed&&Nat.beq lo 0 then match R.k,R.x with
   |.sl e kk,xs=>bif kk.flat&&ah e R.own&&Nat.beq kk.size sz then k ⟨.sl e kk,(show List (El kk)from xs).take hi,R.own,R.tags,[.r r none],R.keep⟩else .fail
   |_,_=>.fail
  else .fail
 |_=>.fail
def rH:List Int->List Int->Bool
 |_,[]=>false
 | [],_ :: _=>true
 |a :: x,b :: y=>decide (a<b)||(decide (a=b)&&rH x y)
def vM:(k:K)->El k->El k->Bool
 |.int _,x,y=>decide ((show Int from x)=y)
 |.bool,x,y=>(show Bool from x)==y
 |.str,x,y=>decide ((show List Int from x)=y)
 |.pair .unit .unit,_,_=>true
 |.pair a .unit,x,y=>vM a x.1 y.1
 |.pair a b,x,y=>vM a x.1 y.1&&vM b x.2 y.2
 |.st f,x,y=>vM f x y
 |_,_,_=>true
def v1(k:K)(x:El k):fQ:=.one (.val k x [])
def IY(op:BinOp)(ik:IntKind)(x y:Int)(k:fQ->Prog J):Prog J:=match op with
 |.add=>k (v1 (.int ik) (ik.wrap (x+y)))
 |.sub=>k (v1 (.int ik) (ik.wrap (x-y)))
 |.mul=>k (v1 (.int ik) (ik.wrap (x*y)))
 |.quo=>.dO (y≠0) inferInstance (k (v1 (.int ik) (ik.wrap (x.tdiv y))))
 |.rem=>.dO (y≠0) inferInstance (k (v1 (.int ik) (x.tmod y)))
 |.and=>k (v1 (.int ik) (ik.wrap (BitVec.ofInt ik.bits x &&& BitVec.ofInt ik.bits y).toNat))
 |.or=>k (v1 (.int ik) (ik.wrap (BitVec.ofInt ik.bits x ||| BitVec.ofInt ik.bits y).toNat))
 |.xor=>k (v1 (.int ik) (ik.wrap (BitVec.ofInt ik.bits x ^^^ BitVec.ofInt ik.bits y).toNat))
 |.andNot=>k (v1 (.int ik) (ik.wrap (BitVec.ofInt ik.bits x &&& ~~~ BitVec.ofInt ik.bits y).toNat))
 |.eql=>k (v1 .bool (decide (x=y)))
 |.neq=>k (v1 .bool (!decide (x=y)))
 |.lss=>k (v1 .bool (decide (x<y)))
 |.leq=>k (v1 .bool (decide (x<=y)))
 |.gtr=>k (v1 .bool (decide (x>y)))
 |.geq=>k (v1 .bool (decide (x>=y)))
 |_=>.fail
def QH(op:BinOp)(x y:List Int)(k:fQ->Prog J):Prog J:=match op with
 |.add=>.dO (x.length+y.length<=9223372036854775807) inferInstance (k (v1 .str (x++y)))
 |.eql=>k (v1 .bool (decide (x=y)))
 |.neq=>k (v1 .bool (!decide (x=y)))
 |.lss=>k (v1 .bool (rH x y))
 |.leq=>k (v1 .bool (rH x y||decide (x=y)))
 |.gtr=>k (v1 .bool (!(rH x y||decide (x=y))))
 |.geq=>k (v1 .bool (!rH x y))
 |_=>.fail
def Fj(a b:AV):Option Bool:=match a,b with
 |.iI,.iI=>some true
 |.iI,.ptr _ _ _ | .ptr _ _ _,.iI=>some false
 |.iI,.eY _ _ _ _ | .eY _ _ _ _,.iI=>some false
 |_,_=>none
def w9(T:bF)(t:TypeId)(op:BinOp)(a b:AV)(k:fQ->Prog J):Prog J:=match a,b with
 |.val (.int ik) x _,.val (.int jk) y _=>match op with
  |.shl=>.dO (0<=y) inferInstance (k (v1 (.int ik) (ik.wrap (x*2 ^ min y.toNat ik.bits))))
  |.shr=>.dO (0<=y) inferInstance (k (v1 (.int ik) (x.fdiv (2 ^ min y.toNat ik.bits))))
  |_=>bif rF ik jk then IY op ik x y k else .fail
 |.val .bool x _,.val .bool y _=>match T.ty t,op with
  |some .bool,.eql=>k (v1 .bool (x==y))
  |some .bool,.neq=>k (v1 .bool (!(x==y)))
  |_,_=>.fail
 |.val .str x _,.val .str y _=>QH op x y k
 |.val (.st c) x _,.val (.st d) y _=>match bR (.st d) (.st c) y with
  |some y'=>bif (c.flat&&T.eq t)&&(match T.ty t with|some kk=>kk.beq (.st c)|none=>false)then match op with
    |.eql=>k (v1 .bool (vM c x y'))
    |.neq=>k (v1 .bool (!vM c x y'))
    |_=>.fail
   else .fail
  |none=>.fail
 |a,b=>bif T.ptr t then match Fj a b,op with
  |some t,.eql=>k (v1 .bool t)
  |some t,.neq=>k (v1 .bool (!t))
  |_,_=>.fail
  else .fail
def WJ:Operand->Bool
 |.const (.slice none 0 0)=>true
 |_=>false
def WI:BinOp->Bool
 |.eql=>true
 |_=>false
def Za(T:bF)(t:TypeId)(a:AV)(k:AV->Prog J):Prog J:=match T.ty t with
 |some (.sl _ _)=>oD a λkk x _=>match kk,x with
  |.sl _ kk,xs=>k (.nG (show List (El kk)from xs).isEmpty)
  |_,_=>.fail
 |_=>.fail
def L8(T:bF)(t:TypeId)(op:BinOp)(x y:Operand)(k:fQ->Prog J):Prog J:=
 bif WJ y&&WI op then dP x λa=>Za T t a λv=>k (.one v)else dP x λa=>dP y λb=>w9 T t op a b k
def QN(op:UnOp)(a:AV)(k:fQ->Prog J):Prog J:=match op,a with
 |.neg,.val (.int ik) x _=>k (v1 (.int ik) (ik.wrap (0-x)))
 |.xor,.val (.int ik) x _=>k (v1 (.int ik) (ik.wrap (BitVec.ofInt ik.bits (if ik.signed then -1 else ik.max) ^^^ BitVec.ofInt ik.bits x).toNat))
 |.not,.val .bool b _=>k (v1 .bool (!b))
 |_,_=>.fail
def bL(k:K)(x:El k)(ow:List TypeId)(tags:List Tag)(kind:wR)(keep:Bool:=false):Root:={ k,x,own:=ow,tags,w:=[],h:=[],g:=0,kind,fixed:=false,keep }
def Root.bt(R:Root):TypeId:=match R.kind with
 |.var t=>t
 |_=>4294967295
def fU(R:Root)(p:List Stp):TypeId:=(az p R.k).getLastD R.bt
def BS(p:List Stp)(R:Root):Bool:=(az p R.k).all λt=>ah t R.own
def addrOf(a:AV)(rd:Root->Nat->List Stp->Dat->Prog J)(ro:TypeId->Dat->List Tag->Prog J):Prog J:=match a with
 |.ptr r p h=>g_ r λR=>bif clean R.h h (iD p R.k)&&BS p R then
   match aA p R.k R.x with
   |some d=>rd R r p d
   |none=>.fail
  else .fail
 |.eY bt k x tags=>qb tags (bt :: k.tys) (ro bt ⟨k,x⟩ tags)
 |_=>.fail
def vY(T:bF)(dJ:Bool)(t:TypeId)(a:AV)(k:AV->Prog J):Prog J:=
 match T.ty t with
 |none=>.fail
 |some kk=>match a with
  |.ko r g k0 p=>g_ r λR=>bif Nat.beq R.g g&&R.k.beq k0&&p.all Stp.jo then
    match aA p R.k R.x with
    |some d=>bif d.1.beq kk then(bif d.1.flat then k (.val d.1 d.2 [])else k (.dJ r p R.dF))else .fail
    |none=>.fail
   else .fail
  |a=>addrOf a
   (λR r p d=>bif d.1.beq kk then(bif dJ && !d.1.flat then k (.dJ r p R.dF)else k (.val d.1 d.2 (R.out r d.1)))else .fail)
   (λ_ d tags=>bif d.1.beq kk then k (.val d.1 d.2 (bif d.1.flat then []else tags))else .fail)
def dV(own bad:List TypeId):List TypeId:=own.filter λt=>!ah t bad
def jS:List Tag->List Tag->List Tag
 | [],m=>m
 |(r,n) :: l,m=>bif m.any λt=>Nat.beq t.1 r&&Nat.beq t.2 n then jS l m else(r,n) :: jS l m
def qd(r:Nat)(l:List Tag):List Tag:=l.filter λt=>!Nat.beq t.1 r
def dS.bad(tk:dS):List TypeId:=aZ tk.own tk.k
def J9(R:Root)(r:Nat)(tags:List Tag)(bad:List TypeId):Bool:=tags.all (λt=>!Nat.beq t.1 r)||match R.kind with
 |.par=>false
 |.var t=>!ah t bad
 |_=>true
def J6(R:Root)(r:Nat)(p:List Stp)(d:Dat)(tk:dS):Option (Root×Dat):=
 bif !d.1.flat&&p.all Stp.jo && !R.keep&&(!p.isEmpty||R.isVar)&&tk.tags.all (λt=>!Nat.beq t.1 r)then
  match uJ R p d with
  |some Rg=>match tk.own.filter (λt=>!ah t R.own&&ah t d.1.tys && !ah t Rg.k.tys)with
   | []=>none
   |l=>some ({ Rg with own:=l++R.own },mO d)
  |none=>none
 else none
def storeAt(kk:K)(r:Nat)(p:List Stp)(tk:dS)(R:Root)(d:Dat)(k:List Wr->Prog J):Prog J:=
 bif (d.1.beq kk||(d.1.beq kk.hole&&p.all Stp.jo))&&(kk.flat||J9 R r tk.tags tk.bad)&&(az p R.k).all (λt=>!ah t tk.bad)then
  match bJ p R.k R.x ⟨tk.k,tk.x⟩with
  |some z=>bif R.keep && !kk.tys.all (λt=>!ah t R.own||ah t tk.own)then .fail else
   k (tk.ws++[.r r (some { R with
    keep:=R.keep||tk.keep
    k:=z.1,x:=z.2
    own:=dV R.own tk.bad
    tags:=bif kk.flat then R.tags else jS (qd r tk.tags) R.tags
    w:=fU R p :: R.w
    h:=(bif d.1.beq kk then []else qJ kk)++kk.tys++R.h })])
  |none=>.fail
 else .fail
def QF(T:bF)(t:TypeId)(a v:AV)(k:List Wr->Prog J):Prog J:=
 match T.ty t,a with
 |some kk,.ptr r p h=>qp kk v λtk=>bif tk.k.beq kk&&tk.ws.all (λw=>!w.loc.beq (.r r))then
   g_ r λR=>bif clean R.h h (iD p R.k)&&BS p R&&wX tk.ws R.tags then
    match aA p R.k R.x with
    |some d=>match J6 R r p d tk with
     |some q=>qb q.1.tags q.1.oO (storeAt kk r p tk q.1 q.2 k)
     |none=>storeAt kk r p tk R d k
    |none=>.fail
   else .fail
  else .fail
 |_,_=>.fail
def DC(kk:K)(a:AV)(n:Nat)(k:AV->Prog J):Prog J:=match a with
 |.val (.st c) x tags=>bif (K.st c).beq kk then match aM n c x with
  |some d=>qb tags c.tys (k (.val d.1 d.2 (bif d.1.flat then []else tags)))
  |none=>.fail
  else .fail
 |.ref r g=>g_ r λR=>bif Nat.beq R.g g&&R.k.beq kk then
   match aA [.aP n] R.k R.x with
   |some d=>bif d.1.flat then k (.val d.1 d.2 [])else k (.dJ r [.aP n] R.dF)
   |none=>.fail
  else .fail
 |.dJ r p h=>g_ r λR=>bif Nat.beq R.dF h then
   match aA p R.k R.x,aA (p++[.aP n]) R.k R.x with
   |some d0,some d=>bif !d0.1.beq kk then .fail else bif d.1.flat then k (.val d.1 d.2 [])else k (.dJ r (p++[.aP n]) R.dF)
   |_,_=>.fail
  else .fail
 |_=>.fail
def Iu(kk:K)(n:Nat):Bool:=match kk with
 |.st c=>(az.jQ n c).isSome
 |_=>false
def BH:List Stp->K->Option K
 | [],k=>some k
 |.aP n :: p,.st c=>match az.jQ n c with
  |some k=>BH p k
  |none=>none
 |_,_=>none
def Ia(a:AV)(kk:K)(yes:Nat->Nat->Prog J)(no:Prog J):Prog J:=match a with
 |.ref r g=>.root r fun
  |some R=>bif R.fixed then(g_ r λR=>bif Nat.beq R.g g&&R.k.beq kk then yes r g else .fail)else no
  |none=>no
 |_=>no
def Dz(kk:K)(a:AV)(n:Nat)(k:AV->Prog J):Prog J:=match a with
 |.ptr r p h=>.root r fun
  |some R=>match aA p R.k R.x with
   |some d=>bif d.1.like kk&&Iu kk n then k (.ptr r (p++[.aP n]) h)else .fail
   |none=>.fail
  |none=>.fail
 |.eY bt (.st c) x tags=>bif (K.st c).beq kk then match aM n c x with
  |some d=>qb tags (bt :: c.tys) (k (.eY bt d.1 d.2 tags))
  |none=>.fail
  else .fail
 |.ko r g k0 p=>match BH p k0 with
  |some k1=>bif k1.beq kk&&Iu kk n then k (.ko r g k0 (p++[.aP n]))else .fail
  |none=>.fail
 |_=>.fail
def aX(i:Int)(n:Nat):Prop:=0<=i/\i<(n:Int)
instance (i:Int)(n:Nat):Decidable (aX i n):=inferInstanceAs (Decidable (_/\_))
def Eh(k0:K)(a:AV)(i:Int)(k:AV->Prog J):Prog J:=match a with
 |.val (.sl e kk) xs tags=>bif (K.sl e kk).beq k0 then qb tags (e :: kk.tys) (.dO (aX i (show List (El kk)from xs).length) inferInstance
   (k (.eY e kk ((show List (El kk)from xs).getD i.toNat kk.zero) tags)))else .fail
 |.ref r g=>g_ r λR=>bif Nat.beq R.g g then
   match R.k,R.x with
   |.sl e kk,xs=>bif ah e R.own&&(K.sl e kk).beq k0 then .dO (aX i (show List (El kk)from xs).length) inferInstance (k (.ptr r [.idx i] (dz R.h)))else .fail
   |_,_=>.fail
  else .fail
 |.dJ r p h=>g_ r λR=>bif Nat.beq R.dF h then
   match aA p R.k R.x with
   |some ⟨.sl e kk,xs⟩=>bif !(K.sl e kk).beq k0 then .fail else bif ah e R.own then .dO (aX i (show List (El kk)from xs).length) inferInstance (k (.ptr r (p++[.idx i]) (dz R.h)))
     else .dO (aX i (show List (El kk)from xs).length) inferInstance (k (.eY e kk ((show List (El kk)from xs).getD i.toNat kk.zero) (R.out r (.sl e kk))))
   |_=>.fail
  else .fail
 |_=>.fail
structure uU where
 k:K
 x:El k
 bad:List TypeId
 tags:List Tag
 ws:List Wr
 keep:Bool
 all:List Tag
def dS.gV(tk:dS):List Tag:=match tk.bad with
 | []=>[]
 |_=>tk.tags
def yO:List (Nat×AV)->uU->(uU->Prog J)->Prog J
 | [],b,k=>k b
 |(n,a) :: l,b,k=>match b.k,b.x with
  |.st c,x=>match aM n c x with
   |some d=>qp d.1 a λtk=>bif tk.k.beq d.1 then
     match dh n c x ⟨tk.k,tk.x⟩with
     |some z=>yO l { k:=.st z.1,x:=z.2,bad:=tk.bad++b.bad,tags:=jS (tk.gV) b.tags,ws:=b.ws++tk.ws,keep:=tk.keep||b.keep,all:=tk.tags++b.all } k
     |none=>.fail
    else .fail
   |none=>.fail
  |_,_=>.fail
def uI:List (Nat×Operand)->(List (Nat×AV)->Prog J)->Prog J
 | [],k=>k []
 |(n,x) :: l,k=>dP x λa=>uI l λr=>k ((n,a) :: r)
def nu:List Operand->(List AV->Prog J)->Prog J
 | [],k=>k []
 |x :: l,k=>dP x λa=>nu l λr=>k (a :: r)
structure oU(kk:K) where
 xs:List (El kk)
 bad:List TypeId
 tags:List Tag
 ws:List Wr
 keep:Bool
 all:List Tag
def Du(kk:K):List (Nat×AV)->oU kk->(oU kk->Prog J)->Prog J
 | [],b,k=>k b
 |(n,a) :: l,b,k=>qp kk a λtk=>match bR tk.k kk tk.x with
  |some y=>bif Nat.beq n (dz b.xs)then Du kk l { xs:=b.xs++[y],bad:=tk.bad++b.bad,tags:=jS (tk.gV) b.tags,ws:=b.ws++tk.ws,keep:=tk.keep||b.keep,all:=tk.tags++b.all } k else .fail
  |none=>.fail
def FN(e:TypeId)(kk:K)(a:AV)(k:oU kk->Prog J):Prog J:=match a with
 |.val .str s _=>match bR (.int .u8) kk (0:Int)with
  |some _=>match bR (.sl e (.int .u8)) (.sl e kk) (show List Int from s)with
   |some xs=>k ⟨xs,[],[],[],false,[]⟩
   |none=>.fail
  |none=>.fail
 |.eH=>k ⟨[],[],[],[],false,[]⟩
 |.ref r g=>g_ r λR=>bif Nat.beq R.g g then
   match bR R.k (.sl e kk) R.x with
   |some xs=>bif kk.flat then k ⟨xs,[],[],[],false,[]⟩else bif R.fixed then .fail else k ⟨xs,bif ah e R.own then aZ R.own kk else kk.tys,bif ah e R.own&&kk.tys.all (λt=>ah t R.own)then []else R.tags,[.r r none],R.keep,R.tags⟩
   |none=>.fail
  else .fail
 |a=>oD a λk' x tags=>match bR k' (.sl e kk) x with
   |some xs=>k ⟨xs,kk.tys,bif kk.flat then []else tags,[],false,[]⟩
   |none=>.fail
def AA(T:bF)(d:Nat)(t:TypeId)(a b:AV)(k:List Wr->Prog J):Prog J:=
 match T.ty t with
 |some (.sl e kk)=>FN e kk b λs=>bif ah e s.bad then .fail else match a with
  |.eH=>.dO (s.xs.length*T.bytes e<=140737488355328) inferInstance (jD (aG d 0)
    (k (s.ws++[.r (aG d 0) (some (bL (.sl e kk) s.xs (e :: dV kk.tys s.bad) s.tags .anon s.keep)),.s d (.one (.ref (aG d 0) 0))])))
  |.ref r g=>g_ r λR=>bif Nat.beq R.g g && !R.fixed&&ah e R.own && !(R.keep && !kk.tys.all (λt=>!ah t R.own || !ah t s.bad))&&s.ws.all (λw=>!w.loc.beq (.r r))&&wX s.ws R.tags then
    match bR R.k (.sl e kk) R.x with
    |some xs=>.dO (((show List (El kk)from xs).length+s.xs.length)*T.bytes e<=140737488355328) inferInstance
      (k (s.ws++[.r r (some { R with
        k:=.sl e kk,x:=(show List (El kk)from xs)++s.xs
        own:=dV R.own s.bad
        tags:=jS (qd r s.tags) R.tags
        w:=e :: R.w,h:=iZ :: e :: R.h,g:=R.g+1,keep:=R.keep||s.keep }),.s d (.one (.ref r (R.g+1)))]))
    |none=>.fail
   else .fail
  |.dJ r p h=>g_ r λR=>bif Nat.beq R.dF h&&p.all Stp.jo&&(!p.isEmpty||R.isVar) && !R.fixed&&ah e R.own && !(R.keep && !kk.tys.all (λt=>!ah t R.own || !ah t s.bad))&&s.ws.all (λw=>!w.loc.beq (.r r))&&wX s.ws R.tags then
    match aA p R.k R.x with
    |some dd=>match bR dd.1 (.sl e kk) dd.2,uJ R p dd with
     |some xs,some R'=>.dO (((show List (El kk)from xs).length+s.xs.length)*T.bytes e<=140737488355328) inferInstance (jD (aG d 0)
       (k (s.ws++[.r r (some R'),.r (aG d 0) (some (bL (.sl e kk) ((show List (El kk)from xs)++s.xs)
          (dV ((e :: kk.tys).filter λt=>ah t R.own) s.bad) (jS s.tags R.tags) .anon (R.keep||s.keep))),.s d (.one (.ref (aG d 0) 0))])))
     |_,_=>.fail
    |none=>.fail
   else .fail
  |_=>.fail
 |_=>.fail
def ownRow(r g:Nat)(k:Root->(e:TypeId)->(kk:K)->List (El kk)->Prog J):Prog J:=g_ r λR=>bif Nat.beq R.g g then match R.k,R.x with
  |.sl e kk,xs=>bif kk.flat&&ah e R.own then k R e kk (show List (El kk)from xs)else .fail
  |_,_=>.fail
 else .fail
def aaA(k0:K)(r:Nat)(p:List Stp)(n:Nat)(lo hi:Option Int)(k:AV->Prog J):Prog J:=match k0 with
 |.sl e kk=>g_ r λR=>bif Nat.beq R.dF n then match aA p R.k R.x with
   |some dd=>match bR dd.1 (.sl e kk) dd.2 with
    |some xs=>.dO (0<=lo.getD 0/\lo.getD 0<=hi.getD ((show List (El kk)from xs).length:Int)/\hi.getD ((show List (El kk)from xs).length:Int)<=((show List (El kk)from xs).length:Int)) inferInstance
      (k (.sub r p n (lo.getD 0).toNat (hi.getD ((show List (El kk)from xs).length:Int)).toNat kk.size))
    |none=>.fail
   |none=>.fail
  else .fail
 |_=>.fail
def Fx(k0:K)(a:AV)(lo hi mx:Option Int)(k:AV->Prog J):Prog J:=match a with
 |.ref r g=>ownRow r g λ_ e kk xs=>bif (K.sl e kk).beq k0 then
   match mx with
   |none=>.dO (0<=lo.getD 0/\lo.getD 0<=hi.getD (xs.length:Int)/\hi.getD (xs.length:Int)<=(xs.length:Int)) inferInstance (k (.part r g (lo.getD 0).toNat (hi.getD (xs.length:Int)).toNat kk.size))
   |some m=>bif hi.isSome then .dO (0<=lo.getD 0/\lo.getD 0<=hi.getD 0/\hi.getD 0<=m/\m<=(xs.length:Int)) inferInstance (k .undef)else .fail
  else .fail
 |.part r g l0 h0 sz=>ownRow r g λ_ e kk xs=>bif (K.sl e kk).beq k0&&Nat.beq kk.size sz&&mx.isNone then
   .dO (0<=lo.getD 0/\lo.getD 0<=hi.getD ((h0-l0:Nat):Int)/\(l0:Int)+hi.getD ((h0-l0:Nat):Int)<=(xs.length:Int)) inferInstance
    (k (.part r g (l0+(lo.getD 0).toNat) (l0+(hi.getD ((h0-l0:Nat):Int)).toNat) sz))
  else .fail
 |.dJ r p n=>bif mx.isNone then aaA k0 r p n lo hi k else .fail
 |_=>.fail
def Mo(k0:K)(a:AV)(k:List Wr->Prog J):Prog J:=match a with
 |.part r g lo hi sz=>ownRow r g λR e kk xs=>bif (K.sl e kk).beq k0&&Nat.beq kk.size sz then
   k [.r r (some { R with k:=.sl e kk,x:=xs.take lo++List.replicate (hi-lo) kk.zero++xs.drop hi,w:=e :: R.w })]
  else .fail
 |_=>.fail
def Mq(k0:K)(d:Nat)(a b:AV)(k:List Wr->Prog J):Prog J:=match a,b with
 |.part r g l0 h0 sz,.part r' g' l1 h1 sz'=>ownRow r g λR e kk xs=>bif (K.sl e kk).beq k0&&Nat.beq r r'&&Nat.beq g g'&&Nat.beq sz sz'&&Nat.beq l0 0&&Nat.beq kk.size sz then
   .dO (h0<=l1) inferInstance (k [.r r (some { R with k:=.sl e kk,x:=xs.take h0++(xs.take h1).drop l1++xs.drop (h0+(h1-l1)),w:=e :: R.w }),.s d (.one (.part r g 0 (h0+(h1-l1)) sz))])
  else .fail
 |_,_=>.fail
def Mv(k0:K)(d:Nat)(a b:AV)(k:List Wr->Prog J):Prog J:=match a with
 |.ref r g=>ownRow r g λR e kk xs=>bif (K.sl e kk).beq k0 then FN e kk b λs=>
   .dO (s.xs.length<=xs.length) inferInstance (k [.r r (some { R with k:=.sl e kk,x:=s.xs++xs.drop s.xs.length,w:=e :: R.w }),.s d (.one (.val (.int .i64) (s.xs.length:Int) []))])
  else .fail
 |_=>.fail
abbrev wY(e:TypeId)(kk:K):K:=.st (.pair kk (.pair (.sl e (.gap kk.size)) .unit))
def xE:List Stp->List Int
 | []=>[]
 |.aP _ :: p=>xE p
 |.idx i :: p=>i :: xE p
def nD:List Stp->List Stp->Bool
 | [],[]=>true
 |.aP n :: p,.aP m :: q=>Nat.beq n m&&nD p q
 |.idx _ :: p,.idx _ :: q=>nD p q
 |_,_=>false
def LK(T:bF)(d:Nat)(t:TypeId)(a b:AV)(k:List Wr->Prog J):Prog J:=match T.ty t,a,b with
 |some (.sl e kk),.dJ r p h,.ref rb gb=>g_ rb λB=>bif Nat.beq B.g gb && !B.fixed && !Nat.beq r rb&&p.all Stp.jo && !ah iZ (K.sl e kk).tys&&(K.sl e kk).tys.all (λt=>ah t B.own)then
   match bR B.k (.sl e kk) B.x with
   |some ys=>g_ r λR=>bif Nat.beq R.dF h && !R.fixed&&(K.sl e kk).tys.all (λt=>ah t R.own)&&R.tags.all (λt=>!Nat.beq t.1 rb)then
     match aA p R.k R.x with
     |some dd=>match bR dd.1 (.sl e kk) dd.2 with
      |some xs=>match bJ p R.k R.x dd with
       |some z=>.dO ((show List (El kk)from ys).length=1/\((show List (El kk)from xs).length+1)*T.bytes e<=140737488355328) inferInstance (jD (aG d 0)
         (k [.r rb none,.r r (some { R with k:=z.1,x:=z.2,w:=e :: R.w,h:=(K.sl e kk).tys++R.h }),.r (aG d 0) (some (bL (wY e kk) ((show List (El kk)from ys).getD 0 kk.zero,(([]:List Unit),())) (e :: kk.tys) [] .anon)),
          .s d (.one (.app r p (dz (e :: R.w)+dz ((K.sl e kk).tys++R.h)) (aG d 0)))]))
       |none=>.fail
      |none=>.fail
     |none=>.fail
    else .fail
   |none=>.fail
  else .fail
 |_,_,_=>.fail
def LM(k0:K)(a:AV)(r:Nat)(p:List Stp)(n q:Nat)(k:List Wr->Prog J):Prog J:=match k0,a with
 |.sl e kk,.ptr r' p' h=>bif Nat.beq r r'&&nD p p'&&p.all Stp.jo && !Nat.beq r q then g_ q λQ=>bif Nat.beq Q.dF 0&&(e :: kk.tys).all (λt=>ah t Q.own)then
    match bR Q.k (wY e kk) Q.x with
    |some y=>g_ r λR=>bif Nat.beq R.dF n && !R.fixed&&clean R.h h (iD p' R.k)&&(K.sl e kk).tys.all (λt=>ah t R.own)&&R.tags.all (λt=>!Nat.beq t.1 q)then
      match aA p R.k R.x with
      |some dd=>match bR dd.1 (.sl e kk) dd.2 with
       |some xs=>match bJ p R.k R.x ⟨.sl e kk,(show List (El kk)from xs)++[(show El kk from y.1)]⟩with
        |some z=>k [.r q none,.r r (some { R with k:=z.1,x:=z.2,w:=fU R p :: e :: R.w,h:=(K.sl e kk).tys++R.h })]
        |none=>.fail
       |none=>.fail
      |none=>.fail
     else .fail
    |none=>.fail
   else .fail
  else .fail
 |_,_=>.fail
def MF(k0:K)(a:AV)(r:Nat)(p:List Stp)(n m:Nat)(k:List Wr->Prog J):Prog J:=match k0,a with
 |.sl e kk,.ptr r' p' h=>bif Nat.beq r r'&&nD p p' then .dO (xE p=xE p') inferInstance (g_ r λR=>bif Nat.beq R.dF n && !R.fixed&&clean R.h h (iD p' R.k)&&(K.sl e kk).tys.all (λt=>ah t R.own)then
      match aA p R.k R.x with
      |some dd=>match bR dd.1 (.sl e kk) dd.2 with
       |some xs=>match bJ p R.k R.x ⟨.sl e kk,(show List (El kk)from xs).take m⟩with
        |some z=>k [.r r (some { R with k:=z.1,x:=z.2,w:=fU R p :: (K.sl e kk).tys++R.w,h:=(K.sl e kk).tys++R.h })]
        |none=>.fail
       |none=>.fail
      |none=>.fail
     else .fail)
  else .fail
 |_,_=>.fail
def Qs(T:bF)(d:Nat)(t:TypeId)(a:AV)(r:Nat)(p:List Stp)(n lo hi sz:Nat)(k:List Wr->Prog J):Prog J:=match T.ty t with
 |some (.sl e kk)=>g_ r λR=>bif Nat.beq kk.size sz&&Nat.beq R.dF n&&p.all Stp.jo&&(K.sl e kk).tys.all (λt=>ah t R.own)then
   match aA p R.k R.x with
   |some dd=>match bR dd.1 (.sl e kk) dd.2 with
    |some xs=>match a with
     |.ref q g=>g_ q λQ=>bif Nat.beq Q.g g && !Q.fixed && !Nat.beq r q&&ah e Q.own then match bR Q.k (.sl e kk) Q.x with
       |some ys=>.dO ((show List (El kk)from ys).length=0/\lo=0/\hi*T.bytes e<=140737488355328) inferInstance (jD (aG d 0)
         (k [.r q none,.r (aG d 0) (some (bL (.sl e (.gap kk.size)) (List.replicate hi ()) [e] [] .anon)),.s d (.one (.sel r p n (aG d 0) hi (show List (El kk)from xs).length))]))
       |none=>.fail
      else .fail
     |.sel r' p' n' q a' b'=>g_ q λQ=>bif Nat.beq r r'&&Nat.beq n n'&&nD p p'&&Nat.beq Q.dF 0 && !Q.fixed && !Nat.beq r q&&ah e Q.own then match bR Q.k (.sl e (.gap kk.size)) Q.x with
       |some _=>.dO (a'<=lo/\lo<=hi/\hi=(show List (El kk)from xs).length/\b'=(show List (El kk)from xs).length/\(a'+(hi-lo))*T.bytes e<=140737488355328) inferInstance (jD (aG d 0)
         (k [.r q none,.r (aG d 0) (some (bL (.sl e (.gap kk.size)) (List.replicate (a'+(hi-lo)) ()) [e] [] .anon)),.s d (.one (.sel r p n (aG d 0) a' lo))]))
       |none=>.fail
      else .fail
     |_=>.fail
    |none=>.fail
   |none=>.fail
  else .fail
 |_=>.fail
def Qt(k0:K)(a:AV)(r:Nat)(p:List Stp)(n q a' b':Nat)(k:List Wr->Prog J):Prog J:=match k0,a with
 |.sl e kk,.ptr r' p' h=>bif Nat.beq r r'&&nD p p'&&p.all Stp.jo && !Nat.beq r q then g_ q λQ=>bif Nat.beq Q.dF 0&&ah e Q.own then
    match bR Q.k (.sl e (.gap kk.size)) Q.x with
    |some _=>g_ r λR=>bif Nat.beq R.dF n && !R.fixed&&clean R.h h (iD p' R.k)&&(K.sl e kk).tys.all (λt=>ah t R.own)&&R.tags.all (λt=>!Nat.beq t.1 q)then
      match aA p R.k R.x with
      |some dd=>match bR dd.1 (.sl e kk) dd.2 with
       |some xs=>match bJ p R.k R.x ⟨.sl e kk,(show List (El kk)from xs).take a'++(show List (El kk)from xs).drop b'⟩with
        |some z=>k [.r q none,.r r (some { R with k:=z.1,x:=z.2,w:=fU R p :: (K.sl e kk).tys++R.w,h:=(K.sl e kk).tys++R.h })]
        |none=>.fail
       |none=>.fail
      |none=>.fail
     else .fail
    |none=>.fail
   else .fail
  else .fail
 |_,_=>.fail
end
end
section
open Go
def Cont.fst:(ks ls:List K)->Cont (ks++ls)->Cont ks
 | [],_,_=>()
 |_ :: ks,ls,c=>(c.1,Cont.fst ks ls c.2)
def Cont.snd:(ks ls:List K)->Cont (ks++ls)->Cont ls
 | [],_,c=>c
 |_ :: ks,ls,c=>Cont.snd ks ls c.2
abbrev SENT:Nat:=4294967295
structure aQ where
 ids:List Tag
 wb:Option (Nat×List Stp×List TypeId×List TypeId)
 ws:List Wr
 bt:List TypeId:=[]
 lie:Option (Nat×List Stp):=none
def idxOf:(p:List (Option Nat))->List Stp->Option (Cont (aH.into 0 p).kin)
 | [],[]=>some ()
 |some n :: p,.aP m :: q=>bif Nat.beq n m then idxOf p q else none
 |none :: p,.idx i :: q=>match idxOf p q with
  |some c=>some (i,c)
  |none=>none
 |_,_=>none
def pathOf:(p:List (Option Nat))->Cont (aH.into 0 p).kin->List Stp
 | [],_=>[]
 |some n :: p,c=>.aP n :: pathOf p c
 |none :: p,c=>.idx c.1 :: pathOf p c.2
def ql:(p:List (Option Nat))->Int->List Stp
 | [],_=>[]
 |some n :: p,m=>.aP n :: ql p m
 |none :: p,m=>.idx m :: ql p m
def l9:(p:List (Option Nat))->List Stp->Option (Option Int)
 | [],[]=>some none
 |some n :: p,.aP m :: q=>bif Nat.beq n m then l9 p q else none
 |none :: p,.idx i :: q=>match l9 p q with
  |some none=>some (some i)
  |_=>none
 |_,_=>none
section
variable {J:Type}
def tN(k:K)(own ow:List TypeId):Bool:=k.tys.all λt=>ah t own==ah t ow
def H7:(ks:List K)->List (TypeId×Dat×List Tag)->(Cont ks->List Tag->Prog J)->Prog J
 | [],[],k=>k () []
 |kk :: ks,(t,d,tags) :: l,k=>qb tags (t :: d.1.tys) (match bR d.1 kk d.2 with
  |some x=>H7 ks l λc ts=>k (x,c) (jS tags ts)
  |none=>.fail)
 |_,_,_=>.fail
def lW:(ps:List aH)->List AV->(Cont (kin ps)->List aQ->Prog J)->Prog J
 | [],[],k=>k () []
 |.val kk _ :: ps,a :: l,k=>
  let go (x:El kk) (tags:List Tag):Prog J:=lW ps l λc is=>k (x,c) (⟨tags,none,[],[],none⟩ :: is)
  match a with
  |.eH=>match kk,go with
   |.sl _ _,go=>go [] []
   |_,_=>.fail
  |a=>oD a λk' x tags=>match bR k' kk x with
   |some y=>go y (bif kk.flat then []else tags)
   |none=>.fail
 |.ro kk :: ps,a :: l,k=>
  let go (d:Dat) (tags:List Tag):Prog J:=match bR d.1 kk d.2 with
   |some y=>lW ps l λc is=>k (y,c) (⟨tags,none,[],[],none⟩ :: is)
   |none=>.fail
  addrOf a (λR r _ d=>go d ((r,dz R.w) :: R.tags)) (λ_ d tags=>go d tags)
 |.rw kk ow wt ht :: ps,a :: l,k=>match a with
  |.ptr r p h=>g_ r λR=>bif clean R.h h (iD p R.k)&&BS p R then
    match aA p R.k R.x with
    |some d=>match bR d.1 kk d.2 with
     |some y=>bif tN kk R.own ow then lW ps l λc is=>k (y,c) (⟨R.tags,some (r,p,wt,ht),[],[fU R p],none⟩ :: is)else .fail
     |none=>.fail
    |none=>.fail
   else .fail
  |_=>.fail
 |.dH kk ow wt :: ps,a :: l,k=>
  let go (R:Root) (r:Nat) (p:List Stp) (d:Dat):Prog J:=match bR d.1 kk d.2 with
   |some y=>bif tN kk R.own ow then lW ps l λc is=>k (y,c) (⟨R.tags,some (r,p,wt,kk.tys),[],[],none⟩ :: is)else .fail
   |none=>.fail
  match a with
  |.dJ r p h=>g_ r λR=>bif Nat.beq R.dF h then
    match aA p R.k R.x with
    |some d=>go R r p d
    |none=>.fail
   else .fail
  |.ref r g=>g_ r λR=>bif Nat.beq R.g g then go R r [] ⟨R.k,R.x⟩else .fail
  |_=>.fail
 |.own kk ow :: ps,a :: l,k=>qp kk a λtk=>match bR tk.k kk tk.x with
  |some y=>bif tN kk tk.own ow then lW ps l λc is=>k (y,c) (⟨tk.tags,none,tk.ws,[],none⟩ :: is)else .fail
  |none=>.fail
 |.fn f ks :: ps,a :: l,k=>match a with
  |.fn f' caps=>bif Nat.beq f f' then H7 ks caps λc tags=>lW ps l λc' is=>k (Cont.app ks (kin ps) c c') (⟨tags,none,[],[],none⟩ :: is)else .fail
  |_=>.fail
 |.into _ [] :: ps,a :: l,k=>match a with
  |.eH=>lW ps l λc is=>k c (⟨[],none,[],[],none⟩ :: is)
  |_=>.fail
 |.into _ (t :: p) :: ps,a :: l,k=>match a with
  |.ptr r q h=>g_ r λR=>bif clean R.h h (iD q R.k)&&BS q R&&(aA q R.k R.x).isSome then
    match idxOf (t :: p) (q.drop (q.length-(t :: p).length))with
    |some c=>lW ps l λc' is=>k (Cont.app (aH.into 0 (t :: p)).kin (kin ps) c c') (⟨[],none,[],[],some (r,q)⟩ :: is)
    |none=>.fail
   else .fail
  |_=>.fail
 |_,_,_=>.fail
def aQ.touched(i:aQ):List Nat:=(match i.wb with|some (r,_)=>[r] | none=>[])++i.ws.flatMap Wr.dR
def tK:List aQ->Bool
 | []=>true
 |i :: l=>match i.wb with
  |some _=>l.all λj=>j.wb.isNone
  |none=>tK l
def QY(is:List aQ):Bool:=is.all λi=>match i.wb with
 |some (_,p,_)=>p.isEmpty
 |none=>true
def Fq:aH->Bool
 |.dH _ _ _=>false
 |_=>true
def JP:eF->Bool
 |.into _ _=>false
 |_=>true
def fB(r:Nat):List aQ->Nat->Option Nat
 | [],_=>none
 |i :: is,n=>match i.wb with
  |some (r',_)=>bif Nat.beq r r' then some n else fB r is (n+1)
  |none=>fB r is (n+1)
def xZ(is:List aQ):List aH->List aQ->Bool
 |.val k bB :: ps,i :: l=>(bB.all λj=>match is[j]? with|some q=>q.wb.isSome|none=>false)&&i.ids.all (λt=>match fB t.1 is 0 with
   |some n=>ah n bB&&(match is[n]? with
     |some j=>j.bt.all λb=>!ah b k.tys
     |none=>false)
   |none=>!ah t.1 (is.flatMap λj=>j.ws.flatMap Wr.dR))&&xZ is ps l
 |_ :: ps,i :: l=>i.ids.all (λt=>!ah t.1 (is.flatMap aQ.touched))&&xZ is ps l
 | [],[]=>true
 |_,_=>false
def YQ(uP:List aH)(all:List aQ)(j:Nat)(p:List (Option Nat))(i:aQ):Bool:=match i.lie with
 |none=>true
 |some (r,q)=>match uP[j]?,all[j]? with
  |some (.rw _ _ _ _),some b=>match b.wb with
   |some (r',q',_,_)=>Nat.beq r r'&&Nat.beq q.length (q'.length+p.length)&&nD q' (q.take q'.length)&&q'.all Stp.jo
   |none=>false
  |_,_=>false
def zH(uP:List aH)(all:List aQ):List aH->List aQ->Bool
 |.into j p :: ps,i :: l=>YQ uP all j p i&&zH uP all ps l
 |_ :: ps,_ :: l=>zH uP all ps l
 |_,_=>true
def yN(gp:Bool):(ps:List aH)->List aQ->Cont (gF ps)->(List Wr->Prog J)->Prog J
 | [],[],_,k=>k []
 |.rw kk _ _ _ :: ps,⟨_,some (r,p,wt,ht),_,_,_⟩ :: is,c,k=>.root r fun
  |some R=>match bJ p R.k R.x ⟨kk,c.1⟩with
   |some z=>yN gp ps is c.2 λws=>k (.r r (some { R with k:=z.1,x:=z.2,w:=(fU R p :: wt)++R.w,h:=(bif gp then kk.tys else [])++(ht++R.h) }) :: ws)
   |none=>.fail
  |none=>.fail
 |.dH kk _ _ :: ps,⟨_,some (r,p,wt,ht),_,_,_⟩ :: is,c,k=>.root r fun
  |some R=>match bJ p R.k R.x ⟨kk,c.1⟩with
   |some z=>yN gp ps is c.2 λws=>k (.r r (some { R with k:=z.1,x:=z.2,w:=(SENT :: (kk.tys++wt))++R.w,h:=(bif gp then kk.tys else [])++(ht++R.h) }) :: ws)
   |none=>.fail
  |none=>.fail
 |.val _ _ :: ps,_ :: is,c,k | .ro _ :: ps,_ :: is,c,k | .own _ _ :: ps,_ :: is,c,k | .fn _ _ :: ps,_ :: is,c,k | .into _ _ :: ps,_ :: is,c,k=>yN gp ps is c k
 |_,_,_,_=>.fail
def xM(ws:List Wr):List Nat->(List Tag->Prog J)->Prog J
 | [],k=>k []
 |r :: l,k=>bif fO r then xM ws l λts=>k ((r,0) :: ts)else
  match ws.find? (λw=>w.loc.beq (.r r))with
  |some (.r _ (some R))=>xM ws l λts=>k ((r,dz R.w) :: ts)
  |some _=>.fail
  |none=>.root r fun
   |some R=>xM ws l λts=>k ((r,dz R.w) :: ts)
   |none=>.fail
def vV(is:List aQ)(exts bB:List Nat):List Nat:=
 exts.flatMap (λj=>match is[j]? with|some i=>i.ids.map (·.1)|none=>[])++
 bB.flatMap (λj=>match is[j]? with
  |some i=>match i.wb with
   |some q=>[q.1]
   |none=>[]
  |none=>[])
def uF:List Nat->List Nat
 | []=>[]
 |n :: l=>bif ah n l then uF l else n :: uF l
def wz(d:Nat)(is:List aQ)(ws:List Wr):(rs:List eF)->(c:Nat)->Cont (iq rs)->(List AV->List Wr->Prog J)->Prog J
 | [],_,_,k=>k [] []
 |.val kk exts bB :: rs,c,x,k=>xM ws (bif kk.flat then []else uF (vV is exts bB)) λtags=>
   wz d is ws rs (c+1) x.2 λas ws'=>k (.val kk x.1 tags :: as) ws'
 |.own kk ow exts bB :: rs,c,x,k=>xM ws (bif kk.tys.all (λt=>ah t ow)then []else uF (vV is exts bB)) λtags=>
   jD (aG d c) (wz d is ws rs (c+1) x.2 λas ws'=>k (.ref (aG d c) 0 :: as) (.r (aG d c) (some (bL kk x.1 ow tags .anon)) :: ws'))
 |.ptr t kk ow exts :: rs,c,x,k=>xM ws (bif kk.tys.all (λt=>ah t ow)then []else uF (vV is exts [])) λtags=>
   jD (aG d c) (wz d is ws rs (c+1) x.2 λas ws'=>k (.ptr (aG d c) [] 0 :: as) (.r (aG d c) (some (bL kk x.1 ow tags (.var t))) :: ws'))
 |.into j p :: rs,c,x,k=>bif Nat.beq c 0&&rs.isEmpty then match is[j]? with
   |some i=>match i.wb with
    |some (r,q,_,ht)=>match ws.find? (λw=>w.loc.beq (.r r))with
     |some (.r _ (some R))=>bif ah iZ ht then .fail else match p with
      | []=>k [.lH r q (dz R.w+dz R.h) (show Int from x.1).toNat] []
      |t :: p=>.br (decide ((show Int from x.1)<0)) (k [.iI] []) (k [.ptr r (q++ql (t :: p) (show Int from x.1)) (dz R.h)] [])
     |_=>.fail
    |none=>.fail
   |none=>.fail
  else .fail
def LQ:List AV->fQ
 | [a]=>.one a
 |l=>.mg l
def Mi(n:Nat)(E:Entry)(dst:Option Nat)(lT:List AV)(k:List Wr->Prog J):Prog J:=
 lW E.ps lT λc is=>bif Ay (is.flatMap aQ.touched)&&(tK is||(QY is&&E.ps.all Fq&&E.rs.all JP))&&xZ is E.ps is&&zH E.ps is E.ps is then
  .opt _ (E.F n c) λout=>yN (!tK is) E.ps is (Cont.snd (iq E.rs) (gF E.ps) out) λws=>
   match dst with
   |some d=>wz d is ws E.rs 0 (Cont.fst (iq E.rs) (gF E.ps) out) λas ws'=>k (is.flatMap aQ.ws++ws++ws'++[.s d (LQ as)])
   |none=>k (is.flatMap aQ.ws++ws)
 else .fail
def xm(f d:Nat):List (Nat×Option Nat×Entry)->Option Entry
 | []=>none
 |(g,none,E) :: l=>bif Nat.beq f g then some E else xm f d l
 |(g,some e,E) :: l=>bif Nat.beq f g&&Nat.beq d e then some E else xm f d l
def BP(mx:Bool):IntKind->Int->List AV->(Int->Prog J)->Prog J
 |_,x,[],k=>k x
 |ik,x,.val (.int jk) y _ :: l,k=>bif rF ik jk then BP mx ik (if mx then(if y>x then y else x)else(if y<x then y else x)) l k else .fail
 |_,_,_,_=>.fail
def Mt(T:bF)(d:Nat)(src dst:TypeId)(a:AV)(k:List Wr->Prog J):Prog J:=match T.ty src,T.ty dst with
 |some _,some (.int ik)=>match a with
  |.val (.int _) n _=>k [.s d (v1 (.int ik) (ik.wrap n))]
  |_=>.fail
 |some .str,some .str=>match a with
  |.val .str s _=>k [.s d (v1 .str s)]
  |_=>.fail
 |some (.sl _ (.int .u8)),some .str=>match a with
  |.eH=>k [.s d (v1 .str [])]
  |a=>oD a λkk x _=>match kk,x with
   |.sl _ (.int .u8),xs=>k [.s d (v1 .str xs)]
   |_,_=>.fail
 |some .str,some (.sl e (.int .u8))=>match a with
  |.val .str s _=>jD (aG d 0) (k [.r (aG d 0) (some (bL (.sl e (.int .u8)) s [e] [] .anon)),.s d (.one (.ref (aG d 0) 0))])
  |_=>.fail
 |_,_=>.fail
def AO:List AV->(List (TypeId×Dat×List Tag)->Prog J)->Prog J
 | [],k=>k []
 |a :: l,k=>addrOf a
   (λR r p d=>bif Nat.beq (fU R p) SENT then .fail else AO l λcs=>k ((fU R p,d,(r,dz R.w) :: R.tags) :: cs))
   (λbt d tags=>AO l λcs=>k ((bt,d,tags) :: cs))
def Qz(k0:K)(a:AV)(lo hi:Option Int)(k:AV->Prog J):Prog J:=match a with
 |.val .str s _=>bif !k0.beq .str then .fail else
  let n:=(show List Int from s).length
  match lo,hi with
  |none,none=>k (.val .str s [])
  |some l,none=>.dO (0<=l/\l<=(n:Int)) inferInstance (k (.val .str ((show List Int from s).drop l.toNat) []))
  |none,some h=>.dO (0<=h/\h<=(n:Int)) inferInstance (k (.val .str ((show List Int from s).take h.toNat) []))
  |some l,some h=>.dO (0<=l/\l<=h/\h<=(n:Int)) inferInstance (k (.val .str (((show List Int from s).take h.toNat).drop l.toNat) []))
 |a=>oD a λkk x tags=>match kk,x with
  |.sl e kk,xs=>bif !k0.beq (.sl e kk)then .fail else
   let xs:=(show List (El kk)from xs)
   match lo,hi with
   |none,none=>k (.val (.sl e kk) xs tags)
   |some l,none=>.dO (0<=l/\l<=(xs.length:Int)) inferInstance (k (.val (.sl e kk) (xs.drop l.toNat) tags))
   |none,some h=>.dO (0<=h/\h<=(xs.length:Int)) inferInstance (k (.val (.sl e kk) (xs.take h.toNat) tags))
   |some l,some h=>.dO (0<=l/\l<=h/\h<=(xs.length:Int)) inferInstance (k (.val (.sl e kk) ((xs.take h.toNat).drop l.toNat) tags))
  |_,_=>.fail
def rO(x:Option Operand)(k:Option Int->Prog J):Prog J:=match x with
 |none=>k none
 |some y=>dP y λa=>asInt a λ_ i=>k (some i)
def isZero:Option Operand->Bool
 |some (.const (.int _ 0))=>true
 |_=>false
def H6(hi:Hint)(n:Nat)(dst:Option Nat)(c:Call)(k:List Wr->Prog J):Prog J:=match c.callee with
 |.value f=>dP f fun
  |.fn f caps=>nu c.args.toList λl=>match xm f (dst.getD 0) hi.calls with
   |some E=>bif Nat.beq E.f f then Mi n E dst (l++caps.map λ(t,dd,tags)=>.eY t dd.1 dd.2 tags) k else .fail
   |none=>.fail
  |_=>.fail
 |_=>.fail
def yZ(d:Nat):List (Nat×List TypeId)->List TypeId
 | []=>[]
 |(e,l) :: m=>bif Nat.beq d e then l else yZ d m
def JL(hi:Hint)(d:Nat)(k:K):List TypeId:=match yZ d hi.less with
 | []=>k.tys
 |l=>dV k.tys l
def pQ{A:Type}:Nat->List A->List (Nat×A)
 |_,[]=>[]
 |i,a :: l=>(i,a) :: pQ (i+1) l
def E5:K->List (Nat×AV)->Nat->Prog J->Prog J
 |.pair kk r,(n,a) :: l,i,p=>bif Nat.beq n i then qp kk a λtk=>bif tk.k.beq kk then E5 r l (i+1) p else .fail else .fail
 |.unit,[],_,p=>p
 |_,_,_,_=>.fail
def Md(e:TypeId)(d:Nat)(a:AV)(k:List Wr->Prog J):Prog J:=match a with
 |.ref r g=>ownRow r g λR e' kk xs=>bif (K.sl e' kk).beq (.sl e (.int .u8))then .dO (0<xs.length) inferInstance (k [.r r (some { R with k:=.sl e' kk,x:=xs,w:=e' :: R.w }),.s d (.one (.ref r g))])else .fail
 |_=>.fail
def QE(T:bF)(o:Oper)(d:Nat)(k:List Wr->Prog J):Prog J:=match o.op with
 |.slice t x lo hi mx=>match T.ty t with
  |some kk=>dP x λa=>rO lo λlo=>rO hi λhi=>rO mx λmx=>Fx kk a lo hi mx λu=>k [.s d (.one u)]
  |none=>.fail
 |.call c=>match c.callee with
  |.builtin .len=>nu c.args.toList fun
   | [.part _ _ lo hi _]=>match (c.argTypes[0]?).bind T.ty with
    |some (.sl _ _)=>k [.s d (.one (.val (.int .i64) ((hi-lo:Nat):Int) []))]
    |_=>.fail
   |_=>.fail
  |.builtin .append=>nu c.args.toList fun
   | [a,b]=>match (c.argTypes[0]?).bind T.ty,(c.argTypes[1]?).bind T.ty with
    |some (.sl e0 k0),some (.sl _ _)=>Mq (.sl e0 k0) d a b k
    |_,_=>.fail
   |_=>.fail
  |.builtin .copy=>nu c.args.toList fun
   | [a,b]=>match (c.argTypes[0]?).bind T.ty,(c.argTypes[1]?).bind T.ty with
    |some (.sl e0 k0),some (.sl _ _)=>Mv (.sl e0 k0) d a b k
    |_,_=>.fail
   |_=>.fail
  |_=>.fail
 |.build t ps=>match T.ty t with
  |some (.st c)=>uI ps.toList λl=>E5 c l 0 (k [.s d (.lit t c (l.map (·.2)))])
  |_=>.fail
 |.convert s t x=>match T.ty t with
  |some (.sl e (.int .u8))=>bif Nat.beq s t then dP x λa=>Md e d a k else .fail
  |_=>.fail
 |_=>.fail
def PW(T:bF)(s:Nat)(k:List Wr->Prog J):Prog J:=.slot s fun
 |.lit t c l=>bif (match T.ty t with|some kk=>kk.beq (.st c)|none=>false)then yO (pQ 0 l) ⟨.st c,(K.st c).zero,[],[],[],false,[]⟩ λb=>
   bif !qw b.ws b.all then .fail else jD (aG s 1) (k (b.ws++[.r (aG s 1) (some (bL b.k b.x (dV b.k.tys b.bad) b.tags .anon b.keep)),.s s (.one (.ref (aG s 1) 0))]))
  else .fail
 |_=>.fail
def Fw:List Stp->List Stp->Bool
 | [.aP i],[.aP j]=>!Nat.beq i j
 |_,_=>false
def freshen(r:Nat)(p:List Stp)(v v':Nat):AV->AV
 |.dJ q p' n=>bif Nat.beq r q&&Nat.beq n v&&Fw p p' then .dJ q p' v' else .dJ q p' n
 |a=>a
def MW(r:Nat)(p:List Stp)(v:Nat):List Wr->AV->AV
 | [.r _ (some R)]=>freshen r p v R.dF
 |_=>λa=>a
def QB(s s2:Nat)(k:List Wr->Prog J):Prog J:=.slot s fun
 |.one (.dJ r p v)=>qp .unit (.dJ r p v) λtk=>bif Nat.beq s s2||tk.ws.isEmpty then .fail else jD (aG s 1) (.slot s2 fun
  |.lit t c l=>k (tk.ws++[.r (aG s 1) (some (bL tk.k tk.x tk.own tk.gV .anon tk.keep)),.s s (.one (.ref (aG s 1) 0)),.s s2 (.lit t c (l.map (MW r p v tk.ws)))])
  |_=>.fail)
 |_=>.fail
def shares(r:Nat)(l:List AV):Bool:=l.any fun
 |.dJ q _ _=>Nat.beq r q
 |_=>false
def splits(s2:Nat):List (Nat×Operand)->Prog (List Wr)
 | []=>.ret []
 |(_,.tmp s) :: l=>.slot s fun
  |.one (.dJ r _ _)=>.slot s2 fun
   |.lit _ _ m=>bif shares r m then J_ (QB s s2 .ret) (splits s2 l)else splits s2 l
   |_=>.fail
  |_=>splits s2 l
 |_ :: l=>splits s2 l
def A7:List (Nat×Operand)->(Nat->Prog J)->Prog J
 | [],_=>.fail
 |(_,.tmp s) :: l,k=>.slot s fun
  |.lit _ _ _=>k s
  |_=>A7 l k
 |_ :: l,k=>A7 l k
def ad9(T:bF)(d:Nat)(t:TypeId)(ps:Array (Nat×Operand)):Prog (List Wr):=match T.ty t with
 |some (.st c)=>uI ps.toList λl=>yO l ⟨.st c,(K.st c).zero,[],[],[],false,[]⟩ λb=>bif !qw b.ws b.all then .fail else bif b.k.tys.all λt=>ah t b.bad then
   .ret (b.ws++[.s d (.one (.val b.k b.x b.tags))])
  else jD (aG d 0) (.ret (b.ws++[.r (aG d 0) (some (bL b.k b.x (dV b.k.tys b.bad) b.tags .anon b.keep)),.s d (.one (.ref (aG d 0) 0))]))
 |_=>.fail
def aav(T:bF)(d:Nat)(t:TypeId)(ps:Array (Nat×Operand)):Prog (List Wr):=
 A7 ps.toList λs=>J_ (splits s ps.toList) (J_ (PW T s .ret) (ad9 T d t ps))
def QD(T:bF)(o:Oper)(d:Nat)(k:List Wr->Prog J):Prog J:=match o.op with
 |.build t ps=>(aav T d t ps).bind k
 |.call c=>match c.callee with
  |.builtin .append=>nu c.args.toList fun
   | [a,b]=>match c.argTypes[0]?,(c.argTypes[1]?).bind T.ty with
    |some t,some (.sl _ _)=>match b with
     |.sub r p n lo hi sz=>Qs T d t a r p n lo hi sz k
     |b=>LK T d t a b k
    |_,_=>.fail
   |_=>.fail
  |_=>.fail
 |.load t x=>dP x λa=>vY T true t a λu=>match T.ty t with
  |some kk=>qp kk u λtk=>jD (aG d 0) (k (tk.ws++[Wr.r (aG d 0) (some (bL tk.k tk.x tk.own tk.gV .anon tk.keep)),Wr.s d (.one (.ref (aG d 0) 0))]))
  |none=>.fail
 |_=>.fail
def QG(T:bF)(t:TypeId)(a v:AV)(k:List Wr->Prog J):Prog J:=match v with
 |.lH r p n m=>match T.ty t with
  |some k0=>MF k0 a r p n m k
  |none=>.fail
 |.app r p n q=>match T.ty t with
  |some k0=>LM k0 a r p n q k
  |none=>.fail
 |.sel r p n q a' b'=>match T.ty t with
  |some k0=>Qt k0 a r p n q a' b' k
  |none=>.fail
 |v=>QF T t a v k
def aax(T:bF)(hi:Hint)(n:Nat)(o:Oper)(k:List Wr->Prog J):Prog J:=match o.op with
 |.store t x v=>dP x λa=>dP v λv=>QG T t a v k
 |.call c=>match c.callee with
  |.builtin .clear=>nu c.args.toList fun
   | [a]=>match (c.argTypes[0]?).bind T.ty with
    |some (.sl e0 k0)=>Mo (.sl e0 k0) a k
    |_=>.fail
   |_=>.fail
  |_=>H6 hi n none c k
 |_=>.fail
def aaw(T:bF)(hi:Hint)(n:Nat)(o:Oper)(d:Nat)(k:List Wr->Prog J):Prog J:=
 let put (a:AV):Prog J:=k [.s d (.one a)]
 match o.op with
 |.move x=>rz x λa=>k [.s d a]
 |.assign x=>rz x fun
  |.one .eH=>match T.ty o.type with
   |some (.sl e kk)=>.root (aG d 0) fun
    |none=>k [.r (aG d 0) (some (bL (.sl e kk) [] (e :: JL hi d kk) [] .anon)),.s d (.one (.ref (aG d 0) 0))]
    |some _=>k [.s d (.one .eH)]
   |_=>.fail
  |a=>k [.s d a]
 |.pick c a b=>dP c λc=>asBool c λc=>rz a λa=>rz b λb=>.br c (k [.s d a]) (k [.s d b])
 |.alloc t=>match T.ty t with
  |some kk=>jD (aG d 0) (k [.r (aG d 0) (some (bL kk kk.zero kk.tys [] (.var t))),.s d (.one (.ptr (aG d 0) [] 0))])
  |none=>.fail
 |.box t x=>match T.ty t with
  |some kk=>dP x λa=>Ia a kk (λr g=>put (.ko r g kk [])) <| qp kk a λtk=>bif tk.k.beq kk && !ah t tk.bad then
    jD (aG d 0) (k (tk.ws++[.r (aG d 0) (some (bL tk.k tk.x tk.own tk.gV (.var t) tk.keep)),.s d (.one (.ptr (aG d 0) [] 0))]))
   else .fail
  |none=>.fail
 |.load t x=>dP x λa=>vY T (ah d hi.ad6) t a put
 |.nilCheck x=>dP x fun
  |.ptr r p h=>put (.ptr r p h)
  |.eY bt kk y tags=>put (.eY bt kk y tags)
  |_=>.fail
 |.binOp op t x y _=>L8 T t op x y λv=>k [.s d v]
 |.unOp op _ x=>dP x λa=>QN op a λv=>k [.s d v]
 |.convert s t x=>dP x λa=>Mt T d s t a k
 |.field t x f=>match T.ty t with
  |some kk=>dP x λa=>DC kk a f put
  |none=>.fail
 |.fieldAddr t x f=>match T.ty t with
  |some kk=>dP x λa=>Dz kk a f put
  |none=>.fail
 |.indexAddr t x i=>match T.ty t with
  |some kk=>dP x λa=>dP i λi=>asInt i λ_ i=>Eh kk a i put
  |none=>.fail
 |.index t x i=>dP x λa=>dP i λi=>asInt i λ_ i=>match T.ty t,a with
  |some .str,.val .str s _=>.dO (aX i (show List Int from s).length) inferInstance (put (.val (.int .u8) ((show List Int from s).getD i.toNat 0) []))
  |_,_=>.fail
 |.extract x i=>rz x fun
  |.mg l=>match l[i]? with
   |some a=>put a
   |none=>.fail
  |_=>.fail
 |.build t ps=>match T.ty t with
  |some (.st c)=>uI ps.toList λl=>yO l ⟨.st c,(K.st c).zero,[],[],[],false,[]⟩ λb=>bif !qw b.ws b.all then .fail else bif b.k.tys.all λt=>ah t b.bad then
    k (b.ws++[.s d (.one (.val b.k b.x b.tags))])
   else jD (aG d 0) (k (b.ws++[.r (aG d 0) (some (bL b.k b.x (dV b.k.tys b.bad) b.tags .anon b.keep)),.s d (.one (.ref (aG d 0) 0))]))
  |_=>.fail
 |.buildSlice t len ps=>match T.ty t with
  |some (.sl e kk)=>uI ps.toList λl=>Du kk l ⟨[],[],[],[],false,[]⟩ λb=>bif !(qw b.ws b.all&&Nat.ble (len*kk.size) 16777216)then .fail else bif Nat.beq (dz b.xs) len && !ah e b.bad then
    jD (aG d 0) (k (b.ws++[.r (aG d 0) (some (bL (.sl e kk) b.xs (e :: dV (JL hi d kk) b.bad) b.tags .anon b.keep)),.s d (.one (.ref (aG d 0) 0))]))
   else bif Nat.beq (dz b.xs) 0 then
    jD (aG d 0) (k [.r (aG d 0) (some (bL (.sl e kk) (List.replicate len kk.zero) (e :: kk.tys) [] .anon)),.s d (.one (.ref (aG d 0) 0))])
   else .fail
  |_=>.fail
 |.makeSlice t x y=>match T.ty t with
  |some (.sl e kk)=>dP x λa=>dP y λb=>asInt a λik i=>asInt b λjk j=>bif rF ik .i64&&rF jk .i64 then
    .dO (i=j/\0<=i/\i*T.bytes e<=140737488355328) inferInstance (jD (aG d 0)
     (k [.r (aG d 0) (some (bL (.sl e kk) (List.replicate i.toNat kk.zero) (e :: kk.tys) [] .anon)),.s d (.one (.ref (aG d 0) 0))]))
   else .fail
  |_=>.fail
 |.makeFunc (.func f) first caps=>bif first.isEmpty then nu caps.toList λl=>AO l λcs=>put (.fn f cs)else .fail
 |.slice t x lo hi mx=>match T.ty t with
  |some kk=>bif isZero lo&&isZero hi&&isZero mx then match kk with
    |.sl _ _=>dP x fun
     |.eH=>put .eH
     |a=>oD a λk' _ _=>bif k'.beq kk then put .eH else .fail
    |_=>.fail
   else match mx with
    |none=>dP x λa=>rO lo λlo=>rO hi λhi=>Qz kk a lo hi put
    |some _=>.fail
  |none=>.fail
 |.call c=>match c.callee with
  |.builtin .len=>nu c.args.toList fun
   | [.eH]=>match (c.argTypes[0]?).bind T.ty with
    |some (.sl _ _)=>put (.val (.int .i64) 0 [])
    |_=>.fail
   | [.val .str s _]=>match (c.argTypes[0]?).bind T.ty with
    |some .str=>put (.val (.int .i64) ((show List Int from s).length:Int) [])
    |_=>.fail
   | [a]=>match (c.argTypes[0]?).bind T.ty with
    |some (.sl _ _)=>oD a λkk x _=>match kk,x with
     |.sl _ kk,xs=>put (.val (.int .i64) ((show List (El kk)from xs).length:Int) [])
     |_,_=>.fail
    |_=>.fail
   |_=>.fail
  |.builtin .append=>nu c.args.toList fun
   | [a,b]=>match c.argTypes[0]?,(c.argTypes[1]?).bind T.ty with
    |some t,some (.sl _ _)=>AA T d t a b k
    |some t,some .str=>AA T d t a b k
    |_,_=>.fail
   |_=>.fail
  |.builtin .min=>nu c.args.toList fun
   |.val (.int ik) x _ :: l=>BP false ik x l λz=>put (.val (.int ik) z [])
   |_=>.fail
  |.builtin .max=>nu c.args.toList fun
   |.val (.int ik) x _ :: l=>BP true ik x l λz=>put (.val (.int ik) z [])
   |_=>.fail
  |.value _=>H6 hi n (some d) c k
  |_=>.fail
 |_=>.fail
def xR(T:bF)(hi:Hint)(n:Nat)(o:Oper)(k:List Wr->Prog J):Prog J:=match o.dst with
 |some d=>bif Nat.blt d hi.nt then(bif ah d hi.parts then QE T o d k else bif ah d hi.apps then QD T o d k else aaw T hi n o d k)else .fail
 |none=>aax T hi n o k
end
variable {R:Type}
def refine(Z:St)(s:Nat)(b:Bool)(T:List Tag):St:={ Z with slots:=upd Z.slots s (.one (.val .bool b T)) }
def guardOf(ops:Array Oper)(o:Oper):Option (Option Nat×Bool):=match o.guard with
 |none=>none
 |some (g,want)=>some ((ops[g]?).bind (·.dst),want)
def guarded(Z:St)(ops:Array Oper)(o:Oper)(go:List Loc->St->Option R)(skip:List Loc->St->Option R):Option R:=match guardOf ops o with
 |none=>go [] Z
 |some (some s,want)=>match Z.slots s with
  |.one (.val .bool b T)=>if b=true then(bif want then go [.s s] (refine Z s true T)else skip [.s s] (refine Z s true T))
    else(bif want then skip [.s s] (refine Z s false T)else go [.s s] (refine Z s false T))
  |.mg []=>skip [.s s] Z
  |_=>none
 |some (none,_)=>none
def yU(hi:Hint)(o:Oper):Bool:=match o.dst with
 |some d=>Nat.blt d hi.nt
 |none=>true
def xQ(o:Oper):List Wr:=match o.dst with
 |some d=>[.s d (.mg [])]
 |none=>[]
def Dy(T:bF)(hi:Hint)(n:Nat)(ops:Array Oper):List Oper->St->(St->Option R)->Option R
 | [],Z,K=>K Z
 |o :: l,Z,K=>guarded Z ops o
   (λ_ Z=>(xR T hi n o .ret).run Z λws=>Dy T hi n ops l (aB ws Z) K)
   (λ_ Z=>bif yU hi o then Dy T hi n ops l (aB (xQ o) Z) K else none)
structure Eff where
 i:Nat
 rd:List Loc
 wr:List Loc
def BN(x:Loc):List Loc->Bool
 | []=>false
 |y :: l=>bif x.beq y then true else BN x l
def Hz(a b:List Loc):Bool:=a.all λx=>!BN x b
def binders(ops:Array Oper)(i:Nat):List Nat:=((((ops[i]?).getD default).after.toList.filter (Region.binds .any)).map (·.on))
def leads(ops:Array Oper):Nat->Nat->Nat->Bool
 |0,_,_=>false
 |f+1,j,i=>ah j (binders ops i)||(binders ops i).any λb=>Nat.blt j b&&leads ops f j b
def xg(ops:Array Oper)(e:Eff)(l:List Eff):Bool:=
 (binders ops e.i).all (λb=>Nat.blt b e.i)&&l.all λb=>ah b.i (binders ops e.i)||((Hz b.wr (e.rd++e.wr)&&Hz b.rd e.wr)||leads ops 6 b.i e.i)
def yX(T:bF)(hi:Hint)(n:Nat)(ops:Array Oper):List Oper->Nat->List Eff->St->(St->Option R)->Option R
 | [],_,_,Z,K=>K Z
 |o :: l,i,es,Z,K=>guarded Z ops o
   (λg Z=>(xR T hi n o .ret).rX Z g λws rd=>
    bif xg ops ⟨i,rd,ws.map Wr.loc⟩ es then yX T hi n ops l (i+1) (⟨i,rd,ws.map Wr.loc⟩ :: es) (aB ws Z) K else none)
   (λg Z=>bif yU hi o&&xg ops ⟨i,g,(xQ o).map Wr.loc⟩ es then yX T hi n ops l (i+1) (⟨i,g,(xQ o).map Wr.loc⟩ :: es) (aB (xQ o) Z) K else none)
inductive mX where
 |undef
 |val (k:K) (ids:List Nat)
 |eH
 |ref (r:Nat)
 |ptr (r:Nat) (p:List (Option Nat))
 |eY (bt:TypeId) (k:K) (ids:List Nat)
 |iI
 |fn (f:Nat) (caps:List (TypeId×K×List Nat))
def yQ:List (TypeId×K×List Nat)->List K
 | []=>[]
 |c :: l=>c.2.1 :: yQ l
def mX.ks:mX->List K
 |.val k _ | .eY _ k _=>[k]
 |.ptr _ p=>(aH.into 0 p).kin
 |.fn _ caps=>yQ caps
 |_=>[]
structure wT where
 k:K
 own:List TypeId
 ids:List Nat
 kind:wR
 fixed:Bool
 keep:Bool
 log:Option (K×List TypeId×List TypeId)
def cu(Z:St)(tys:List TypeId):List Tag->Bool
 | []=>true
 |(r,n) :: l=>(bif fO r then true else match Z.roots r with
  |some R=>!R.bV&&clean R.w n tys
  |none=>false)&&cu Z tys l
def kD(rs:List Nat):List Tag->List Nat
 | []=>[]
 |(r,_) :: l=>bif (fO r||ah r rs) && !ah r (kD rs l)then r :: kD rs l else kD rs l
def Qx:List Stp->List (Option Nat)
 | []=>[]
 |.aP n :: p=>some n :: Qx p
 |.idx _ :: p=>none :: Qx p
def FI(rs:List Nat):List (TypeId×Dat×List Tag)->List (TypeId×K×List Nat)
 | []=>[]
 |(t,d,tags) :: l=>(t,d.1,kD rs tags) :: FI rs l
def Dx(rs ex:List Nat):List Nat:=ex.filter λi=>fO i||ah i rs
def Qw(rs ex:List Nat):AV->mX
 |.undef=>.undef
 |.val k _ tags=>.val k (kD rs tags++Dx rs ex)
 |.eH=>.eH
 |.ref r _=>.ref r
 |.dJ _ _ _=>.undef
 |.ptr r p _=>.ptr r (Qx p)
 |.eY bt k _ tags=>.eY bt k (kD rs tags)
 |.iI=>.iI
 |.ko _ _ _ _=>.undef
 |.nG _=>.undef
 |.part _ _ _ _ _=>.undef
 |.lH _ _ _ _=>.undef
 |.sub _ _ _ _ _ _=>.undef
 |.sel _ _ _ _ _ _=>.undef
 |.app _ _ _ _=>.undef
 |.fn f caps=>.fn f (FI rs caps)
def AY(t:TypeId)(ids:List Nat):Bool:=!Nat.beq t SENT||ids.all fO
def vI(Z:St)(rs:List Nat):(cs:List (TypeId×K×List Nat))->List (TypeId×Dat×List Tag)->Option (Cont (yQ cs))
 | [],[]=>some ()
 |(t,k,ids) :: cs,(t',d,tags) :: l=>bif Nat.beq t t'&&cu Z (t :: k.tys) tags&&lZ (kD rs tags) ids&&AY t ids then
   match bR d.1 k d.2,vI Z rs cs l with
   |some x,some c=>some (x,c)
   |_,_=>none
  else none
 |_,_=>none
def qH(Z:St)(rs:List Nat):(sh:mX)->AV->Option (Cont sh.ks)
 |.undef,_=>some ()
 |.val k ids,.val k' x tags=>bif cu Z k.tys tags&&lZ (kD rs tags) ids then
   match bR k' k x with
   |some y=>some (y,())
   |none=>none
  else none
 |.eH,.eH=>some ()
 |.ref r,.ref r' g=>bif Nat.beq r r'&&ah r rs&&(match Z.roots r with|some R=>Nat.beq R.g g|none=>false)then some ()else none
 |.ptr r p,.ptr r' q h=>bif Nat.beq r r'&&ah r rs&&(match Z.roots r with|some R=>clean R.h h (iD q R.k)|none=>false)then idxOf p q else none
 |.eY bt k ids,.eY Ma k' x tags=>bif Nat.beq bt Ma&&cu Z (bt :: k.tys) tags&&lZ (kD rs tags) ids&&AY bt ids then
   match bR k' k x with
   |some y=>some (y,())
   |none=>none
  else none
 |.iI,.iI=>some ()
 |.fn f cs,.fn f' caps=>bif Nat.beq f f' then vI Z rs cs caps else none
 |_,_=>none
def Fa:(cs:List (TypeId×K×List Nat))->Cont (yQ cs)->List (TypeId×Dat×List Tag)
 | [],_=>[]
 |(t,k,ids) :: cs,c=>(t,⟨k,c.1⟩,ids.map λr=>(r,0)) :: Fa cs c.2
def E_:(sh:mX)->Cont sh.ks->AV
 |.undef,_=>.undef
 |.val k ids,c=>.val k c.1 (ids.map λr=>(r,0))
 |.eH,_=>.eH
 |.ref r,_=>.ref r 0
 |.ptr r p,c=>.ptr r (pathOf p c) 0
 |.eY bt k ids,c=>.eY bt k c.1 (ids.map λr=>(r,0))
 |.iI,_=>.iI
 |.fn f cs,c=>.fn f (Fa cs c)
def FK(wd:List (Nat×List Nat))(rs:List Nat)(Z:St):List Nat->List (Nat×mX)
 | []=>[]
 |s :: l=>(match Z.slots s with
  |.one a=>(s,Qw rs (yZ (2*s) wd) a)
  |_=>(s,.undef)) :: FK wd rs Z l
def qP:List (Nat×mX)->List K
 | []=>[]
 |(_,sh) :: l=>sh.ks++qP l
def mJ(r:Nat):List (Nat×K×List TypeId×List TypeId)->Option (K×List TypeId×List TypeId)
 | []=>none
 |(q,l) :: ls=>bif Nat.beq r q then some l else mJ r ls
def FJ(wd:List (Nat×List Nat))(eX:List (Nat×K×List TypeId×List TypeId))(rs:List Nat)(Z:St):List Nat->Option (List (Nat×wT))
 | []=>some []
 |r :: l=>match Z.roots r,FJ wd eX rs Z l with
  |some R,some q=>some ((r,⟨R.k,R.own,kD rs R.tags++(Dx rs (yZ (2*r+1) wd)).filter (λq=>!Nat.beq q r),R.kind,R.fixed,R.keep,mJ r eX⟩) :: q)
  |_,_=>none
def uL:List (Nat×wT)->List K
 | []=>[]
 |(_,sh) :: l=>sh.k :: uL l
def Dr(Z:St)(rs:List Nat):(l:List (Nat×mX))->Option (Cont (qP l))
 | []=>some ()
 |(s,sh) :: l=>match Z.slots s with
  |.one a=>match qH Z rs sh a,Dr Z rs l with
   |some c,some d=>some (Cont.app sh.ks (qP l) c d)
   |_,_=>none
  |_=>match sh with
   |.undef=>match Dr Z rs l with
    |some d=>some d
    |none=>none
   |_=>none
def Qj:wR->wR->Bool
 |.anon,.anon | .par,.par | .dead,.dead=>true
 |.var a,.var b=>Nat.beq a b
 |_,_=>false
def zI(R:Root):Option (List TypeId×List TypeId)->Bool
 |some (wt,ht)=>lZ R.w wt&&lZ R.ew wt&&lZ R.h ht&&lZ R.eh ht&&Nat.beq R.g 0
 |none=>true
def PO(R:Root):Option (K×List TypeId×List TypeId)->Bool
 |some (k,l)=>R.k.beq k&&zI R (some l)
 |none=>true
def zG(R:Root)(l:List TypeId):Root:={ R with own:=dV R.own l,w:=l++R.w }
def PT(l:List TypeId)(r:Nat)(Z:St):St:=match l with
 | []=>Z
 |l=>match Z.roots r with
  |some R=>bif R.bV || !cu Z R.oO R.tags || !R.own.any (λt=>ah t l)then Z else { Z with roots:=upd Z.roots r (some (zG R l)) }
  |none=>Z
def zK(hi:Hint):List Nat->St->St
 | [],Z=>Z
 |r :: rs,Z=>zK hi rs (PT (yZ (1000000+r) hi.less) r Z)
def Ic(Z:St)(rs:List Nat):(l:List (Nat×wT))->Option (Cont (uL l))
 | []=>some ()
 |(r,sh) :: l=>match Z.roots r with
  |some R=>bif cu Z R.oO R.tags&&lZ (kD rs R.tags) sh.ids&&tN sh.k R.own sh.own&&Qj R.kind sh.kind&&(R.fixed==sh.fixed)&&(R.keep==sh.keep) && !R.bV&&PO R sh.log then
    match bR R.k sh.k R.x,Ic Z rs l with
    |some x,some d=>some (x,d)
    |_,_=>none
   else none
  |none=>none
def mkS:(l:List (Nat×mX))->Cont (qP l)->Nat->fQ
 | [],_,_=>.one .undef
 |(s,sh) :: l,c,n=>bif Nat.beq n s then .one (E_ sh (Cont.fst sh.ks (qP l) c))else mkS l (Cont.snd sh.ks (qP l) c) n
def YW:Option (K×List TypeId×List TypeId)->List TypeId
 |some (_,l,_)=>l
 |none=>[]
def YV:Option (K×List TypeId×List TypeId)->List TypeId
 |some (_,_,l)=>l
 |none=>[]
def xL:(l:List (Nat×wT))->Cont (uL l)->Nat->Option Root
 | [],_,_=>none
 |(r,sh) :: l,c,n=>bif Nat.beq n r then some { k:=sh.k,x:=c.1,own:=sh.own,tags:=sh.ids.map λr=>(r,0),w:=[],h:=[],g:=0,kind:=sh.kind,fixed:=sh.fixed,keep:=sh.keep,ew:=YW sh.log,eh:=YV sh.log }else xL l c.2 n
structure wO where
 ss:List (Nat×mX)
 rs:List (Nat×wT)
abbrev wO.V(s:wO):Type:=Cont (qP s.ss++uL s.rs)
def Qy(wd:List (Nat×List Nat))(eX:List (Nat×K×List TypeId×List TypeId))(ss rs:List Nat)(Z:St):Option wO:=match FJ wd eX rs Z rs with
 |some q=>bif eX.all (λp=>ah p.1 rs)then some ⟨FK wd rs Z ss,q⟩else none
 |none=>none
def AQ(rs:List Nat)(s:wO)(Z:St):Option s.V:=match Dr Z rs s.ss,Ic Z rs s.rs with
 |some a,some b=>some (Cont.app (qP s.ss) (uL s.rs) a b)
 |_,_=>none
def wo(s:wO)(c:s.V):St:=⟨mkS s.ss (Cont.fst _ _ c),xL s.rs (Cont.snd _ _ c)⟩
inductive Ex where
 |normal
 |exit (id:Nat)
 |ret
def rounds{V:Type}(B:(V->Option R)->V->Option R):Nat->V->Option R
 |0=>λ_=>none
 |n+1=>B (rounds B n)
def U6(b:Nat):List (Nat×List Nat×List Nat)->Option (List Nat×List Nat)
 | []=>none
 |(c,h) :: l=>bif Nat.beq b c then some h else U6 b l
def BM{A:Type}(f:A->A->Bool):List A->List A->Bool
 | [],[]=>true
 |a :: l,b :: m=>f a b&&BM f l m
 |_,_=>false
def yV:(k:K)->El k->El k->Bool
 |.int _,x,y=>decide ((show Int from x)=y)
 |.bool,x,y=>(show Bool from x)==y
 |.str,x,y=>decide ((show List Int from x)=y)
 |.sl _ k,xs,ys=>BM (yV k) xs ys
 |.unit,_,_=>true
 |.pair a b,x,y=>yV a x.1 y.1&&yV b x.2 y.2
 |.st f,x,y=>yV f x y
 |.gap _,_,_=>true
 |.id _,x,y=>Nat.beq x y
def Dq:(ks:List K)->Cont ks->Cont ks->Bool
 | [],_,_=>true
 |k :: ks,c,d=>yV k c.1 d.1&&Dq ks c.2 d.2
def Dj(ks:List K):Option (Cont ks)->Option (Cont ks)->Option (Cont ks)
 |some a,some b=>bif Dq ks a b then some a else none
 |_,_=>none
theorem Y1{A:Type}{f:A->A->Bool}(hf:∀x y,f x y=true->x=y):∀{l m:List A},BM f l m=true->l=m
 | [],[],_=>rfl
 |a :: l,b :: m,h=>by
  simp only[BM,bg]at h
  rw[hf a b h.1,Y1 hf h.2]
 | [],_ :: _,h=>by simp[BM]at h
 |_ :: _,[],h=>by simp[BM]at h
theorem afu:∀{k:K} {x y:El k},yV k x y=true->x=y:=by
 intro k
 induction k with
 |int ik=>intro x y h;exact of_decide_eq_true h
 |bool=>intro x y h;exact eq_of_beq h
 |str=>intro x y h;exact of_decide_eq_true h
 |sl e k ih=>intro x y h;exact Y1 (λx y h=>ih h) h
 |unit=>intro x y _;rfl
 |pair a b iha ihb=>
  intro x y h
  simp only[yV,bg]at h
  exact Prod.ext (iha h.1) (ihb h.2)
 |st f ih=>intro x y h;exact ih (x:=x) (y:=y) h
 |gap n=>intro x y _;rfl
 |id e=>intro x y h;exact a_ h
theorem Uv:∀{ks:List K} {c d:Cont ks},Dq ks c d=true->c=d
 | [],_,_,_=>rfl
 |k :: ks,c,d,h=>by
  simp only[Dq,bg]at h
  exact Prod.ext (afu h.1) (Uv h.2)
theorem adI{ks:List K}{a b:Option (Cont ks)}{z:Cont ks}(h:Dj ks a b=some z):a=some z/\b=some z:=by
 cases a with
 |none=>simp[Dj]at h
 |some a=>
  cases b with
  |none=>simp[Dj]at h
  |some b=>
   simp only[Dj]at h
   cases hb:Dq ks a b with
   |false=>rw[hb]at h;simp at h
   |true=>
    rw[hb]at h
    simp only[fJ,aa]at h
    have:=Uv hb
    subst h
    exact⟨rfl,by rw[this]⟩
def den(T:bF)(hi:Hint)(n:Nat)(ag:Option R->Option R->Option R):Nat->Code->St->(Ex->St->Option R)->Option R
 |_,.skip,Z,K=>K .normal Z
 |_,.region _ ops draw,Z,K=>bif draw then yX T hi n ops ops.toList 0 [] Z (K .normal)else Dy T hi n ops ops.toList Z (K .normal)
 |b,.seq x y,Z,K=>den T hi n ag b x Z fun
  |.normal,Z'=>den T hi n ag b y Z' K
  |e,Z'=>K e Z'
 |b,.cond c x y,Z,K=>(dP c λa=>.ret a).run Z fun
  |.nG e=>if e=true then ag (den T hi n ag b x Z K) (den T hi n ag b y Z K)else den T hi n ag b y Z K
  |a=>(asBool a .ret).run Z λt=>if t=true then den T hi n ag b x Z K else den T hi n ag b y Z K
 |_,.block id x,Z,K=>den T hi n ag id x Z fun
  |.exit i,Z'=>bif Nat.beq i id then K .normal Z' else K (.exit i) Z'
  |e,Z'=>K e Z'
 |b,.loop x,Z,K=>match U6 b hi.loops with
  |some (ss,rs)=>match Qy hi.wide hi.eX ss rs (zK hi rs Z)with
   |some s=>match AQ rs s (zK hi rs Z)with
    |some c=>rounds (λL v=>den T hi n ag b x (wo s v) fun
     |.normal,Z'=>match AQ rs s (zK hi rs Z')with
      |some v'=>L v'
      |none=>none
     |e,Z'=>K e Z') n c
    |none=>none
   |none=>none
  |none=>none
 |_,.exit id,Z,K=>K (.exit id) Z
 |_,.ret,Z,K=>K .ret Z
 |_,_,_,_=>none
def WE(j:Nat):(p:List (Option Nat))->Cont (aH.into 0 p).kin->AV
 | [],_=>.eH
 |t :: p,c=>.ptr (aC j) (pathOf (t :: p) c) 0
def eU:(ps:List aH)->(i:Nat)->Cont (kin ps)->List (Nat×AV)
 | [],_,_=>[]
 |.val k bB :: ps,i,c=>(i,.val k c.1 (bif k.flat then []else(gB i,0) :: bB.map λj=>(aC j,0))) :: eU ps (i+1) c.2
 |.ro k :: ps,i,c=>(i,.eY SENT k c.1 [(gB i,0)]) :: eU ps (i+1) c.2
 |.rw _ _ _ _ :: ps,i,c=>(i,.ptr (aC i) [] 0) :: eU ps (i+1) c.2
 |.dH _ _ _ :: ps,i,c=>(i,.ref (aC i) 0) :: eU ps (i+1) c.2
 |.own _ _ :: ps,i,c=>(i,.ref (aC i) 0) :: eU ps (i+1) c.2
 |.fn f ks :: ps,i,c=>(i,.fn f (AP i ks (Cont.fst ks (kin ps) c))) :: eU ps (i+1) (Cont.snd ks (kin ps) c)
 |.into j p :: ps,i,c=>(i,WE j p (Cont.fst (aH.into 0 p).kin (kin ps) c)) :: eU ps (i+1) (Cont.snd (aH.into 0 p).kin (kin ps) c)
where AP (i:Nat):(ks:List K)->Cont ks->List (TypeId×Dat×List Tag)
 | [],_=>[]
 |k :: ks,c=>(SENT,⟨k,c.1⟩,[(gB i,0)]) :: AP i ks c.2
def jd:(ps:List aH)->(i:Nat)->Cont (kin ps)->List (Nat×Root)
 | [],_,_=>[]
 |.val _ _ :: ps,i,c=>jd ps (i+1) c.2
 |.ro _ :: ps,i,c=>jd ps (i+1) c.2
 |.rw k ow _ _ :: ps,i,c=>(aC i,bL k c.1 ow (bif k.tys.all (λt=>ah t ow)then []else [(gB i,0)]) .par true) :: jd ps (i+1) c.2
 |.dH k ow _ :: ps,i,c=>(aC i,{ bL k c.1 ow (bif k.tys.all (λt=>ah t ow)then []else [(gB i,0)]) .anon true with fixed:=true }) :: jd ps (i+1) c.2
 |.own k ow :: ps,i,c=>(aC i,bL k c.1 ow (bif k.tys.all (λt=>ah t ow)then []else [(gB i,0)]) .anon) :: jd ps (i+1) c.2
 |.fn _ ks :: ps,i,c=>jd ps (i+1) (Cont.snd ks (kin ps) c)
 |.into _ p :: ps,i,c=>jd ps (i+1) (Cont.snd (aH.into 0 p).kin (kin ps) c)
def gG:List (Nat×AV)->Nat->fQ
 | [],_=>.one .undef
 |(s,a) :: l,n=>bif Nat.beq n s then .one a else gG l n
def iY:List (Nat×Root)->Nat->Option Root
 | [],_=>none
 |(s,a) :: l,n=>bif Nat.beq n s then some a else iY l n
def f_(ps:List aH)(c:Cont (kin ps)):St:=⟨gG (eU ps 0 c),iY (jd ps 0 c)⟩
def oN(exts bB:List Nat)(tags:List Tag):Bool:=tags.all λt=>
 bif fO t.1 then ah (t.1 / 4) exts else bif Nat.beq (t.1%4) 0 then ah (t.1 / 4) bB else true
def wB{J:Type}(T:bF)(own:Bool)(rv:ResultVar)(k:AV->Prog J):Prog J:=match rv with
 |.tmp t=>dP (.tmp t) k
 |.cell t ty=>dP (.tmp t) λa=>vY T own ty a k
def xk{J:Type}(T:bF):(rs:List eF)->List ResultVar->(Cont (iq rs)->List dS->List (List Tag)->Prog J)->Prog J
 | [],[],k=>k () [] []
 |.val kk exts bB :: rs,v :: vs,k=>
  let go (x:El kk) (tags:List Tag):Prog J:=bif kk.flat||oN exts bB tags then xk T rs vs λc ts tg=>k (x,c) ts (tags :: tg)else .fail
  wB T false v λa=>match a with
  |.eH=>match kk,go with
   |.sl _ _,go=>go [] []
   |_,_=>.fail
  |a=>oD a λk' x tags=>match bR k' kk x with
   |some y=>go y (bif kk.flat then []else tags)
   |none=>.fail
 |.own kk ow exts bB :: rs,v :: vs,k=>wB T true v λa=>qp kk a λtk=>match bR tk.k kk tk.x with
  |some y=>bif lZ (kk.tys.filter λt=>ah t ow) tk.own&&(kk.tys.all (λt=>ah t ow)||oN exts bB tk.tags)then xk T rs vs λc ts tg=>k (y,c) (tk :: ts) tg else .fail
  |none=>.fail
 |_,_,_=>.fail
def Ij(Z:St)(i:Nat):Option Root:=match Z.roots (aC i)with
 |some R=>bif R.bV || !cu Z R.oO R.tags then none else some R
 |none=>none
def kP(Z:St):(ps:List aH)->Nat->Option (Cont (gF ps))
 | [],_=>some ()
 |.rw k ow wt ht :: ps,i=>match Ij Z i,kP Z ps (i+1)with
  |some R,some d=>bif tN k R.own ow&&zI R (some (wt,ht))&&(k.tys.all (λt=>ah t ow)||oN [i] [] R.tags)then
    match bR R.k k R.x with
    |some x=>some (x,d)
    |none=>none
   else none
  |_,_=>none
 |.dH k ow wt :: ps,i=>match Ij Z i,kP Z ps (i+1)with
  |some R,some d=>bif tN k R.own ow&&zI R (some (wt,k.tys))&&(k.tys.all (λt=>ah t ow)||oN [i] [] R.tags)then
    match bR R.k k R.x with
    |some x=>some (x,d)
    |none=>none
   else none
  |_,_=>none
 |.val _ _ :: ps,i=>kP Z ps (i+1)
 |.ro _ :: ps,i=>kP Z ps (i+1)
 |.own _ _ :: ps,i=>kP Z ps (i+1)
 |.fn _ _ :: ps,i=>kP Z ps (i+1)
 |.into _ _ :: ps,i=>kP Z ps (i+1)
def fin(T:bF)(ps:List aH)(rs:List eF)(rv:List ResultVar)(Z:St):Option (Cont (iq rs++gF ps)):=
 (xk T rs rv λc ts tg=>bif qw (ts.flatMap (·.ws)) (ts.flatMap (·.tags)++tg.flatten)then .ret (c,ts.flatMap (·.ws))else .fail:Prog (Cont (iq rs)×List Wr)).run Z λq=>
  match kP (aB q.2 Z) ps 0 with
  |some d=>some (Cont.app (iq rs) (gF ps) q.1 d)
  |none=>none
def Root.WK(R:Root)(t:TypeId):Bool:=match R.kind with
 |.var u=>Nat.beq t u
 |_=>false
def JZ{J:Type}(t:TypeId)(kk:K)(ow:List TypeId)(exts:List Nat)(a:AV)(k:El kk->Nat->Prog J):Prog J:=match a with
 |.ptr r [] _=>g_ r λR=>bif R.WK t&&lZ (kk.tys.filter λt=>ah t ow) R.own&&(kk.tys.all (λt=>ah t ow)||oN exts [] R.tags)then
   match bR R.k kk R.x with
   |some y=>k y r
   |none=>.fail
  else .fail
 |_=>.fail
def cutV{J:Type}(j:Nat)(a:AV)(k:Int->Prog J):Prog J:=match a with
 |.ref r g=>bif Nat.beq r (aC j)&&Nat.beq g 0 then g_ r λR=>bif Nat.beq R.g 0 then match R.k,R.x with
   |.sl _ kk,xs=>k ((show List (El kk)from xs).length:Int)
   |_,_=>.fail
  else .fail
  else .fail
 |.part r g lo hi _=>bif Nat.beq r (aC j)&&Nat.beq g 0&&Nat.beq lo 0 then k (hi:Int)else .fail
 |_=>.fail
def I1{J:Type}(j:Nat)(p:List (Option Nat))(a:AV)(k:Int->Prog J):Prog J:=match a with
 |.iI=>k (-1)
 |.ptr r q h=>bif Nat.beq r (aC j)then g_ r λR=>bif clean R.h h (iD q R.k)&&BS q R&&(aA q R.k R.x).isSome then
   match l9 p q with
   |some (some i)=>.dO (0<=i) inferInstance (k i)
   |_=>.fail
  else .fail
  else .fail
 |_=>.fail
def Ih(T:bF)(ps:List aH):(rs:List eF)->List ResultVar->St->Option (Cont (iq rs++gF ps))
 | [.ptr t kk ow exts],[rv],Z=>(wB T false rv λa=>JZ t kk ow exts a λy r=>.ret (y,r):Prog (El kk×Nat)).run Z λq=>
   match kP (aB [.r q.2 none] Z) ps 0 with
   |some d=>some (q.1,d)
   |none=>none
 | [.into j []],[rv],Z=>(wB T false rv λa=>cutV j a λm=>.ret m:Prog Int).run Z λm=>
   match kP Z ps 0 with
   |some d=>some (m,d)
   |none=>none
 | [.into j (t :: p)],[rv],Z=>(wB T false rv λa=>I1 j (t :: p) a λm=>.ret m:Prog Int).run Z λm=>
   match kP Z ps 0 with
   |some d=>some (m,d)
   |none=>none
 |rs,fE,Z=>fin T ps rs fE Z
def tO:List aH->Nat->List (Nat×K×List TypeId×List TypeId)
 | [],_=>[]
 |.rw k _ wt ht :: ps,i=>(aC i,k,wt,ht) :: tO ps (i+1)
 |.dH k _ wt :: ps,i=>(aC i,k,wt,k.tys) :: tO ps (i+1)
 |_ :: ps,i=>tO ps (i+1)
def vK(T:bF)(hi:Hint)(fn:Func)(ps:List aH)(rs:List eF)(n:Nat)(c:Cont (kin ps)):Option (Cont (iq rs++gF ps)):=
 match fn.body with
 |some code=>den T { hi with nt:=fn.ntmps,eX:=tO ps 0 } n (Dj (iq rs++gF ps)) 0 code (f_ ps c) fun
  |.ret,Z=>Ih T ps rs fn.results.toList Z
  |.normal,Z=>Ih T ps rs fn.results.toList Z
  |_,_=>none
 |none=>none
end
section
open Go
class Fr where
 free:Nat->Prop
 obj:Nat->Option Obj
 BB:Nat->Value
 Wz:BB 0=.slice none 0 0
 WA:∀i,∃a n c,BB i=.slice a n c
abbrev am6:Fr:=⟨λ_=>False,λ_=>none,λ_=>.slice none 0 0,rfl,λ_=>⟨none,0,0,rfl⟩⟩
variable [Fr]
structure iE(n lo hi:Nat):Prop where
 le:lo<=hi
 out:∀i,i<n->¬(lo<=i/\i<hi)
instance {n lo hi:Nat}:CoeFun (iE n lo hi) (λ_=>∀i,i<n->¬(lo<=i/\i<hi)):=⟨iE.out⟩
theorem iE.zero{n:Nat}:iE n 0 0:=⟨bT _,λ_ _=>by omega⟩
abbrev Heap:=Nat->Option Obj
def hp(w:World):Heap:=λb=>w.heap[b]?
def cellAt(h:Heap)(b o:Nat):Option Value:=match h b with
 |some (.cells c _ _)=>c[o]?
 |_=>none
def h_(h:Heap)(b:Nat):Option TypeId:=match h b with
 |some (.cells _ e _)=>some e
 |_=>none
def Cells(h:Heap)(b o:Nat)(cs:List Value):Prop:=∀i,i<cs.length->cellAt h b (o+i)=cs[i]?
theorem uC(w:World)(b o:Nat):w.cell? ⟨b,o,none⟩=cellAt (hp w) b o:=by
 unfold World.cell? cellAt hp
 cases w.heap[b]? with
 |none=>rfl
 |some x=>cases x<;>rfl
theorem xe{h h':Heap}{b:Nat}(e:h' b=h b)(o:Nat):cellAt h' b o=cellAt h b o:=by unfold cellAt;rw[e]
def kr(h:Heap)(b:Nat)(e:TypeId):Prop:=h_ h b=some e\/Fr.free b
theorem UQ{h h':Heap}{b:Nat}(e:h' b=h b):h_ h' b=h_ h b:=by unfold h_;rw[e]
theorem UO{h h':Heap}{b:Nat}{t:TypeId}(e:h' b=h b)(H:kr h b t):kr h' b t:=H.imp (λH=>(UQ e).trans H) id
theorem Cells.congr{h h':Heap}{b o:Nat}{cs:List Value}(e:h' b=h b)(H:Cells h b o cs):Cells h' b o cs:=λi hi=>(xe e _).trans (H i hi)
def kI:IntKind->Int->Prop
 |.u8,n=>0<=n/\n<256
 |_,_=>True
def Vw(h:Heap)(ok:Nat->Prop):(k:K)->El k->List Value->Prop
 |.int ik,n,cs=>cs=[.int ik n]/\kI ik n
 |.bool,b,cs=>cs=[.bool b]
 |.str,s,cs=>∃B:ByteArray,cs=[.string B]/\(show List Int from s)=bytesOf B
 |.sl e k,xs,cs=>∃a n c,cs=[.slice a n c]/\n=(show List (El k)from xs).length/\n<=c/\
   (0<n->∃b o,a=some ⟨b,o,none⟩/\ok b/\kr h b e/\
    ∀(i:Nat) (hi:i<(show List (El k)from xs).length),∃ds,Cells h b (o+i*k.size) ds/\Vw h ok k ((show List (El k)from xs)[i]) ds)
 |.unit,_,cs=>cs=[]
 |.pair a b,x,cs=>∃c1 c2,cs=c1++c2/\Vw h ok a x.1 c1/\Vw h ok b x.2 c2
 |.st f,x,cs=>Vw h ok f x cs
 |.gap n,_,cs=>cs.length=n
 |.id _,i,cs=>cs=[Fr.BB (show Nat from i)]
def Ow(h:Heap)(own:List TypeId)(ok:Nat->Prop):(k:K)->El k->List Value->List Nat->Prop
 |.sl e k,xs,cs,fo=>if ah e own=true then
   ∃a n c,cs=[.slice a n c]/\n=(show List (El k)from xs).length/\n<=c/\
    ((c=0/\fo=[])\/∃b o arr lo hi,a=some ⟨b,o,none⟩/\h b=some (.cells arr e (lo,hi))/\iE arr.size lo hi/\o+c*k.size<=arr.size/\
     ∃au:List (List Nat),au.length=(show List (El k)from xs).length/\fo.Perm (b :: au.flatten)/\
      ∀(i:Nat) (hi:i<(show List (El k)from xs).length),∃ds,Cells h b (o+i*k.size) ds/\Ow h own ok k ((show List (El k)from xs)[i]) ds (au.getD i []))
  else fo=[]/\Vw h ok (.sl e k) xs cs
 |.pair a b,x,cs,fo=>∃c1 c2 f1 f2,cs=c1++c2/\fo.Perm (f1++f2)/\Ow h own ok a x.1 c1 f1/\Ow h own ok b x.2 c2 f2
 |.st f,x,cs,fo=>Ow h own ok f x cs fo
 |.int ik,n,cs,fo=>fo=[]/\Vw h ok (.int ik) n cs
 |.bool,n,cs,fo=>fo=[]/\Vw h ok .bool n cs
 |.str,n,cs,fo=>fo=[]/\Vw h ok .str n cs
 |.unit,_,cs,fo=>fo=[]/\cs=[]
 |.gap n,_,cs,fo=>fo=[]/\cs.length=n
 |.id e,i,cs,fo=>fo=[]/\Vw h ok (.id e) i cs
theorem lQ{h:Heap}{ok:Nat->Prop}:∀{k:K} {x:El k} {cs:List Value},Vw h ok k x cs->cs.length=k.size:=by
 intro k
 induction k with
 |int ik=>intro x cs H;rw[H.1];rfl
 |bool=>intro x cs H;rw[show cs=_ from H];rfl
 |id e=>intro x cs H;rw[show cs=_ from H];rfl
 |str=>intro x cs H;obtain⟨B,rfl,_⟩:=H;rfl
 |sl e k ih=>intro x cs H;obtain⟨a,n,c,rfl,_⟩:=H;rfl
 |unit=>intro x cs H;rw[show cs=_ from H];rfl
 |pair a b iha ihb=>intro x cs H;obtain⟨c1,c2,rfl,h1,h2⟩:=H;simp[K.size,iha h1,ihb h2]
 |st f ih=>intro x cs H;exact ih (x:=x) H
 |gap n=>intro x cs H;exact H
theorem jO{h h':Heap}{ok ok':Nat->Prop}(hh:∀b,ok b->h' b=h b)(hk:∀b,ok b->ok' b):∀{k:K} {x:El k} {cs:List Value},Vw h ok k x cs->Vw h' ok' k x cs:=by
 intro k
 induction k with
 |int ik=>intro x cs H;exact H
 |bool=>intro x cs H;exact H
 |id e=>intro x cs H;exact H
 |str=>intro x cs H;exact H
 |sl e k ih=>
  intro x cs H
  obtain⟨a,n,c,e1,e2,e3,H⟩:=H
  refine⟨a,n,c,e1,e2,e3,λhn=>?_⟩
  obtain⟨b,o,ea,hb,ht,H⟩:=H hn
  refine⟨b,o,ea,hk b hb,UO (hh b hb) ht,λi hi=>?_⟩
  obtain⟨ds,h1,h2⟩:=H i hi
  exact⟨ds,h1.congr (hh b hb),ih h2⟩
 |unit=>intro x cs H;exact H
 |pair a b iha ihb=>intro x cs H;obtain⟨c1,c2,e,h1,h2⟩:=H;exact⟨c1,c2,e,iha h1,ihb h2⟩
 |st f ih=>intro x cs H;exact ih (x:=x) H
 |gap n=>intro x cs H;exact H
theorem kL{h h':Heap}{ok ok':Nat->Prop}:∀{k:K} {x:El k} {cs:List Value},k.flat=true->Vw h ok k x cs->Vw h' ok' k x cs:=by
 intro k
 induction k with
 |sl e k ih=>intro x cs h;simp[K.flat]at h
 |gap n=>intro x cs h;simp[K.flat]at h
 |pair a b iha ihb=>
  intro x cs h H
  simp only[K.flat,bg]at h
  obtain⟨c1,c2,e,h1,h2⟩:=H
  exact⟨c1,c2,e,iha h.1 h1,ihb h.2 h2⟩
 |st f ih=>intro x cs h H;exact ih (x:=x) h H
 |_=>intro x cs _ H;exact H
theorem De{h:Heap}{ok:Nat->Prop}:∀{k:K} {x:El k} {cs:List Value} (ts:List TypeId),(∀t∈k.tys,t∈ts)->Vw h ok k x cs->Vw h (λb=>ok b/\∃t∈ts,kr h b t) k x cs:=by
 intro k
 induction k with
 |int ik=>intro x cs ts _ H;exact H
 |bool=>intro x cs ts _ H;exact H
 |id e=>intro x cs ts _ H;exact H
 |str=>intro x cs ts _ H;exact H
 |sl e k ih=>
  intro x cs ts hts H
  obtain⟨a,n,c,e1,e2,e3,H⟩:=H
  refine⟨a,n,c,e1,e2,e3,λhn=>?_⟩
  obtain⟨b,o,ea,hb,ht,H⟩:=H hn
  refine⟨b,o,ea,⟨hb,e,hts e (by simp[K.tys]),ht⟩,ht,λi hi=>?_⟩
  obtain⟨ds,h1,h2⟩:=H i hi
  exact⟨ds,h1,ih ts (λt h=>hts t (by simp[K.tys,h])) h2⟩
 |unit=>intro x cs ts _ H;exact H
 |pair a b iha ihb=>
  intro x cs ts hts H
  obtain⟨c1,c2,e,h1,h2⟩:=H
  exact⟨c1,c2,e,iha ts (λt h=>hts t (by simp[K.tys,h])) h1,ihb ts (λt h=>hts t (by simp[K.tys,h])) h2⟩
 |st f ih=>intro x cs ts hts H;exact ih (x:=x) ts hts H
 |gap n=>intro x cs ts _ H;exact H
theorem eO{h:Heap}{own:List TypeId}{ok:Nat->Prop}:∀{k:K} {x:El k} {cs:List Value} {fo:List Nat},Ow h own ok k x cs fo->cs.length=k.size:=by
 intro k
 induction k with
 |int ik=>intro x cs fo H;exact lQ H.2
 |bool=>intro x cs fo H;exact lQ H.2
 |id e=>intro x cs fo H;exact lQ H.2
 |str=>intro x cs fo H;exact lQ H.2
 |sl e k ih=>
  intro x cs fo H
  unfold Ow at H
  split at H
  ·obtain⟨a,n,c,rfl,_⟩:=H;rfl
  ·exact lQ H.2
 |unit=>intro x cs fo H;rw[H.2];rfl
 |pair a b iha ihb=>intro x cs fo H;obtain⟨c1,c2,f1,f2,rfl,_,h1,h2⟩:=H;simp[K.size,iha h1,ihb h2]
 |st f ih=>intro x cs fo H;exact ih (x:=x) H
 |gap n=>intro x cs fo H;exact H.2
theorem tu{au:List (List Nat)}{i:Nat}{b:Nat}(h:b∈au.getD i []):b∈au.flatten:=by
 rw[gy]at h
 cases hi:au[i]? with
 |none=>rw[hi]at h;simp at h
 |some l=>rw[hi]at h;exact GV.2 ⟨l,pX hi,by simpa using h⟩
theorem dK{h h':Heap}{own:List TypeId}{ok ok':Nat->Prop}(hh:∀b,ok b->h' b=h b)(hk:∀b,ok b->ok' b) :
  ∀{k:K} {x:El k} {cs:List Value} {fo:List Nat},(∀b∈fo,h' b=h b)->Ow h own ok k x cs fo->Ow h' own ok' k x cs fo:=by
 intro k
 induction k with
 |int ik=>intro x cs fo _ H;exact⟨H.1,jO hh hk H.2⟩
 |bool=>intro x cs fo _ H;exact⟨H.1,jO hh hk H.2⟩
 |id e=>intro x cs fo _ H;exact⟨H.1,jO hh hk H.2⟩
 |str=>intro x cs fo _ H;exact⟨H.1,jO hh hk H.2⟩
 |sl e k ih=>
  intro x cs fo hfo H
  unfold Ow at H ⊢
  split
  ·rename_i hm
   rw[ak hm]at H
   obtain⟨a,n,c,e1,e2,e3,H⟩:=H
   refine⟨a,n,c,e1,e2,e3,?_⟩
   rcases H with H|⟨b,o,arr,lo,hi,ea,hb,hf,hs,au,hl,hp,H⟩
   ·exact .inl H
   ·have hbb:h' b=h b:=hfo b (hp.mem_iff.2 (by simp))
    refine .inr ⟨b,o,arr,lo,hi,ea,hbb.trans hb,hf,hs,au,hl,hp,λi hi=>?_⟩
    obtain⟨ds,h1,h2⟩:=H i hi
    exact⟨ds,h1.congr hbb,ih (λb' hb'=>hfo b' (hp.mem_iff.2 (by simp[tu hb']))) h2⟩
  ·rename_i hm
   rw[aj hm]at H
   exact⟨H.1,jO hh hk H.2⟩
 |unit=>intro x cs fo _ H;exact H
 |pair a b iha ihb=>
  intro x cs fo hfo H
  obtain⟨c1,c2,f1,f2,e,hp,h1,h2⟩:=H
  exact⟨c1,c2,f1,f2,e,hp,iha (λb hb=>hfo b (hp.mem_iff.2 (by simp[hb]))) h1,ihb (λb hb=>hfo b (hp.mem_iff.2 (by simp[hb]))) h2⟩
 |st f ih=>intro x cs fo hfo H;exact ih (x:=x) hfo H
 |gap n=>intro x cs fo _ H;exact H
theorem qE{h:Heap}{own:List TypeId}{ok:Nat->Prop}:∀{k:K} {x:El k} {cs:List Value} {fo:List Nat} (ts:List TypeId),(∀t∈aZ own k,t∈ts)->Ow h own ok k x cs fo->Ow h own (λb=>ok b/\∃t∈ts,kr h b t) k x cs fo:=by
 intro k
 induction k with
 |int ik=>intro x cs fo ts _ H;exact H
 |bool=>intro x cs fo ts _ H;exact H
 |id e=>intro x cs fo ts _ H;exact H
 |str=>intro x cs fo ts _ H;exact H
 |sl e k ih=>
  intro x cs fo ts hts H
  unfold Ow at H ⊢
  split
  ·rename_i hm
   rw[ak hm]at H
   obtain⟨a,n,c,e1,e2,e3,H⟩:=H
   refine⟨a,n,c,e1,e2,e3,?_⟩
   rcases H with H|⟨b,o,arr,lo,hi,ea,hb,hf,hs,au,hl,hp,H⟩
   ·exact .inl H
   ·refine .inr ⟨b,o,arr,lo,hi,ea,hb,hf,hs,au,hl,hp,λi hi=>?_⟩
    obtain⟨ds,h1,h2⟩:=H i hi
    exact⟨ds,h1,ih ts (λt ht=>hts t (by simp[aZ,hm,ht])) h2⟩
  ·rename_i hm
   rw[aj hm]at H
   exact⟨H.1,De ts (λt ht=>hts t (by simpa[aZ,hm,K.tys]using ht)) H.2⟩
 |unit=>intro x cs fo ts _ H;exact H
 |pair a b iha ihb=>
  intro x cs fo ts hts H
  obtain⟨c1,c2,f1,f2,e,hp,h1,h2⟩:=H
  exact⟨c1,c2,f1,f2,e,hp,iha ts (λt h=>hts t (by simp[aZ,h])) h1,ihb ts (λt h=>hts t (by simp[aZ,h])) h2⟩
 |st f ih=>intro x cs fo ts hts H;exact ih (x:=x) ts hts H
 |gap n=>intro x cs fo ts _ H;exact H
theorem oC{h:Heap}{own:List TypeId}{ok:Nat->Prop}(ok':Nat->Prop)(hk:∀b,ok b->ok' b) :
  ∀{k:K} {x:El k} {cs:List Value} {fo:List Nat},(∀b∈fo,ok' b)->Ow h own ok k x cs fo->Vw h ok' k x cs:=by
 intro k
 induction k with
 |int ik=>intro x cs fo _ H;exact jO (λ_ _=>rfl) hk H.2
 |bool=>intro x cs fo _ H;exact jO (λ_ _=>rfl) hk H.2
 |id e=>intro x cs fo _ H;exact jO (λ_ _=>rfl) hk H.2
 |str=>intro x cs fo _ H;exact jO (λ_ _=>rfl) hk H.2
 |sl e k ih=>
  intro x cs fo hfo H
  unfold Ow at H
  split at H
  ·obtain⟨a,n,c,e1,e2,e3,H⟩:=H
   refine⟨a,n,c,e1,e2,e3,λhn=>?_⟩
   rcases H with H|⟨b,o,arr,lo,hi,ea,hb,hf,hs,au,hl,hp,H⟩
   ·omega
   ·refine⟨b,o,ea,hfo b (hp.mem_iff.2 (by simp)),by refine .inl ?_;unfold h_;rw[hb],λi hi=>?_⟩
    obtain⟨ds,h1,h2⟩:=H i hi
    exact⟨ds,h1,ih (λb' hb'=>hfo b' (hp.mem_iff.2 (by simp[tu hb']))) h2⟩
  ·exact jO (λ_ _=>rfl) hk H.2
 |unit=>intro x cs fo _ H;exact H.2
 |pair a b iha ihb=>
  intro x cs fo hfo H
  obtain⟨c1,c2,f1,f2,e,hp,h1,h2⟩:=H
  exact⟨c1,c2,e,iha (λb hb=>hfo b (hp.mem_iff.2 (by simp[hb]))) h1,ihb (λb hb=>hfo b (hp.mem_iff.2 (by simp[hb]))) h2⟩
 |st f ih=>intro x cs fo hfo H;exact ih (x:=x) hfo H
 |gap n=>intro x cs fo _ H;exact H.2
theorem vo{h:Heap}{own own':List TypeId}{ok:Nat->Prop} :
  ∀{k:K} {x:El k} {cs:List Value} {fo:List Nat},(∀t∈k.tys,ah t own'=true->ah t own=true)->Ow h own ok k x cs fo->
   ∃bE fd,fo.Perm (bE++fd)/\Ow h own' (λb=>ok b\/b∈fd) k x cs bE:=by
 intro k
 induction k with
 |int ik=>intro x cs fo _ H;exact⟨[],[],by rw[H.1];exact .refl _,rfl,jO (λ_ _=>rfl) (λ_ h=>.inl h) H.2⟩
 |bool=>intro x cs fo _ H;exact⟨[],[],by rw[H.1];exact .refl _,rfl,jO (λ_ _=>rfl) (λ_ h=>.inl h) H.2⟩
 |id e=>intro x cs fo _ H;exact⟨[],[],by rw[H.1];exact .refl _,rfl,jO (λ_ _=>rfl) (λ_ h=>.inl h) H.2⟩
 |str=>intro x cs fo _ H;exact⟨[],[],by rw[H.1];exact .refl _,rfl,jO (λ_ _=>rfl) (λ_ h=>.inl h) H.2⟩
 |sl e k ih=>
  intro x cs fo ht H
  by_cases hm':ah e own'=true
  ·have hm:=ht e (by simp[K.tys]) hm'
   unfold Ow at H
   rw[ak hm]at H
   obtain⟨a,n,c,e1,e2,e3,H⟩:=H
   rcases H with⟨h0,h1⟩|⟨b,o,arr,lo,hi,ea,hb,hf,hs,au,hl,hp,H⟩
   ·refine⟨[],[],by rw[h1];exact .refl _,?_⟩
    unfold Ow
    rw[ak hm']
    exact⟨a,n,c,e1,e2,e3,.inl ⟨h0,rfl⟩⟩
   ·
    have step:∀i:Nat,∃p:List Nat×List Nat,(hi:i<(show List (El k)from x).length)->((au.getD i []).Perm (p.1++p.2)/\∃ds,Cells h b (o+i*k.size) ds/\Ow h own' (λb=>ok b\/b∈p.2) k ((show List (El k)from x)[i]) ds p.1):=by
     intro i
     by_cases hi:i<(show List (El k)from x).length
     ·obtain⟨ds,h1,h2⟩:=H i hi
      obtain⟨bE,fd,hp',h3⟩:=ih (λt ht'=>ht t (by simp[K.tys,ht'])) h2
      exact⟨(bE,fd),λ_=>⟨hp',ds,h1,h3⟩⟩
     ·exact⟨([],[]),λh=>absurd h hi⟩
    have⟨q,hq⟩:∃q:Nat->List Nat×List Nat,∀i,(hi:i<(show List (El k)from x).length)->((au.getD i []).Perm ((q i).1++(q i).2)/\∃ds,Cells h b (o+i*k.size) ds/\Ow h own' (λb=>ok b\/b∈(q i).2) k ((show List (El k)from x)[i]) ds (q i).1):=
     ⟨λi=>Classical.choose (step i),λi=>Classical.choose_spec (step i)⟩
    let N:=(show List (El k)from x).length
    refine⟨b :: (List.range N).flatMap (λi=>(q i).1),(List.range N).flatMap (λi=>(q i).2),?_,?_⟩
    ·refine hp.trans ?_
     rw[iR]
     refine .cons b ?_
     have ag8:au.flatten=(List.range N).flatMap (λi=>au.getD i []):=by
      rw[List.flatMap_def]
      congr 1
      apply Te
      ·simp[N,hl]
      ·intro i h1 h2
       simp[gy,gK h1]
     rw[ag8]
     have gen:∀l:List Nat,(∀i∈l,i<N)->(l.flatMap (λi=>au.getD i [])).Perm (l.flatMap (λi=>(q i).1)++l.flatMap (λi=>(q i).2)):=by
      intro l
      induction l with
      |nil=>intro _;exact .refl _
      |cons i l ihl=>
       intro hl'
       simp only[kK]
       have h1:=(hq i (hl' i (by simp))).1
       have h2:=ihl (λj hj=>hl' j (by simp[hj]))
       refine(h1.append h2).trans ?_
       simp only[fH]
       refine yC _ ?_
       rw[<-fH,<-fH]
       exact uY _ Lj
     exact gen _ (λi hi=>List.mem_range.1 hi)
    ·unfold Ow
     rw[ak hm']
     refine⟨a,n,c,e1,e2,e3,.inr ⟨b,o,arr,lo,hi,ea,hb,hf,hs,(List.range N).map (λi=>(q i).1),by simp[N],by rw[List.flatMap_def],λi hi=>?_⟩⟩
     obtain⟨ds,h1,h2⟩:=(hq i hi).2
     refine⟨ds,h1,?_⟩
     have:(List.map (λi=>(q i).1) (List.range N)).getD i []=(q i).1:=by
      rw[gy,CY,Tj hi];rfl
     rw[this]
     exact dK (λ_ _=>rfl) (λb' hb'=>hb'.imp id (λh=>nN.2 ⟨i,List.mem_range.2 hi,h⟩)) (λ_ _=>rfl) h2
  ·refine⟨[],fo,by simp,?_⟩
   unfold Ow
   rw[aj hm']
   exact⟨rfl,oC _ (λ_ h=>.inl h) (λ_ h=>.inr h) H⟩
 |unit=>intro x cs fo _ H;exact⟨[],[],by rw[H.1];exact .refl _,rfl,H.2⟩
 |pair a b iha ihb=>
  intro x cs fo ht H
  obtain⟨c1,c2,f1,f2,e,hp,h1,h2⟩:=H
  obtain⟨g1,d1,p1,r1⟩:=iha (λt h=>ht t (by simp[K.tys,h])) h1
  obtain⟨g2,d2,p2,r2⟩:=ihb (λt h=>ht t (by simp[K.tys,h])) h2
  refine⟨g1++g2,d1++d2,(hp.trans (p1.append p2)).trans ?_,c1,c2,g1,g2,e,.refl _,?_,?_⟩
  ·simp only[fH]
   refine yC _ ?_
   rw[<-fH,<-fH]
   exact uY _ Lj
  ·exact dK (λ_ _=>rfl) (λb' hb'=>hb'.imp id (λh=>by simp[h])) (λ_ _=>rfl) r1
  ·exact dK (λ_ _=>rfl) (λb' hb'=>hb'.imp id (λh=>by simp[h])) (λ_ _=>rfl) r2
 |st f ih=>intro x cs fo ht H;exact ih (x:=x) ht H
 |gap n=>intro x cs fo _ H;exact⟨[],[],by rw[H.1];exact .refl _,rfl,H.2⟩
theorem q8{h:Heap}{own own':List TypeId}{ok:Nat->Prop} :
  ∀{k:K} {x:El k} {cs:List Value} {fo:List Nat},(∀t∈k.tys,ah t own'=ah t own)->Ow h own ok k x cs fo->Ow h own' ok k x cs fo:=by
 intro k
 induction k with
 |int ik=>intro x cs fo _ H;exact H
 |bool=>intro x cs fo _ H;exact H
 |id e=>intro x cs fo _ H;exact H
 |str=>intro x cs fo _ H;exact H
 |sl e k ih=>
  intro x cs fo ht H
  unfold Ow at H ⊢
  rw[ht e (by simp[K.tys])]
  split
  ·rename_i hm
   rw[ak hm]at H
   obtain⟨a,n,c,e1,e2,e3,H⟩:=H
   refine⟨a,n,c,e1,e2,e3,?_⟩
   rcases H with H|⟨b,o,arr,lo,hi,ea,hb,hf,hs,au,hl,hp,H⟩
   ·exact .inl H
   ·refine .inr ⟨b,o,arr,lo,hi,ea,hb,hf,hs,au,hl,hp,λi hi=>?_⟩
    obtain⟨ds,h1,h2⟩:=H i hi
    exact⟨ds,h1,ih (λt ht'=>ht t (by simp[K.tys,ht'])) h2⟩
  ·rename_i hm
   rw[aj hm]at H
   exact H
 |unit=>intro x cs fo _ H;exact H
 |pair a b iha ihb=>
  intro x cs fo ht H
  obtain⟨c1,c2,f1,f2,e,hp,h1,h2⟩:=H
  exact⟨c1,c2,f1,f2,e,hp,iha (λt h=>ht t (by simp[K.tys,h])) h1,ihb (λt h=>ht t (by simp[K.tys,h])) h2⟩
 |st f ih=>intro x cs fo ht H;exact ih (x:=x) ht H
 |gap n=>intro x cs fo _ H;exact H
theorem yH{h:Heap}{own:List TypeId}{ok:Nat->Prop}:∀{k:K} {x:El k} {cs:List Value},(∀t∈k.tys,ah t own=false)->Vw h ok k x cs->Ow h own ok k x cs []:=by
 intro k
 induction k with
 |int ik=>intro x cs _ H;exact⟨rfl,H⟩
 |bool=>intro x cs _ H;exact⟨rfl,H⟩
 |id e=>intro x cs _ H;exact⟨rfl,H⟩
 |str=>intro x cs _ H;exact⟨rfl,H⟩
 |sl e k ih=>
  intro x cs ht H
  unfold Ow
  rw[aj (by rw[ht e (by simp[K.tys])];simp)]
  exact⟨rfl,H⟩
 |unit=>intro x cs _ H;exact⟨rfl,H⟩
 |pair a b iha ihb=>
  intro x cs ht H
  obtain⟨c1,c2,e,h1,h2⟩:=H
  exact⟨c1,c2,[],[],e,.refl _,iha (λt h=>ht t (by simp[K.tys,h])) h1,ihb (λt h=>ht t (by simp[K.tys,h])) h2⟩
 |st f ih=>intro x cs ht H;exact ih (x:=x) ht H
 |gap n=>intro x cs _ H;exact⟨rfl,H⟩
end
section
open Go
variable [Fr]
def bI:Nat->K->Option (Nat×K)
 |0,.pair a _=>some (0,a)
 |n+1,.pair a b=>match bI n b with
  |some (o,k)=>some (a.size+o,k)
  |none=>none
 |_,_=>none
def gZ(h:Heap)(b o n:Nat):List Value:=(List.range n).map λj=>(cellAt h b (o+j)).getD undef
theorem wC{h:Heap}{b o:Nat}{cs:List Value}(H:Cells h b o cs):gZ h b o cs.length=cs:=by
 unfold gZ
 apply Te
 ·simp
 ·intro i h1 h2
  simp[H i h2,gK h2]
def aN(h:Heap):List Stp->(k:K)->List Value->Option (Nat×Nat)->Option (List Value×Option (Nat×Nat))
 | [],_,cs,wh=>some (cs,wh)
 |.aP n :: p,.st c,cs,wh=>match bI n c with
  |some (off,k')=>aN h p k' ((cs.drop off).take k'.size) (wh.map λq=>(q.1,q.2+off))
  |none=>none
 |.idx i :: p,.sl _ k,cs,_=>match cs with
  | [.slice (some a) _ _]=>aN h p k (gZ h a.block (a.off+i.toNat*k.size) k.size) (some (a.block,a.off+i.toNat*k.size))
  |_=>none
 |_,_,_,_=>none
def bM:List Stp->(k:K)->El k->Prop
 | [],_,_=>True
 |.aP n :: p,.st c,x=>match aM n c x with
  |some d=>bM p d.1 d.2
  |none=>False
 |.idx i :: p,.sl _ k,xs=>0<=i/\i<((show List (El k)from xs).length:Int)/\bM p k ((show List (El k)from xs).getD i.toNat k.zero)
 |_,_,_=>False
def j_(h h':Heap)(b o n:Nat):Prop:=
 ∃arr fD e fr,h b=some (.cells arr e fr)/\h' b=some (.cells fD e fr)/\fD.size=arr.size/\∀i,¬(o<=i/\i<o+n)->fD[i]?=arr[i]?
theorem j_.of_same{h h':Heap}{b:Nat}(o n:Nat){arr:Array Value}{e:TypeId}{fr:Nat×Nat}(e1:h b=some (.cells arr e fr))(e2:h' b=h b):j_ h h' b o n:=
 ⟨arr,arr,e,fr,e1,e2.trans e1,rfl,λ_ _=>rfl⟩
theorem j_.cells{h h':Heap}{b o n o':Nat}{cs:List Value}(H:j_ h h' b o n)(hc:Cells h b o' cs)(hd:o'+cs.length<=o\/o+n<=o'):Cells h' b o' cs:=by
 obtain⟨arr,fD,e,fr,h1,h2,_,h3⟩:=H
 intro i hi
 have:=hc i hi
 unfold cellAt at this ⊢
 rw[h1]at this
 rw[h2]
 simp only at this ⊢
 rw[h3 _ (by omega)]
 exact this
theorem j_.cellAt{h h':Heap}{b o n:Nat}(H:j_ h h' b o n){i:Nat}(hi:¬(o<=i/\i<o+n)):cellAt h' b i=cellAt h b i:=by
 obtain⟨arr,fD,e,fr,h1,h2,_,h3⟩:=H
 unfold Ow.cellAt
 rw[h1,h2]
 exact h3 i hi
theorem Cells.append{h:Heap}{b o:Nat}{c1 c2:List Value}:Cells h b o (c1++c2)↔Cells h b o c1/\Cells h b (o+c1.length) c2:=by
 constructor
 ·intro H
  refine⟨λi hi=>?_,λi hi=>?_⟩
  ·rw[H i (by simp;omega),uo hi]
  ·have:=H (c1.length+i) (by simp;omega)
   rw[u7 (by omega)]at this
   rw[nO,this]
   congr 1
   omega
 ·rintro⟨H1,H2⟩ i hi
  by_cases h1:i<c1.length
  ·rw[H1 i h1,uo h1]
  ·have:=H2 (i-c1.length) (by simp at hi;omega)
   rw[u7 (by omega),<-this]
   congr 1
   omega
theorem BV{a b c:List Nat}:(a++(b++c)).Perm (b++(a++c)):=by
 rw[<-fH,<-fH]
 exact uY _ Lj
theorem Dn:∀(n:Nat) {c:K} {x:El c} {t z:Dat},dh n c x t=some z->aM n z.1 z.2=some t:=by
 intro n
 induction n with
 |zero=>
  intro c x t z h
  cases c with
  |pair a b=>simp only[dh,aa]at h;subst h;rfl
  |_=>simp[dh]at h
 |succ n ih=>
  intro c x t z h
  cases c with
  |pair a b=>
   simp only[dh]at h
   cases h2:dh n b x.2 t with
   |none=>rw[h2]at h;simp at h
   |some y=>rw[h2]at h;simp only[aa]at h;subst h;exact ih h2
  |_=>simp[dh]at h
theorem Ut:∀(n:Nat) {c:K} {x:El c} {s t z:Dat},aM n c x=some s->dh n c x t=some z->t.1=s.1->z.1=c:=by
 intro n
 induction n with
 |zero=>
  intro c x s t z hg h e
  cases c with
  |pair a b=>
   simp only[aM,aa]at hg
   simp only[dh,aa]at h
   subst hg;subst h
   simp only at e
   simp[e]
  |_=>simp[dh]at h
 |succ n ih=>
  intro c x s t z hg h e
  cases c with
  |pair a b=>
   simp only[aM]at hg
   simp only[dh]at h
   cases h2:dh n b x.2 t with
   |none=>rw[h2]at h;simp at h
   |some y=>rw[h2]at h;simp only[aa]at h;subst h;simp[ih hg h2 e]
  |_=>simp[dh]at h
theorem Mm:∀(n:Nat) {c:K} {x:El c} {t z:Dat} {off:Nat} {k':K},bI n c=some (off,k')->dh n c x t=some z->bI n z.1=some (off,t.1):=by
 intro n
 induction n with
 |zero=>
  intro c x t z off k' ho h
  cases c with
  |pair a b=>
   simp only[dh,aa]at h
   subst h
   simp only[bI,aa,bK]at ho ⊢
   exact⟨ho.1,trivial⟩
  |_=>simp[dh]at h
 |succ n ih=>
  intro c x t z off k' ho h
  cases c with
  |pair a b=>
   simp only[dh]at h
   cases h2:dh n b x.2 t with
   |none=>rw[h2]at h;simp at h
   |some y=>
    rw[h2]at h
    simp only[aa]at h
    subst h
    simp only[bI]at ho ⊢
    cases h3:bI n b with
    |none=>rw[h3]at ho;simp at ho
    |some q=>
     rw[h3]at ho
     simp only[gz,aa,bK]at ho
     rw[ih (k':=q.2) (off:=q.1) (by rw[h3]) h2]
     simp[<-ho.1]
  |_=>simp[dh]at h
theorem H8{h:Heap}{own:List TypeId}{ok:Nat->Prop}:∀(n:Nat) {c:K} {x:El c} {cs:List Value} {fo:List Nat} {d:Dat},
  Ow h own ok c x cs fo->aM n c x=some d->
   ∃off pre cs1 post aS fr,bI n c=some (off,d.1)/\cs=pre++(cs1++post)/\pre.length=off/\fo.Perm (aS++fr)/\Ow h own ok d.1 d.2 cs1 aS/\
    (∀(h':Heap) (ok':Nat->Prop) (t:Dat) (iG:List Value) (jW:List Nat) (z:Dat),dh n c x t=some z->Ow h' own ok' t.1 t.2 iG jW->
     (∀b,ok b->ok' b/\h' b=h b)->(∀b∈fr,h' b=h b)->Ow h' own ok' z.1 z.2 (pre++(iG++post)) (jW++fr))/\
    ∀m s2,m≠n->aM m c x=some s2->∃off2 cs2 xq,bI m c=some (off2,s2.1)/\(cs.drop off2).take s2.1.size=cs2/\Ow h own ok s2.1 s2.2 cs2 xq/\(∀b∈xq,b∈fr)/\
     (∀iG:List Value,iG.length=d.1.size->((pre++(iG++post)).drop off2).take s2.1.size=cs2)/\∀t z,dh n c x t=some z->aM m z.1 z.2=some s2:=by
 intro n
 induction n with
 |zero=>
  intro c x cs fo d H hg
  cases c with
  |pair a b=>
   simp only[aM,aa]at hg
   subst hg
   obtain⟨c1,c2,f1,f2,e,hp,h1,h2⟩:=H
   refine⟨0,[],c1,c2,f1,f2,rfl,by simpa using e,rfl,hp,h1,?_,?_⟩
   ·intro h' ok' t iG jW z hz ht hok hfr
    simp only[dh,aa]at hz
    subst hz
    exact⟨iG,c2,jW,f2,by simp,.refl _,ht,dK (λb hb=>(hok b hb).2) (λb hb=>(hok b hb).1) hfr h2⟩
   ·intro m s2 hm hg2
    cases m with
    |zero=>exact absurd rfl hm
    |succ m=>
     simp only[aM]at hg2
     have key:∀(m:Nat) {c:K} {x:El c} {cs:List Value} {fo:List Nat} {d:Dat},Ow h own ok c x cs fo->aM m c x=some d->
       ∃off cs1 aS,bI m c=some (off,d.1)/\(cs.drop off).take d.1.size=cs1/\(∀b∈aS,b∈fo)/\Ow h own ok d.1 d.2 cs1 aS:=by
      intro m
      induction m with
      |zero=>
       intro c x cs fo d H hg
       cases c with
       |pair a b=>
        simp only[aM,aa]at hg
        subst hg
        obtain⟨c1,c2,f1,f2,rfl,hp,h1,h2⟩:=H
        exact⟨0,c1,f1,rfl,by simp[<-eO h1],λb hb=>hp.mem_iff.2 (by simp[hb]),h1⟩
       |_=>simp[aM]at hg
      |succ m ih=>
       intro c x cs fo d H hg
       cases c with
       |pair a b=>
        simp only[aM]at hg
        obtain⟨c1,c2,f1,f2,rfl,hp,h1,h2⟩:=H
        obtain⟨off,cs1,aS,g1,g2,g3,g4⟩:=ih h2 hg
        refine⟨a.size+off,cs1,aS,by simp[bI,g1],?_,λb hb=>hp.mem_iff.2 (by simp[g3 b hb]),g4⟩
        rw[<-g2,<-eO h1,<-uZ]
        simp
       |_=>simp[aM]at hg
     obtain⟨off2,cs2,xq,g1,g2,g3,g4⟩:=key m h2 hg2
     refine⟨a.size+off2,cs2,xq,by simp[bI,g1],?_,g4,g3,?_,?_⟩
     ·rw[e,<-g2,<-eO h1,<-uZ];simp
     ·intro iG hl
      simp only at hl
      rw[<-g2,<-hl,<-uZ];simp
     ·intro t z hz
      simp only[dh,aa]at hz
      subst hz
      exact hg2
  |_=>simp[aM]at hg
 |succ n ih=>
  intro c x cs fo d H hg
  cases c with
  |pair a b=>
   simp only[aM]at hg
   obtain⟨c1,c2,f1,f2,e,hp,h1,h2⟩:=H
   obtain⟨off,pre,cs1,post,aS,fr,ho,ec,hl,hp',hd,hu,hoth⟩:=ih h2 hg
   refine⟨a.size+off,c1++pre,cs1,post,aS,f1++fr,?_,by rw[e,ec];simp,by simp[eO h1,hl],?_,hd,?_,?_⟩
   ·simp[bI,ho]
   ·exact(hp.trans (yC _ hp')).trans BV
   ·intro h' ok' t iG jW z hz ht hok hfr
    simp only[dh]at hz
    cases hz2:dh n b x.2 t with
    |none=>rw[hz2]at hz;simp at hz
    |some z2=>
     rw[hz2]at hz
     simp only[aa]at hz
     subst hz
     have r2:=hu h' ok' t iG jW z2 hz2 ht hok (λb hb=>hfr b (by simp[hb]))
     exact⟨c1,pre++(iG++post),f1,jW++fr,by simp,BV,dK (λb hb=>(hok b hb).2) (λb hb=>(hok b hb).1) (λb hb=>hfr b (by simp[hb])) h1,r2⟩
   ·intro m s2 hm hg2
    cases m with
    |zero=>
     simp only[aM,aa]at hg2
     subst hg2
     refine⟨0,c1,f1,rfl,by rw[e,<-eO h1];simp,h1,λb hb=>by simp[hb],λiG _=>by rw[<-eO h1];simp,?_⟩
     intro t z hz
     simp only[dh]at hz
     cases hz2:dh n b x.2 t with
     |none=>rw[hz2]at hz;simp at hz
     |some z2=>rw[hz2]at hz;simp only[aa]at hz;subst hz;rfl
    |succ m=>
     simp only[aM]at hg2
     obtain⟨off2,cs2,xq,g1,g2,g3,g4,g5,g6⟩:=hoth m s2 (by omega) hg2
     refine⟨a.size+off2,cs2,xq,by simp[bI,g1],?_,g3,λb hb=>by simp[g4 b hb],?_,?_⟩
     ·rw[e,<-g2,<-eO h1,<-uZ];simp
     ·intro iG hl'
      rw[<-g5 iG hl',<-eO h1,<-uZ];simp
     ·intro t z hz
      simp only[dh]at hz
      cases hz2:dh n b x.2 t with
      |none=>rw[hz2]at hz;simp at hz
      |some z2=>rw[hz2]at hz;simp only[aa]at hz;subst hz;exact g6 t z2 hz2
  |_=>simp[aM]at hg
theorem aem:∀(n:Nat) {c:K} {x:El c} {s u y:Dat},aM n c x=some s->dh n c x u=some y->u.1.size=s.1.size->y.1.size=c.size:=by
 intro n
 induction n with
 |zero=>
  intro c x s u y h1 h2 e
  cases c with
  |pair a b=>simp only[aM,dh,aa]at h1 h2;subst h1;subst h2;simp only at e;simp[K.size,e]
  |_=>simp[aM]at h1
 |succ n ih=>
  intro c x s u y h1 h2 e
  cases c with
  |pair a b=>
   simp only[aM,dh]at h1 h2
   cases h3:dh n b x.2 u with
   |none=>rw[h3]at h2;simp at h2
   |some y2=>rw[h3]at h2;simp only[aa]at h2;subst h2;simp[K.size,ih h1 h3 e]
  |_=>simp[aM]at h1
theorem Us:∀(n m:Nat) {c:K} {x:El c} {s u y:Dat} {off2:Nat} {k2:K},m≠n->aM n c x=some s->dh n c x u=some y->u.1.size=s.1.size->bI m c=some (off2,k2)->bI m y.1=some (off2,k2):=by
 intro n
 induction n with
 |zero=>
  intro m c x s u y off2 k2 hm h1 h2 e h3
  cases c with
  |pair a b=>
   simp only[aM,dh,aa]at h1 h2
   subst h1;subst h2
   cases m with
   |zero=>exact absurd rfl hm
   |succ m=>simp only[bI]at h3 ⊢;simp only at e;rw[e];exact h3
  |_=>simp[aM]at h1
 |succ n ih=>
  intro m c x s u y off2 k2 hm h1 h2 e h3
  cases c with
  |pair a b=>
   simp only[aM,dh]at h1 h2
   cases h4:dh n b x.2 u with
   |none=>rw[h4]at h2;simp at h2
   |some y2=>
    rw[h4]at h2
    simp only[aa]at h2
    subst h2
    cases m with
    |zero=>simp only[bI]at h3 ⊢;exact h3
    |succ m=>
     simp only[bI]at h3 ⊢
     cases h5:bI m b with
     |none=>rw[h5]at h3;simp at h3
     |some q=>
      rw[h5]at h3
      rw[ih m (off2:=q.1) (k2:=q.2) (by omega) h1 h4 e (by rw[h5])]
      exact h3
  |_=>simp[aM]at h1
theorem FR{pre cs1 post:List Value}{off n:Nat}(h1:pre.length=off)(h2:cs1.length=n):((pre++(cs1++post)).drop off).take n=cs1:=by
 subst h1;subst h2;simp
theorem mM{A:Type}{l:List A}{d:A}{i:Nat}(h:i<l.length):l.getD i d=l[i]:=by
 rw[gy,gK h];rfl
theorem Zx{au:List (List Nat)}{i:Nat}(h:i<au.length):au.flatten.Perm (au.getD i []++((au.take i).flatten++(au.drop (i+1)).flatten)):=by
 have e:au=au.take i++(au.getD i [] :: au.drop (i+1)):=by
  rw[mM h,<-wM h,Am]
 have:au.flatten=(au.take i).flatten++(au.getD i []++(au.drop (i+1)).flatten):=by
  rw[congrArg List.flatten e];simp
 rw[this]
 exact BV
theorem anu{au:List (List Nat)}{i:Nat}(h:i<au.length)(q:List Nat):(au.set i q).flatten.Perm (q++((au.take i).flatten++(au.drop (i+1)).flatten)):=by
 have h':i<(au.set i q).length:=by simpa using h
 have:=Zx h'
 rw[mM h',List.getElem_set_self]at this
 simpa[List.take_set_of_le,List.drop_set_of_lt]using this
theorem jK:∀(n:Nat) {c:K} {x:El c} {s:Dat},aM n c x=some s->az.jQ n c=some s.1:=by
 intro n
 induction n with
 |zero=>
  intro c x s e
  cases c with
  |pair a b=>simp only[aM,aa]at e;subst e;rfl
  |_=>simp[aM]at e
 |succ n ih=>
  intro c x s e
  cases c with
  |pair a b=>simp only[aM]at e;exact ih e
  |_=>simp[aM]at e
theorem P_{h h':Heap}{own:List TypeId}{ok:Nat->Prop}:∀(p:List Stp) {k:K} {x:El k} {cs:List Value} {fo:List Nat} {wh:Option (Nat×Nat)},
  Ow h own ok k x cs fo->bM p k x->(∀t∈az p k,ah t own=true)->(∀b∈fo,h' b=h b)->aN h' p k cs wh=aN h p k cs wh:=by
 intro p
 induction p with
 |nil=>intro k x cs fo wh _ _ _ _;rfl
 |cons s p ih=>
  intro k x cs fo wh H hin vS hfo
  cases s with
  |aP n=>
   cases k with
   |st c=>
    simp only[bM]at hin
    cases hcg:aM n c x with
    |none=>rw[hcg]at hin;exact hin.elim
    |some s=>
     rw[hcg]at hin
     obtain⟨off,pre,cs0,post,fK,fr,ho,ec,hl,hp,hd,_⟩:=H8 n (show Ow h own ok c x cs fo from H) hcg
     have hpt:az (.aP n :: p) (.st c)=az p s.1:=by simp[az,jK n hcg]
     rw[hpt]at vS
     simp only[aN]
     rw[ho]
     simp only
     rw[ec,FR hl (eO hd)]
     exact ih hd hin vS (λb hb=>hfo b (hp.mem_iff.2 (bP _ hb)))
   |_=>simp[bM]at hin
  |idx i=>
   cases k with
   |sl e k=>
    simp only[bM]at hin
    obtain⟨hi0,hi1,hin⟩:=hin
    have ahl:i<((@List.length (El k) x:Nat):Int):=hi1
    have hlt:i.toNat < @List.length (El k) x:=by omega
    have eg:(show List (El k)from x).getD i.toNat k.zero=(show List (El k)from x)[i.toNat]'hlt:=mM hlt
    rw[eg]at hin
    unfold Ow at H
    rw[ak (vS e (by simp[az]))]at H
    obtain⟨a,n,c,e1,e2,e3,H⟩:=H
    have e2':n=@List.length (El k) x:=e2
    rcases H with⟨h0,_⟩|⟨b,o,arr,lo,hi,ea,hb,hf,hs,au,hfl,hp,H⟩
    ·omega
    ·obtain⟨ds,hcd,hod⟩:=H i.toNat hlt
     have hbb:h' b=h b:=hfo b (hp.mem_iff.2 (by simp))
     have r1:=wC hcd
     have r2:=wC (hcd.congr hbb)
     rw[eO hod]at r1 r2
     subst e1
     subst ea
     simp only[aN]
     rw[r1,r2]
     exact ih hod hin (λt ht=>vS t (by simp[az,ht])) (λb' hb'=>hfo b' (hp.mem_iff.2 (by simp[tu hb'])))
   |_=>simp[bM]at hin
def G5(h h':Heap)(own:List TypeId)(k:K)(x:El k)(cs:List Value)(wh:Option (Nat×Nat))(z:Dat)(cs':List Value)(bad:List TypeId):Prop:=
 ∀q c0 w0,bM q k x->(∀t∈az q k,ah t own=true/\t∉bad)->aN h q k cs wh=some (c0,w0)->(aA q z.1 z.2).isSome=true->bM q z.1 z.2/\∃c1,aN h' q z.1 cs' wh=some (c1,w0)
structure Upd(h:Heap)(own:List TypeId)(ok:Nat->Prop)(p:List Stp)(k:K)(x:El k)(cs:List Value)(wh:Option (Nat×Nat))(d:Dat)(rest:List Nat)(cs1:List Value)(bZ:Option (Nat×Nat)):Prop where
 go:∀(h':Heap) (ok':Nat->Prop) (t:Dat) (iG:List Value) (jW:List Nat) (z:Dat),bJ p k x t=some z->iG.length=d.1.size->Ow h' own ok' t.1 t.2 iG jW->
  (∀b,ok b->ok' b/\h' b=h b)->(∀b∈rest,bZ.map (·.1)≠some b->h' b=h b)->
  (∀b o,bZ=some (b,o)->Cells h' b o iG/\j_ h h' b o d.1.size)->
  (bZ=none->iG=cs1)->(∀b o,wh=some (b,o)->bZ.map (·.1)≠some b->h' b=h b)->
  ∃cs',cs'.length=cs.length/\Ow h' own ok' z.1 z.2 cs' (jW++rest)/\(∀b o,wh=some (b,o)->Cells h' b o cs')/\(wh=none->cs'=cs)/\
   ∀bad,t.1.size=d.1.size->G5 h h' own d.1 d.2 cs1 bZ t iG bad->(t.1=d.1->z.1=k)/\z.1.size=k.size/\G5 h h' own k x cs wh z cs' bad/\aN h' p z.1 cs' wh=some (iG,bZ)
def CS(h:Heap)(own:List TypeId)(ok:Nat->Prop)(p:List Stp)(k:K)(x:El k)(cs:List Value)(fo:List Nat)(wh:Option (Nat×Nat))(d:Dat):Prop:=
 ∃cs1 aS rest bZ,aN h p k cs wh=some (cs1,bZ)/\fo.Perm (aS++rest)/\Ow h own ok d.1 d.2 cs1 aS/\(∀b o,bZ=some (b,o)->Cells h b o cs1)/\
  (∀b o,bZ=some (b,o)->(az p k=[]/\∃o0,wh=some (b,o0)/\o0<=o/\o+d.1.size<=o0+k.size)\/
   (b∈rest/\∃arr e lo hi,h b=some (.cells arr e (lo,hi))/\iE arr.size lo hi/\(az p k).getLast?=some e/\o+d.1.size<=arr.size))/\
  (bZ=none->wh=none)/\Upd h own ok p k x cs wh d rest cs1 bZ
theorem E9{wh:Option (Nat×Nat)}{off b o:Nat}(e:wh.map (λq=>(q.1,q.2+off))=some (b,o)):∃o0,wh=some (b,o0)/\o=o0+off:=by
 cases wh with
 |none=>simp at e
 |some q=>
  simp only[gz,aa,bK]at e
  exact⟨q.2,by rw[<-e.1],e.2.symm⟩
theorem af6{h:Heap}{own:List TypeId}{ok:Nat->Prop}{p:List Stp}{n:Nat}{c:K}{x:El c}{cs:List Value}{fo:List Nat}{wh:Option (Nat×Nat)}{s d:Dat}
  (H:Ow h own ok c x cs fo) (hc:∀b o,wh=some (b,o)->Cells h b o cs) (hcg:aM n c x=some s) (hnd:fo.Nodup) (hbase:∀b o,wh=some (b,o)->b∉fo)
  (ih:∀{cs0:List Value} {fK:List Nat} {uS:Option (Nat×Nat)},Ow h own ok s.1 s.2 cs0 fK->(∀b o,uS=some (b,o)->Cells h b o cs0)->fK.Nodup->(∀b o,uS=some (b,o)->b∉fK)->CS h own ok p s.1 s.2 cs0 fK uS d) :
  CS h own ok (.aP n :: p) (.st c) x cs fo wh d:=by
 obtain⟨off,pre,cs0,post,fK,fr,ho,ec,hl,hp,hd,hu,hoth⟩:=H8 n H hcg
 have hsz:=eO hd
 have hpt:az (.aP n :: p) (.st c)=az p s.1:=by simp[az,jK n hcg]
 have hnd':(fK++fr).Nodup:=hp.nodup hnd
 have hsub:(cs.drop off).take s.1.size=cs0:=by rw[ec];exact FR hl hsz
 have hlen:cs.length=c.size:=eO H
 have vQ:off+s.1.size+post.length=c.size:=by rw[<-hlen,ec];simp[hl,hsz];omega
 obtain⟨cs1,aS,rest,bZ,hn,hp1,hd1,hc1,hin1,hnone,hup⟩:=ih (uS:=wh.map λq=>(q.1,q.2+off)) hd
  (λb o e=>by
   obtain⟨o0,e1,rfl⟩:=E9 e
   have:=hc b o0 e1
   rw[ec,Cells.append,Cells.append]at this
   rw[<-hl]
   exact this.2.1) (dA.1 hnd').1
  (λb o e hb=>by
   obtain⟨o0,e1,rfl⟩:=E9 e
   exact hbase b o0 e1 (hp.mem_iff.2 (bP _ hb)))
 have ahc:∀b o,bZ=some (b,o)->b∉fr:=by
  intro b o e hb
  rcases hin1 b o e with⟨_,o0,ew,_⟩|⟨h1,_⟩
  ·obtain⟨o1,e1,_⟩:=E9 ew
   exact hbase b o1 e1 (hp.mem_iff.2 (bD _ hb))
  ·exact(dA.1 hnd').2.2 b (hp1.mem_iff.2 (bD _ h1)) b hb rfl
 refine⟨cs1,aS,rest++fr,bZ,?_,?_,hd1,hc1,?_,?_,⟨?_⟩⟩
 ·simp only[aN]
  rw[ho]
  simp only
  rw[hsub]
  exact hn
 ·rw[<-fH]
  exact hp.trans (uY _ hp1)
 ·intro b o e
  rw[hpt]
  rcases hin1 b o e with⟨h0,o0,ew,h1,h2⟩|⟨h1,h2⟩
  ·obtain⟨o1,e1,rfl⟩:=E9 ew
   refine .inl ⟨h0,o1,e1,by omega,?_⟩
   show o+d.1.size<=o1+c.size
   omega
  ·exact .inr ⟨bP _ h1,h2⟩
 ·intro e
  have:=hnone e
  cases wh with
  |none=>rfl
  |some q=>simp at this
 ·intro h' ok' t iG jW z hz hl' ht hok hrest hw hcs hb0
  simp only[bJ,hcg]at hz
  cases hs:bJ p s.1 s.2 t with
  |none=>rw[hs]at hz;simp at hz
  |some u=>
   rw[hs]at hz
   simp only at hz
   cases hcp:dh n c x u with
   |none=>rw[hcp]at hz;simp at hz
   |some y=>
    rw[hcp]at hz
    simp only[aa]at hz
    subst hz
    obtain⟨Ib,hl0,ho0,hc0,hn0,hnk⟩:=hup.go h' ok' t iG jW u hs hl' ht hok (λb hb=>hrest b (bP _ hb)) hw hcs
     (λb o e=>by
      obtain⟨o0,e1,_⟩:=E9 e
      exact hb0 b o0 e1)
    have hfr:∀b∈fr,h' b=h b:=by
     intro b hb
     refine hrest b (bD _ hb) ?_
     intro e
     cases fM:bZ with
     |none=>rw[fM]at e;simp at e
     |some q=>
      rw[fM]at e
      simp only[gz,aa]at e
      exact ahc q.1 q.2 fM (e▸hb)
    have r:=hu h' ok' u Ib (jW++rest) y hcp ho0 hok hfr
    refine⟨pre++(Ib++post),by rw[ec];simp[hl0],?_,?_,?_,?_⟩
    ·have r':Ow h' own ok' y.1 y.2 (pre++(Ib++post)) (jW++(rest++fr)):=by
      rw[show jW++(rest++fr)=jW++rest++fr from(fH ..).symm];exact r
     exact r'
    ·intro b o e
     have hwc:=hc b o e
     rw[ec,Cells.append,Cells.append]at hwc
     have hc0':=hc0 b (o+off) (by rw[e];rfl)
     rw[Cells.append,Cells.append,hl0,hsz,hl]
     have NU:=hwc.2.2
     rw[hsz,hl]at NU
     by_cases hbw:bZ.map (·.1)=some b
     ·cases fM:bZ with
      |none=>rw[fM]at hbw;simp at hbw
      |some q=>
       rw[fM]at hbw
       simp only[gz,aa]at hbw
       subst hbw
       have hsb:=(hw q.1 q.2 fM).2
       rcases hin1 q.1 q.2 fM with⟨_,o0,ew,g1,g2⟩|⟨h1,_⟩
       ·rw[e]at ew
        simp only[gz,aa,bK,true_and]at ew
        exact⟨hsb.cells hwc.1 (.inl (by omega)),hc0',hsb.cells NU (.inr (by omega))⟩
       ·exact absurd (hp.mem_iff.2 (bP _ (hp1.mem_iff.2 (bD _ h1)))) (hbase q.1 o e)
     ·have hbb:=hb0 b o e hbw
      exact⟨hwc.1.congr hbb,hc0',NU.congr hbb⟩
    ·intro e
     have:=hn0 (by rw[e];rfl)
     rw[this,ec]
    ·intro bad hkind lX
     obtain⟨n1,n3,n2,n4⟩:=hnk bad hkind lX
     refine⟨λe=>congrArg K.st (Ut n hcg hcp (n1 e)),(show y.1.size=c.size from aem n hcg hcp n3),?_,by
      show aN h' (.aP n :: p) (.st y.1) _ _=_
      simp only[aN]
      rw[Mm n ho hcp]
      simp only
      rw[FR hl (eO ho0)]
      exact n4⟩
     intro q c0 w0 hq D8 mP Bp
     cases q with
     |nil=>
      simp only[aN,aa,bK]at mP ⊢
      exact⟨trivial,_,rfl,mP.2⟩
     |cons sq q=>
      cases sq with
      |idx i=>simp[bM]at hq
      |aP m=>
       simp only[bM]at hq
       cases hg2:aM m c x with
       |none=>rw[hg2]at hq;exact hq.elim
       |some s2=>
        rw[hg2]at hq
        have ahJ:az (.aP m :: q) (.st c)=az q s2.1:=by simp[az,jK m hg2]
        rw[ahJ]at D8
        by_cases hmn:m=n
        ·subst hmn
         rw[hcg]at hg2
         simp only[aa]at hg2
         subst hg2
         simp only[aN]at mP
         rw[ho]at mP
         simp only at mP
         rw[hsub]at mP
         obtain⟨r1,c1,r2⟩:=n2 q c0 w0 hq D8 mP (by
          have:(aA (.aP m :: q) (.st y.1) y.2).isSome=true:=Bp
          simpa only[aA,Dn m hcp]using this)
         refine⟨?_,c1,?_⟩
         ·show bM (.aP m :: q) (.st y.1) y.2
          simp only[bM,Dn m hcp]
          exact r1
         ·show aN h' (.aP m :: q) (.st y.1) _ _=_
          simp only[aN]
          rw[Mm m ho hcp]
          simp only
          rw[FR hl (eO ho0)]
          exact r2
        ·obtain⟨off2,cs2,xq,g1,g2,g3,g4,g5,g6⟩:=hoth m s2 hmn hg2
         simp only[aN]at mP
         rw[g1]at mP
         simp only at mP
         rw[g2]at mP
         have g7:=g6 u y hcp
         refine⟨?_,c0,?_⟩
         ·show bM (.aP m :: q) (.st y.1) y.2
          simp only[bM,g7]
          exact hq
         ·show aN h' (.aP m :: q) (.st y.1) _ _=_
          simp only[aN]
          rw[Us n m hmn hcg hcp n3 g1]
          simp only
          rw[g5 Ib (by rw[hl0,hsz]),<-mP]
          exact P_ q g3 hq (λt ht=>(D8 t ht).1) (λb hb=>hfr b (g4 b hb))
theorem af7{h:Heap}{own:List TypeId}{ok:Nat->Prop}{p:List Stp}{i:Int}{e:TypeId}{k:K}{xs:List (El k)}{cs:List Value}{fo:List Nat}{wh:Option (Nat×Nat)}{d:Dat}
  (H:Ow h own ok (.sl e k) xs cs fo) (hc:∀b o,wh=some (b,o)->Cells h b o cs) (hnd:fo.Nodup) (hbase:∀b o,wh=some (b,o)->b∉fo) (hmem:ah e own=true) (hlt:i.toNat<xs.length)
  (ih:∀{cs0:List Value} {fK:List Nat} {uS:Option (Nat×Nat)},Ow h own ok k xs[i.toNat] cs0 fK->(∀b o,uS=some (b,o)->Cells h b o cs0)->fK.Nodup->(∀b o,uS=some (b,o)->b∉fK)->CS h own ok p k xs[i.toNat] cs0 fK uS d) :
  CS h own ok (.idx i :: p) (.sl e k) xs cs fo wh d:=by
 unfold Ow at H
 rw[ak hmem]at H
 obtain⟨a,n,c,e1,e2,e3,H⟩:=H
 have e2':n=xs.length:=e2
 rcases H with⟨h0,_⟩|⟨b,o,arr,lo,hi,ea,hb,hf,agU,au,hfl,hp,H⟩
 ·omega
 have ag5:au.length=xs.length:=hfl
 obtain⟨ds,hcd,hod⟩:=H i.toNat hlt
 have hnd':(b :: au.flatten).Nodup:=hp.nodup hnd
 have hnb:b∉au.flatten:=(jB.1 hnd').1
 have hpk:=Zx (au:=au) (i:=i.toNat) (by omega)
 have kU:=hpk.nodup (jB.1 hnd').2
 obtain⟨cs1,aS,rest,bZ,hn,hp1,hd1,hc1,hin1,hnone,hup⟩:=ih (uS:=some (b,o+i.toNat*k.size)) hod
  (λb' o' e'=>by
   simp only[aa,bK]at e'
   obtain⟨rfl,rfl⟩:=e'
   exact hcd) (dA.1 kU).1
  (λb' o' e' hb'=>by
   simp only[aa,bK]at e'
   obtain⟨rfl,rfl⟩:=e'
   exact hnb (tu hb'))
 have hdl:ds.length=k.size:=eO hod
 have hwn:bZ≠none:=λe'=>by have:=hnone e';simp at this
 generalize hR:(au.take i.toNat).flatten++(au.drop (i.toNat+1)).flatten=R at *
 have hcap:i.toNat*k.size+k.size<=c*k.size:=by
  have:(i.toNat+1)*k.size<=c*k.size:=jC _ (by omega)
  rw[gX,kZ]at this
  exact this
 refine⟨cs1,aS,b :: (rest++R),bZ,?_,?_,hd1,hc1,?_,λe'=>absurd e' hwn,⟨?_⟩⟩
 ·subst e1
  subst ea
  simp only[aN]
  have:gZ h b (o+i.toNat*k.size) k.size=ds:=by
   have:=wC hcd
   rwa[hdl]at this
  rw[this]
  exact hn
 ·refine(hp.trans (.cons b (hpk.trans (uY _ hp1)))).trans ?_
  rw[fH]
  exact List.perm_middle.symm
 ·intro b' o' e'
  rcases hin1 b' o' e' with⟨hz,o0,ew,h1,h2⟩|⟨h1,fD,e'',lo',hi',g1,g2,g3,g4⟩
  ·simp only[aa,bK]at ew
   obtain⟨rfl,rfl⟩:=ew
   exact .inr ⟨jl,arr,e,lo,hi,hb,hf,by simp[az,hz],by omega⟩
  ·refine .inr ⟨by simp[h1],fD,e'',lo',hi',g1,g2,?_,g4⟩
   simp only[az,List.getLast?_cons,g3,sF]
 ·intro h' ok' t iG jW z hz hl' ht hok hrest hw hcs hb0
  simp only[bJ]at hz
  rw[mM hlt]at hz
  cases hs:bJ p k xs[i.toNat] t with
  |none=>rw[hs]at hz;simp at hz
  |some u=>
   rw[hs]at hz
   simp only at hz
   cases hck:bR u.1 k u.2 with
   |none=>rw[hck]at hz;simp at hz
   |some y=>
    rw[hck]at hz
    simp only[aa]at hz
    subst hz
    obtain⟨uk,ux⟩:=u
    unfold bR at hck
    split at hck
    case isFalse=>simp at hck
    rename_i hbq
    have hk:=K.eq_of_beq hbq
    simp only at hk
    subst hk
    simp only[aa]at hck
    subst hck
    have hwb:∀q,bZ=some q->q.1∉R:=by
     intro q hq Wm
     rcases hin1 q.1 q.2 hq with⟨_,o0,ew,_⟩|⟨h1,_⟩
     ·simp only[aa,bK]at ew
      exact hnb (hpk.mem_iff.2 (bD _ (ew.1▸Wm)))
     ·exact(dA.1 kU).2.2 q.1 (hp1.mem_iff.2 (bD _ h1)) q.1 Wm rfl
    obtain⟨ds',hl0,ho0,hc0,_,hnk⟩:=hup.go h' ok' t iG jW ⟨uk,ux⟩ hs hl' ht hok (λb' hb'=>hrest b' (by simp[hb'])) hw hcs
     (λb' o' e' hne=>by
      simp only[aa,bK]at e'
      obtain⟨rfl,rfl⟩:=e'
      exact hrest b jl hne)
    have agv:∀b'∈R,h' b'=h b':=by
     intro b' hb'
     refine hrest b' (by simp[hb']) ?_
     intro e'
     cases fM:bZ with
     |none=>exact absurd fM hwn
     |some q=>
      rw[fM]at e'
      simp only[gz,aa]at e'
      exact hwb q fM (e'▸hb')
    have hblk:∃fD,h' b=some (.cells fD e (lo,hi))/\fD.size=arr.size/\∀j,¬(o+i.toNat*uk.size<=j/\j<o+i.toNat*uk.size+uk.size)->fD[j]?=arr[j]?:=by
     by_cases hbw:bZ.map (·.1)=some b
     ·cases fM:bZ with
      |none=>exact absurd fM hwn
      |some q=>
       rw[fM]at hbw
       simp only[gz,aa]at hbw
       obtain⟨a1,a2,te,fr,g1,g2,g3,g4⟩:=(hw q.1 q.2 fM).2
       rw[hbw]at g1 g2
       rw[hb]at g1
       simp only[aa,Obj.cells.injEq]at g1
       obtain⟨rfl,rfl,rfl⟩:=g1
       rcases hin1 q.1 q.2 fM with⟨_,o0,ew,h1,h2⟩|⟨h1,_⟩
       ·simp only[aa,bK]at ew
        refine⟨a2,g2,g3,λj hj=>g4 j ?_⟩
        intro hj2
        exact hj (by omega)
       ·exact absurd (hpk.mem_iff.2 (bP _ (hp1.mem_iff.2 (bD _ (hbw▸h1))))) hnb
     ·have:=hrest b jl hbw
      exact⟨arr,this.trans hb,rfl,λ_ _=>rfl⟩
    obtain⟨fD,hb',hsz',hsame⟩:=hblk
    have hmul:∀a b:Nat,a<b->a*uk.size+uk.size<=b*uk.size:=by
     intro a b hab
     have:(a+1)*uk.size<=b*uk.size:=jC _ (by omega)
     rwa[gX,kZ]at this
    have V9:∀(j:Nat) (dj:List Value),j≠i.toNat->dj.length=uk.size->Cells h b (o+j*uk.size) dj->Cells h' b (o+j*uk.size) dj:=by
     intro j dj hji hjl h1 q hq
     have:=h1 q hq
     unfold cellAt at this ⊢
     rw[hb]at this
     rw[hb']
     simp only at this ⊢
     rw[hsame _ (by
      rcases Nat.lt_or_gt_of_ne hji with hlt'|VS
      ·have:=hmul j i.toNat hlt';omega
      ·have:=hmul i.toNat j VS;omega)]
     exact this
    have V_:∀j,j≠i.toNat->∀q∈au.getD j [],h' q=h q:=by
     intro j hji q hq
     refine agv q ?_
     rw[<-hR]
     by_cases hjf:j<au.length
     ·rw[gy,gK hjf]at hq
      simp only[sF]at hq
      rcases Nat.lt_or_gt_of_ne hji with hlt'|VS
      ·exact bP _ (GV.2 ⟨au[j],List.mem_take_iff_getElem.2 ⟨j,by omega,rfl⟩,hq⟩)
      ·refine bD _ (GV.2 ⟨au[j],List.mem_drop_iff_getElem.2 ⟨j-(i.toNat+1),by omega,?_⟩,hq⟩)
       congr 1
       omega
     ·rw[gy,qD (by omega)]at hq
      simp at hq
    refine⟨cs,rfl,?_,?_,λ_=>rfl,?_⟩
    ·unfold Ow
     rw[ak hmem]
     refine⟨a,n,c,e1,by rw[e2'];simp,e3,.inr ⟨b,o,fD,lo,hi,ea,hb',by rw[hsz'];exact hf,by rw[hsz'];exact agU,au.set i.toNat (jW++rest),by simp[ag5],?_,?_⟩⟩
     ·have:=anu (au:=au) (i:=i.toNat) (by omega) (jW++rest)
      rw[hR,fH]at this
      exact(List.perm_middle.trans (.cons b this.symm))
     ·intro j hj
      have hj':j<xs.length:=by simpa using hj
      by_cases hji:j=i.toNat
      ·subst hji
       refine⟨ds',hc0 b _ rfl,?_⟩
       have e1:(xs.set i.toNat ux)[i.toNat]'(by simpa using hj')=ux:=by simp
       have e2:(au.set i.toNat (jW++rest)).getD i.toNat []=jW++rest:=by
        rw[mM (by simp;omega)];simp
       rw[e2]
       show Ow h' own ok' uk ((xs.set i.toNat ux)[i.toNat]'(by simpa using hj')) ds' _
       rw[e1]
       exact ho0
      ·obtain⟨dj,h1,h2⟩:=H j hj'
       have hjl:dj.length=uk.size:=eO h2
       refine⟨dj,V9 j dj hji hjl h1,?_⟩
       have e1:(xs.set i.toNat ux)[j]'(by simpa using hj')=xs[j]:=by
        rw[List.getElem_set_ne (by omega)]
       have e2:(au.set i.toNat (jW++rest)).getD j []=au.getD j []:=by
        rw[gy,gy,List.getElem?_set_ne (by omega)]
       rw[e2]
       show Ow h' own ok' uk ((xs.set i.toNat ux)[j]'(by simpa using hj')) dj _
       rw[e1]
       exact dK (λb hb=>(hok b hb).2) (λb hb=>(hok b hb).1) (V_ j hji) h2
    ·intro b' o' e'
     have hcb:=hc b' o' e'
     by_cases hbw:bZ.map (·.1)=some b'
     ·cases fM:bZ with
      |none=>exact absurd fM hwn
      |some q=>
       rw[fM]at hbw
       simp only[gz,aa]at hbw
       have hbf:=hbase b' o' e'
       rcases hin1 q.1 q.2 fM with⟨_,o0,ew,_⟩|⟨h1,_⟩
       ·simp only[aa,bK]at ew
        exact absurd (hp.mem_iff.2 (by rw[<-hbw,<-ew.1];exact jl)) hbf
       ·exact absurd (hp.mem_iff.2 (ji _ (hpk.mem_iff.2 (bP _ (hp1.mem_iff.2 (bD _ (hbw▸h1))))))) hbf
     ·exact hcb.congr (hb0 b' o' e' hbw)
    ·intro bad hkind lX
     obtain⟨_,_,n2,n4⟩:=hnk bad hkind lX
     refine⟨λ_=>rfl,rfl,?_,by
      subst e1
      subst ea
      simp only[aN]
      have hr':gZ h' b (o+i.toNat*uk.size) uk.size=ds':=by
       have:=wC (hc0 b _ rfl)
       rwa[hl0,hdl]at this
      rw[hr']
      exact n4⟩
     intro q c0 w0 hq D8 mP Bp
     cases q with
     |nil=>exact⟨trivial,_,by rw[<-(show(cs,wh)=(c0,w0)from by simpa[aN]using mP)];rfl⟩
     |cons sq q=>
      cases sq with
      |aP m=>simp[bM]at hq
      |idx j=>
       simp only[bM]at hq
       obtain⟨hj0,hj1,hq⟩:=hq
       have ahm:j<(xs.length:Int):=hj1
       have hjl:j.toNat<xs.length:=by omega
       have ejx:(show List (El uk)from xs).getD j.toNat uk.zero=xs[j.toNat]:=mM hjl
       rw[ejx]at hq
       subst e1
       subst ea
       simp only[aN]at mP
       have Wn:∀t∈az q uk,ah t own=true/\t∉bad:=λt ht=>D8 t (by simp[az,ht])
       have hln:j<((xs.set i.toNat ux).length:Int):=by simpa using ahm
       by_cases hji:j.toNat=i.toNat
       ·have hr:gZ h b (o+j.toNat*uk.size) uk.size=ds:=by
         rw[hji]
         have:=wC hcd
         rwa[hdl]at this
        rw[hr,hji]at mP
        have hq':bM q uk xs[i.toNat]:=by
         have:xs[j.toNat]=xs[i.toNat]:=by congr 1
         rw[<-this];exact hq
        obtain⟨r1,c1,r2⟩:=n2 q c0 w0 hq' Wn mP (by
         have:(aA (.idx j :: q) (.sl e uk) (xs.set i.toNat ux)).isSome=true:=Bp
         simp only[aA]at this
         have e3:(show List (El uk)from xs.set i.toNat ux).getD j.toNat uk.zero=ux:=by
          rw[hji,mM (by simpa using hlt)];simp
         rw[e3]at this
         exact this)
        refine⟨⟨hj0,hln,?_⟩,c1,?_⟩
        ·have:(show List (El uk)from xs.set i.toNat ux).getD j.toNat uk.zero=ux:=by
          rw[hji,mM (by simpa using hlt)];simp
         rw[this]
         exact r1
        ·simp only[aN]
         have hr':gZ h' b (o+j.toNat*uk.size) uk.size=ds':=by
          rw[hji]
          have:=wC (hc0 b _ rfl)
          rwa[hl0,hdl]at this
         rw[hr',hji]
         exact r2
       ·obtain⟨dj,h1,h2⟩:=H j.toNat hjl
        have Nu:dj.length=uk.size:=eO h2
        have hr:gZ h b (o+j.toNat*uk.size) uk.size=dj:=by
         have:=wC h1
         rwa[Nu]at this
        have hr':gZ h' b (o+j.toNat*uk.size) uk.size=dj:=by
         have:=wC (V9 j.toNat dj hji Nu h1)
         rwa[Nu]at this
        rw[hr]at mP
        refine⟨⟨hj0,hln,?_⟩,c0,?_⟩
        ·have:(show List (El uk)from xs.set i.toNat ux).getD j.toNat uk.zero=xs[j.toNat]:=by
          rw[mM (by simpa using hjl),List.getElem_set_ne (by omega)]
         rw[this]
         exact hq
        ·simp only[aN]
         rw[hr',<-mP]
         exact P_ q h2 hq (λt ht=>(Wn t ht).1) (V_ j.toNat hji)
theorem focus{h:Heap}{own:List TypeId}{ok:Nat->Prop}:∀(p:List Stp) {k:K} {x:El k} {cs:List Value} {fo:List Nat} {wh:Option (Nat×Nat)} {d:Dat},
  Ow h own ok k x cs fo->(∀b o,wh=some (b,o)->Cells h b o cs)->aA p k x=some d->bM p k x->(∀t∈az p k,ah t own=true)->fo.Nodup->(∀b o,wh=some (b,o)->b∉fo)->
   CS h own ok p k x cs fo wh d:=by
 intro p
 induction p with
 |nil=>
  intro k x cs fo wh d H hc hg _ _ _ _
  simp only[aA,aa]at hg
  subst hg
  refine⟨cs,fo,[],wh,rfl,by simp,H,hc,λb o e=>.inl ⟨rfl,o,e,bT _,bT _⟩,id,⟨?_⟩⟩
  intro h' ok' t iG jW z hz hl ht _ _ hw hn _
  simp only[bJ,aa]at hz
  subst hz
  exact⟨iG,by rw[hl,eO H],by simpa using ht,λb o e=>(hw b o e).1,hn,λbad hk lX=>⟨id,hk,lX,rfl⟩⟩
 |cons s p ih=>
  intro k x cs fo wh d H hc hg hin vS hnd hbase
  cases s with
  |aP n=>
   cases k with
   |st c=>
    simp only[aA]at hg
    cases hcg:aM n c x with
    |none=>rw[hcg]at hg;simp at hg
    |some s=>
     rw[hcg]at hg
     simp only at hg
     simp only[bM,hcg]at hin
     have hpt:az (.aP n :: p) (.st c)=az p s.1:=by simp[az,jK n hcg]
     rw[hpt]at vS
     exact af6 (show Ow h own ok c x cs fo from H) hc hcg hnd hbase (λH0 hc0 oI hb0=>ih H0 hc0 hg hin vS oI hb0)
   |_=>simp[aA]at hg
  |idx i=>
   cases k with
   |sl e k=>
    simp only[aA]at hg
    simp only[bM]at hin
    obtain⟨hi0,hi1,hin⟩:=hin
    have ahl:i<((@List.length (El k) x:Nat):Int):=hi1
    have hlt:i.toNat < @List.length (El k) x:=by omega
    have eg:(show List (El k)from x).getD i.toNat k.zero=(show List (El k)from x)[i.toNat]'hlt:=mM hlt
    rw[eg]at hin hg
    exact af7 (xs:=x) H hc hnd hbase (vS e (by simp[az])) hlt (λH0 hc0 oI hb0=>ih H0 hc0 hg hin (λt ht=>vS t (by simp[az,ht])) oI hb0)
   |_=>simp[aA]at hg
end
section
open Go
variable [Fr]
def Prog.ends{J:Type}:Prog J->St->J->Prop
 |.ret a,_,x=>x=a
 |.fail,_,_=>False
 |.slot n k,Z,x=>(k (Z.slots n)).ends Z x
 |.root r k,Z,x=>(k (Z.roots r)).ends Z x
 |.dO c _ k,Z,x=>c/\k.ends Z x
 |.br c t e,Z,x=>(c=true/\t.ends Z x)\/(c=false/\e.ends Z x)
 |.opt _ o k,Z,x=>∃b,o=some b/\(k b).ends Z x
theorem xP{J R:Type}(p:Prog J){Z:St}{K:J->Option R}{r:R}(h:p.run Z K=some r):∃x,p.ends Z x/\K x=some r:=by
 induction p with
 |ret a=>exact⟨a,rfl,h⟩
 |fail=>simp[Prog.run]at h
 |slot n k ih=>exact ih _ h
 |root n k ih=>exact ih _ h
 |dO c d k ih=>
  simp only[Prog.run]at h
  split at h
  ·rename_i hc
   obtain⟨x,h1,h2⟩:=ih h
   exact⟨x,⟨hc,h1⟩,h2⟩
  ·simp at h
 |br c t e pF pE=>
  simp only[Prog.run]at h
  split at h
  ·rename_i hc
   obtain⟨x,h1,h2⟩:=pF h
   exact⟨x,.inl ⟨hc,h1⟩,h2⟩
  ·rename_i hc
   obtain⟨x,h1,h2⟩:=pE h
   exact⟨x,.inr ⟨by simpa using hc,h1⟩,h2⟩
 |opt β o k ih=>
  simp only[Prog.run]at h
  cases ho:o with
  |none=>rw[ho]at h;simp at h
  |some b=>
   rw[ho]at h
   obtain⟨x,h1,h2⟩:=ih b h
   exact⟨x,⟨b,rfl,h1⟩,h2⟩
def dI:K->List Value
 |.int ik=>[.int ik 0]
 |.bool=>[.bool false]
 |.str=>[.string ByteArray.empty]
 |.sl _ _=>[.slice none 0 0]
 |.id _=>[.slice none 0 0]
 |.unit=>[]
 |.pair a b=>dI a++dI b
 |.st f=>dI f
 |.gap _=>[]
def iK:K->Value
 |.st f=>.agg (dI f).toArray
 |.int ik=>.int ik 0
 |.bool=>.bool false
 |.str=>.string ByteArray.empty
 |.sl _ _=>.slice none 0 0
 |.id _=>.slice none 0 0
 |_=>undef
def qA(P:Program)(t:TypeId)(k:K):Prop:=∃i,P.info? t=some i/\i.size=k.size/\i.zero=some (iK k)
def iV(P:Program)(T:bF):K->(TypeId->Prop)×(List Field->Nat->Prop)
 |.int ik=>(λt=>P.underlying t=some (.int ik)/\qA P t (.int ik),λ_ _=>False)
 |.bool=>(λt=>P.underlying t=some .bool/\qA P t .bool,λ_ _=>False)
 |.str=>(λt=>P.underlying t=some .string/\qA P t .str,λ_ _=>False)
 |.sl e k=>(λt=>P.underlying t=some (.slice e)/\qA P t (.sl e k)/\(iV P T k).1 e/\0<k.size/\∃i,P.info? e=some i/\i.bytes=T.bytes e/\0<i.bytes,λ_ _=>False)
 |.unit=>(λ_=>False,λfs _=>fs=[])
 |.pair a b=>(λ_=>False,λfs off=>match fs with
  | []=>False
  |f :: fs=>f.offset=off/\(iV P T a).1 f.type/\0<a.size/\(iV P T b).2 fs (off+a.size))
 |.st c=>(λt=>(∃fs,P.underlying t=some (.struct fs)/\(iV P T c).2 fs.toList 0)/\qA P t (.st c),λ_ _=>False)
 |.gap _=>(λ_=>False,λ_ _=>False)
 |.id e=>(λt=>P.underlying t=some (.slice e)/\qA P t (.id e)/\T.ids=true,λ_ _=>False)
def cK(P:Program)(T:bF)(t:TypeId)(k:K):Prop:=(iV P T k).1 t
structure eG(P:Program)(T:bF):Prop where
 ty:∀t k,T.ty t=some k->cK P T t k
 ptr:∀t,T.ptr t=true->∃e,P.underlying t=some (.pointer e)
theorem cK.info{P:Program}{T:bF}{t:TypeId}{k:K}(h:cK P T t k):qA P t k:=by
 unfold cK iV at h
 cases k with
 |int ik=>exact h.2
 |bool=>exact h.2
 |id e=>exact h.2.1
 |str=>exact h.2
 |sl e k=>exact h.2.1
 |unit=>exact h.elim
 |pair a b=>exact h.elim
 |st c=>exact h.2
 |gap n=>exact h.elim
def VC(k:K)(v:Value)(cs:List Value):Prop:=match k with
 |.st _=>v=.agg cs.toArray
 |_=>cs=[v]/\∀x,v≠.agg x
theorem VC.cells{k:K}{v:Value}{cs:List Value}(h:VC k v cs):v.cells.toList=cs:=by
 unfold VC at h
 split at h
 ·subst h;simp[Value.cells]
 ·obtain⟨rfl,hn⟩:=h
  cases v<;>first|rfl|(exact absurd rfl (hn _))
def jL:K->Bool
 |.st _=>true
 |_=>false
theorem cK.isAgg{P:Program}{T:bF}{t:TypeId}{k:K}(h:cK P T t k)(w:World):(Go.isAgg t).run P w=.ok (jL k) w:=by
 unfold cK iV at h
 cases k with
 |int ik=>simp[Go.isAgg,gu h.1,jL]
 |bool=>simp[Go.isAgg,gu h.1,jL]
 |id e=>simp[Go.isAgg,gu h.1,jL]
 |str=>simp[Go.isAgg,gu h.1,jL]
 |sl e k=>simp[Go.isAgg,gu h.1,jL]
 |unit=>exact h.elim
 |pair a b=>exact h.elim
 |st c=>obtain⟨⟨fs,h1,_⟩,_⟩:=h;simp[Go.isAgg,gu h1,jL]
 |gap n=>exact h.elim
theorem qA.sizeOf{P:Program}{t:TypeId}{k:K}(h:qA P t k)(w:World):(Go.sizeOf t).run P w=.ok k.size w:=by
 obtain⟨i,h1,h2,_⟩:=h
 simp[Go.sizeOf,run_typeInfo w h1,h2]
theorem qA.zero{P:Program}{t:TypeId}{k:K}(h:qA P t k)(w:World):(Go.zeroValue t).run P w=.ok (iK k) w:=by
 obtain⟨i,h1,_,h3⟩:=h
 simp[Go.zeroValue,run_typeInfo w h1,h3]
theorem addr_add(b o n:Nat):(⟨b,o,none⟩:Addr).add n=⟨b,o+n,none⟩:=by unfold Addr.add;split<;>simp_all
theorem Ce{P:Program}{T:bF}{t:TypeId}{k:K}{w:World}{b o:Nat}{cs:List Value}{v:Value}(h:cK P T t k)(hc:Cells (hp w) b o cs)(hl:cs.length=k.size)(hv:VC k v cs) :
  (Instr.loadAt t (.pointer (some ⟨b,o,none⟩))).run P w=.ok v w:=by
 have hcell:∀j u,cs[j]?=some u->w.cell? ((⟨b,o,none⟩:Addr).add j)=some u:=by
  intro j u hj
  rw[addr_add,uC,hc j (nL.1 hj).1]
  exact hj
 unfold Instr.loadAt Instr.sureAddr loadVar
 simp only[dG,dW,Result.andThen,h.isAgg w]
 cases k with
 |st c=>
  have e:v=.agg cs.toArray:=hv
  have h2:=run_loadCells_list (P:=P) w ⟨b,o,none⟩ cs hcell
  rw[hl]at h2
  simp[jL,h.info.sizeOf w,h2,Result.andThen,e]
 |unit=>exact(show False from h).elim
 |pair a b=>exact(show False from h).elim
 |gap n=>exact(show False from h).elim
 |int ik=>
  obtain⟨e,_⟩:cs=[v]/\_:=hv
  have:=hcell 0 v (by rw[e];rfl)
  rw[addr_add,lN]at this
  simp[jL,this]
 |bool=>
  obtain⟨e,_⟩:cs=[v]/\_:=hv
  have:=hcell 0 v (by rw[e];rfl)
  rw[addr_add,lN]at this
  simp[jL,this]
 |id e=>
  obtain⟨e,_⟩:cs=[v]/\_:=hv
  have:=hcell 0 v (by rw[e];rfl)
  rw[addr_add,lN]at this
  simp[jL,this]
 |str=>
  obtain⟨e,_⟩:cs=[v]/\_:=hv
  have:=hcell 0 v (by rw[e];rfl)
  rw[addr_add,lN]at this
  simp[jL,this]
 |sl e k=>
  obtain⟨e,_⟩:cs=[v]/\_:=hv
  have:=hcell 0 v (by rw[e];rfl)
  rw[addr_add,lN]at this
  simp[jL,this]
def fq:K->Bool
 |.gap _=>false
 |.pair a b=>fq a&&fq b
 |.st f=>fq f
 |_=>true
theorem iV.fq{P:Program}{T:bF}:∀{k:K},(∀t,(iV P T k).1 t->Ow.fq k=true)/\(∀fs off,(iV P T k).2 fs off->Ow.fq k=true):=by
 intro k
 induction k with
 |int ik=>exact⟨λ_ _=>rfl,λ_ _ h=>h.elim⟩
 |bool=>exact⟨λ_ _=>rfl,λ_ _ h=>h.elim⟩
 |id e=>exact⟨λ_ _=>rfl,λ_ _ h=>h.elim⟩
 |str=>exact⟨λ_ _=>rfl,λ_ _ h=>h.elim⟩
 |sl e k ih=>exact⟨λ_ _=>rfl,λ_ _ h=>h.elim⟩
 |unit=>exact⟨λ_ h=>h.elim,λ_ _ _=>rfl⟩
 |pair a b iha ihb=>
  refine⟨λ_ h=>h.elim,λfs off h=>?_⟩
  cases fs with
  |nil=>exact h.elim
  |cons f fs=>simp[Ow.fq,iha.1 _ h.2.1,ihb.2 _ _ h.2.2.2]
 |st f ih=>exact⟨λt h=>by obtain⟨⟨fs,_,h⟩,_⟩:=h;exact ih.2 _ _ h,λ_ _ h=>h.elim⟩
 |gap n=>exact⟨λ_ h=>h.elim,λ_ _ h=>h.elim⟩
theorem cK.fq{P:Program}{T:bF}{t:TypeId}{k:K}(h:cK P T t k):Ow.fq k=true:=iV.fq.1 t h
theorem Ho{h:Heap}{ok:Nat->Prop}:∀{k:K} {x:El k} {cs:List Value},fq k=true->Vw h ok k x cs->∀v∈cs,v.oneCell'=true:=by
 intro k
 induction k with
 |int ik=>intro x cs _ H v hv;rw[H.1]at hv;simp at hv;subst hv;rfl
 |bool=>intro x cs _ H v hv;rw[show cs=_ from H]at hv;simp at hv;subst hv;rfl
 |id e=>intro x cs _ H v hv;rw[show cs=_ from H]at hv;simp only[gW]at hv;subst hv;obtain⟨a,n,c,h⟩:=Fr.WA x;rw[h];rfl
 |str=>intro x cs _ H v hv;obtain⟨B,rfl,_⟩:=H;simp at hv;subst hv;rfl
 |sl e k ih=>intro x cs _ H v hv;obtain⟨a,n,c,rfl,_⟩:=H;simp at hv;subst hv;rfl
 |unit=>intro x cs _ H v hv;rw[show cs=_ from H]at hv;simp at hv
 |pair a b iha ihb=>
  intro x cs hg H v hv
  simp[fq]at hg
  obtain⟨c1,c2,rfl,h1,h2⟩:=H
  rcases cZ.1 hv with h|h
  ·exact iha hg.1 h1 v h
  ·exact ihb hg.2 h2 v h
 |st f ih=>intro x cs hg H;exact ih (x:=x) hg H
 |gap n=>intro x cs hg;simp[fq]at hg
theorem G6{h:Heap}{own:List TypeId}{ok:Nat->Prop}{k:K}{x:El k}{cs:List Value}{fo:List Nat}(hg:fq k=true)(H:Ow h own ok k x cs fo):∀v∈cs,v.oneCell'=true:=
 Ho hg (oC (λ_=>True) (λ_ _=>trivial) (λ_ _=>trivial) H)
theorem VC.mk{h:Heap}{ok:Nat->Prop}{k:K}{x:El k}{cs:List Value}(hk:∀a b,k≠.pair a b)(hu:k≠.unit)(hg:∀n,k≠.gap n)(H:Vw h ok k x cs):∃v,VC k v cs:=by
 cases k with
 |int ik=>exact⟨.int ik x,H.1,by simp⟩
 |bool=>exact⟨.bool x,H,by simp⟩
 |id e=>obtain⟨a,n,c,h⟩:=Fr.WA x;exact⟨Fr.BB x,H,by rw[h];simp⟩
 |str=>obtain⟨B,e,_⟩:=H;exact⟨.string B,e,by simp⟩
 |sl e k=>obtain⟨a,n,c,e,_⟩:=H;exact⟨.slice a n c,e,by simp⟩
 |unit=>exact absurd rfl hu
 |pair a b=>exact absurd rfl (hk a b)
 |st c=>exact⟨.agg cs.toArray,rfl⟩
 |gap n=>exact absurd rfl (hg n)
theorem Wh(w:World)(o:Obj)(b:Nat):hp (w.alloc o) b=if b=w.heap.size then some o else hp w b:=by
 show(w.heap.push o)[b]?=_
 rw[Array.getElem?_push]
 rfl
theorem zw(w:World)(o:Obj){b:Nat}(h:b<w.heap.size):hp (w.alloc o) b=hp w b:=by
 rw[Wh,aj (by omega)]
theorem Bo(w:World)(o:Obj):hp (w.alloc o) w.heap.size=some o:=by
 rw[Wh,ak rfl]
theorem ahF{w:World}{b:Nat}{o:Obj}(h:hp w b=some o):b<w.heap.size:=(Array.getElem?_eq_some_iff.1 h).1
theorem aoh(w:World)(b o:Nat)(v:Value){b':Nat}(h:b'≠b):hp (w.setCell ⟨b,o,none⟩ v) b'=hp w b':=by
 simp only[hp,World.setCell,Kw]
 rw[aj (by omega)]
theorem aoi(w:World)(b o:Nat)(v:Value){arr:Array Value}{e:TypeId}{fr:Nat×Nat}(h:hp w b=some (.cells arr e fr)) :
  hp (w.setCell ⟨b,o,none⟩ v) b=some (.cells (arr.setIfInBounds o v) e fr):=by
 have h':w.heap[b]?=some (.cells arr e fr):=h
 simp[hp,World.setCell,Kw,h']
theorem Cf(b:Nat):∀(vs:List Value) (w:World) (arr:Array Value) (e:TypeId) (fr:Nat×Nat) (o:Nat),hp w b=some (.cells arr e fr)->o+vs.length<=arr.size->
  (∀b',b'≠b->hp (w.setCells b o vs) b'=hp w b')/\(w.setCells b o vs).heap.size=w.heap.size/\
  ∃fD,hp (w.setCells b o vs) b=some (.cells fD e fr)/\fD.size=arr.size/\(∀i,i<vs.length->fD[o+i]?=vs[i]?)/\∀i,¬(o<=i/\i<o+vs.length)->fD[i]?=arr[i]?:=by
 intro vs
 induction vs with
 |nil=>intro w arr e fr o hb _;exact⟨λ_ _=>rfl,rfl,arr,hb,rfl,λi hi=>by simp at hi,λ_ _=>rfl⟩
 |cons v vs ih=>
  intro w arr e fr o hb hl
  simp only[iT]at hl
  have h1:=aoi w b o v hb
  obtain⟨g1,g2,fD,g3,g4,g5,g6⟩:=ih (w.setCell ⟨b,o,none⟩ v) _ e fr (o+1) h1 (by simp;omega)
  refine⟨λb' hb'=>(g1 b' hb').trans (aoh w b o v hb'),by rw[World.setCells,g2];simp[World.setCell],fD,g3,by rw[g4];simp,?_,?_⟩
  ·intro i hi
   simp only[iT]at hi
   cases i with
   |zero=>
    rw[g6 _ (by omega)]
    simp only[lN,qC]
    rw[Q8 (by omega)]
   |succ i=>
    rw[show o+(i+1)=o+1+i from by omega,g5 i (by omega)]
    simp
  ·intro i hi
   simp only[iT]at hi
   rw[g6 i (by omega),Q7 (by omega)]
theorem Cg(b:Nat):∀(vs:List Value) (w:World) (o:Nat),(w.setCells b o vs).os=w.os/\(w.setCells b o vs).tape=w.tape/\(w.setCells b o vs).output=w.output:=by
 intro vs
 induction vs with
 |nil=>intro w o;exact⟨rfl,rfl,rfl⟩
 |cons v vs ih=>intro w o;exact ih (w.setCell ⟨b,o,none⟩ v) (o+1)
theorem FH{P:Program}{w:World}{b o:Nat}{arr:Array Value}{e:TypeId}{lo hi:Nat}(vs:List Value)(hb:hp w b=some (.cells arr e (lo,hi)))(hf:iE arr.size lo hi)
  (hl:o+vs.length<=arr.size) (h1:∀v∈vs,v.oneCell'=true):(storeCells ⟨b,o,none⟩ vs).run P w=.ok () (w.setCells b o vs):=by
 have:=run_storeCells_cells (P:=P) b o vs 0 w (λj hj=>by
   rw[uC]
   unfold cellAt
   rw[hb]
   simp only[lN]
   rw[Array.getElem?_eq_getElem (by omega)]
   rfl) (λj hj=>by
   unfold World.frozen?
   have hb':w.heap[b]?=some (.cells arr e (lo,hi)):=hb
   simp only[hb',lN]
   have:=hf (o+j) (by omega)
   simp
   omega) h1
 simpa using this
theorem aah{P:Program}{T:bF}{t:TypeId}{k:K}{w:World}{b o:Nat}{cs:List Value}{v:Value}{arr:Array Value}{e:TypeId}{lo hi:Nat}(h:cK P T t k)(hb:hp w b=some (.cells arr e (lo,hi)))
  (hf:iE arr.size lo hi) (hl:cs.length=k.size) (hs:o+k.size<=arr.size) (hv:VC k v cs) (h1:∀v∈cs,v.oneCell'=true) :
  (Instr.storeAt t (.pointer (some ⟨b,o,none⟩)) v).run P w=.ok () (w.setCells b o cs):=by
 have hc:=hv.cells
 have hsz:v.cells.size=k.size:=by rw[<-hl,<-hc];simp
 unfold Instr.storeAt Instr.sureAddr storeVar
 simp only[dG,dW,Result.andThen,h.info.sizeOf w,Sem.run_ite]
 rw[aj (by rw[hsz];simp)]
 rw[hc]
 exact FH cs hb hf (by omega) h1
theorem aag{P:Program}(t:TypeId)(v:Value)(w:World):(newVar t v).run P w=.ok ⟨w.heap.size,0,none⟩ (w.alloc (.cells v.cells t)):=by
 simp[newVar,newRow]
theorem aac{P:Program}(t:TypeId)(v:Value)(w:World):(Instr.box t v).run P w=.ok (.pointer (some ⟨w.heap.size,0,none⟩)) (w.alloc (.cells v.cells t)):=by
 simp[Instr.box,aag,Result.andThen]
theorem an7{P:Program}{T:bF}{t:TypeId}{k:K}(h:cK P T t k)(w:World):(Instr.alloc t true (.tuple #[])).run P w=.ok (.pointer (some ⟨w.heap.size,0,none⟩)) (w.alloc (.cells (iK k).cells t)):=by
 simp[Instr.alloc,h.info.zero w,aag,Result.andThen]
theorem aaW:∀{k:K},(∀a b,k≠.pair a b)->k≠.unit->(∀n,k≠.gap n)->VC k (iK k) (dI k):=by
 intro k h1 h2 h3
 cases k with
 |int ik=>exact⟨rfl,by simp[iK]⟩
 |bool=>exact⟨rfl,by simp[iK]⟩
 |id e=>exact⟨rfl,by simp[iK]⟩
 |str=>exact⟨rfl,by simp[iK]⟩
 |sl e k=>exact⟨rfl,by simp[iK]⟩
 |unit=>exact absurd rfl h2
 |pair a b=>exact absurd rfl (h1 a b)
 |st c=>rfl
 |gap n=>exact absurd rfl (h3 n)
theorem FU{h:Heap}{own:List TypeId}{ok:Nat->Prop}:∀{k:K},fq k=true->(∀t∈k.tys,ah t own=true)->Ow h own ok k k.zero (dI k) []:=by
 intro k
 induction k with
 |int ik=>intro _ _;exact⟨rfl,rfl,by cases ik<;>simp[kI,K.zero]⟩
 |bool=>intro _ _;exact⟨rfl,rfl⟩
 |id e=>intro _ _;exact⟨rfl,by show _=[Fr.BB 0];rw[Fr.Wz];rfl⟩
 |str=>intro _ _;exact⟨rfl,ByteArray.empty,rfl,rfl⟩
 |sl e k ih=>
  intro _ ht
  unfold Ow
  rw[ak (ht e (by simp[K.tys]))]
  exact⟨none,0,0,rfl,rfl,bT _,.inl ⟨rfl,rfl⟩⟩
 |unit=>intro _ _;exact⟨rfl,rfl⟩
 |pair a b iha ihb=>
  intro hg ht
  simp[fq]at hg
  exact⟨dI a,dI b,[],[],rfl,.refl _,iha hg.1 (λt h=>ht t (by simp[K.tys,h])),ihb hg.2 (λt h=>ht t (by simp[K.tys,h]))⟩
 |st f ih=>intro hg ht;exact ih hg ht
 |gap n=>intro hg;simp[fq]at hg
end
section
open Go
variable [Fr]
structure G8 where
 base:Option (Nat×Nat×Nat)
 bl:List Nat
 kp:Bool
structure Cx where
 nt:Nat
 w0:World
 ext:Nat->Nat->Prop
 par:Nat->Option G8
 ptrs:Nat->List Stp->List TypeId->Value->Prop
 refs:Nat->Value->Prop
structure aF where
 loc:Nat->Nat×Nat
 hdr:Nat->List Value
 fo:Nat->List Nat
def aK(J:aF)(R:Root)(r:Nat):Option (Nat×Nat):=match R.kind with
 |.var _=>some (J.loc r)
 |.par=>some (J.loc r)
 |_=>none
def blk(J:aF)(R:Root)(r:Nat):List Nat:=(match aK J R r with
 |some q=>[q.1]
 |none=>[])++J.fo r
def aU(Z:St)(r:Nat)(R:Root):Prop:=Z.roots r=some R/\R.bV=false
def kV(cx:Cx)(b:Nat):Prop:=∃j pi o n,cx.par j=some pi/\pi.base=some (b,o,n)
def aO(cx:Cx)(Z:St)(J:aF)(F:List Nat)(w:World)(T:List Tag)(b:Nat):Prop:=
 b<w.heap.size/\b∉F/\¬kV cx b/\(∀r R,aU Z r R->b∈blk J R r->∃n,(r,n)∈T)/\
 (b<cx.w0.heap.size->(∃j n,(gB j,n)∈T/\cx.ext j b)\/∃j pi,cx.par j=some pi/\b∈pi.bl)
def cz(Z:St)(R:Root):Prop:=R.bV=false/\cu Z R.oO R.tags=true
def kG(Z:St)(J:aF)(F:List Nat)(w:World)(T:List Tag)(b:Nat):Prop:=
 b<w.heap.size/\b∉F/\∀r R,aU Z r R->b∈blk J R r->∃n,(r,n)∈T
def tX(cx:Cx)(Z:St)(J:aF)(F:List Nat)(w:World)(bt:TypeId)(k:K)(x:El k)(T:List Tag)(v:Value):Prop:=
 (∃b o,v=.pointer (some ⟨b,o,none⟩))/\(cu Z (bt :: k.tys) T=true->∃b o cs,v=.pointer (some ⟨b,o,none⟩)/\Cells (hp w) b o cs/\Vw (hp w) (aO cx Z J F w T) k x cs/\kG Z J F w T b/\
  ((bt=SENT/\∀t∈T,fO t.1=true)\/(kr (hp w) b bt/\¬kV cx b)))
def mH(cx:Cx)(Z:St)(J:aF)(F:List Nat)(w:World):List (TypeId×Dat×List Tag)->List Value->Prop
 | [],[]=>True
 |c :: cs,v :: vs=>tX cx Z J F w c.1 c.2.1.1 c.2.1.2 c.2.2 v/\mH cx Z J F w cs vs
 |_,_=>False
def lu:List Stp->K->Option (Nat×K)
 | [],k=>some (0,k)
 |.aP n :: p,.st c=>match bI n c with
  |some q=>match lu p q.2 with
   |some r=>some (q.1+r.1,r.2)
   |none=>none
  |none=>none
 |_,_=>none
def aaZ(J:aF)(h:Heap)(r:Nat)(R:Root)(p:List Stp)(q:Nat)(Q:Root)(v:Value):Prop:=
 ∃(e:TypeId) (kk:K) (xs:List (El kk)) (wh:Option (Nat×Nat)) (b:Option Addr) (n c:Nat) (ce:List Value) (hq:Value) (b1 o1 c1:Nat) (arr:Array Value) (lo hi:Nat),
  aA p R.k R.x=some ⟨.sl e kk,xs⟩/\bM p R.k R.x/\(∀t∈az p R.k,ah t R.own=true)/\aN h p R.k (J.hdr r) (aK J R r)=some ([.slice b n c],wh)/\
  (Q.k=wY e kk/\Q.kind=.anon)/\J.hdr q=ce++[hq]/\ce.length=kk.size/\v=.slice (some ⟨b1,o1,none⟩) (n+1) c1/\n+1<=c1/\
  h b1=some (.cells arr e (lo,hi))/\iE arr.size lo hi/\o1+c1*kk.size<=arr.size/\Cells h b1 (o1+n*kk.size) ce/\
  ((b=some ⟨b1,o1,none⟩/\b1∈J.fo r/\hq=.slice none 0 0/\c=c1)\/(hq=.slice (some ⟨b1,o1,none⟩) 0 c1/\b1∈J.fo q/\(0<n->∃b0 o0,b=some ⟨b0,o0,none⟩/\b0∈J.fo r/\∀i,i<n*kk.size->cellAt h b1 (o1+i)=cellAt h b0 (o0+i))))
def adD(J:aF)(h:Heap)(r:Nat)(R:Root)(p:List Stp)(q:Nat)(Q:Root)(a b:Nat)(v:Value):Prop:=
 ∃(e:TypeId) (kk:K) (xs:List (El kk)) (wh:Option (Nat×Nat)) (bb:Option Addr) (m c:Nat) (bq:Option Addr) (m1 c1:Nat),
  aA p R.k R.x=some ⟨.sl e kk,xs⟩/\bM p R.k R.x/\(∀t∈az p R.k,ah t R.own=true)/\aN h p R.k (J.hdr r) (aK J R r)=some ([.slice bb m c],wh)/\
  (Q.k=.sl e (.gap kk.size)/\Q.kind=.anon)/\J.hdr q=[v]/\v=.slice bq m1 c1/\(a<=b/\b<=m/\m=xs.length/\m1=a+(m-b))/\
  (0<m1->∃b1 o1 b0 o0,bq=some ⟨b1,o1,none⟩/\bb=some ⟨b0,o0,none⟩/\b1∈J.fo q/\b0∈J.fo r/\
   ∀j i,j<m1->i<kk.size->cellAt h b1 (o1+(j*kk.size+i))=cellAt h b0 (o0+((if j<a then j else b+(j-a))*kk.size+i)))
def aR(cx:Cx)(Z:St)(J:aF)(F:List Nat)(w:World):AV->Value->Prop
 |.undef,_=>True
 |.val k x T,v=>(k.flat=true\/cu Z k.tys T=true)->∃cs,VC k v cs/\Vw (hp w) (aO cx Z J F w T) k x cs
 |.eH,v=>∃a,v=.slice a 0 0
 |.ref r g,v=>∀R,aU Z r R->R.g=g->R.kind=.anon/\VC R.k v (J.hdr r)
 |.dJ r p n,v=>∀R,Z.roots r=some R->cz Z R->R.dF=n->∀d,aA p R.k R.x=some d->
   bM p R.k R.x/\(∀t∈az p R.k,ah t R.own=true)/\∃cs wh,aN (hp w) p R.k (J.hdr r) (aK J R r)=some (cs,wh)/\VC d.1 v cs
 |.ptr r p n,v=>(∃b o,v=.pointer (some ⟨b,o,none⟩))/\∀R,Z.roots r=some R->cz Z R->clean R.h n (iD p R.k)=true->(∀t∈az p R.k,ah t R.own=true)->(aA p R.k R.x).isSome=true->
   bM p R.k R.x/\∃cs b o,aN (hp w) p R.k (J.hdr r) (aK J R r)=some (cs,some (b,o))/\v=.pointer (some ⟨b,o,none⟩)
 |.eY bt k x T,v=>tX cx Z J F w bt k x T v
 |.iI,v=>v=.pointer none
 |.nG e,v=>∃b,v=.bool b/\(b=true->e=true)
 |.part r g lo hi sz,v=>∃b' b n c,v=.slice b' (hi-lo) (c-lo)/\(lo=0\/c≠lo->b'=b.map (·.add (lo*sz)))/\lo<=hi/\hi<=n/\n<=c/\∀R,aU Z r R->R.g=g->R.kind=.anon/\VC R.k (.slice b n c) (J.hdr r)
 |.ko r g k p,v=>∃u b off k1,v=.pointer (some ⟨b,off,none⟩)/\kG Z J F w [] b/\Cells (hp w) b 0 u.cells.toList/\lu p k=some (off,k1)/\∀R,aU Z r R->R.g=g->R.kind=.anon/\VC R.k u (J.hdr r)
 |.lH r p n m,v=>∃b c,v=.slice b m c/\∀R,Z.roots r=some R->cz Z R->R.dF=n->∀d,aA p R.k R.x=some d->
   bM p R.k R.x/\(∀t∈az p R.k,ah t R.own=true)/\∃q wh,aN (hp w) p R.k (J.hdr r) (aK J R r)=some ([.slice b q c],wh)/\m<=q
 |.sub r p n lo hi sz,v=>∃b' b m c,v=.slice b' (hi-lo) (c-lo)/\(lo=0\/c≠lo->b'=b.map (·.add (lo*sz)))/\lo<=hi/\hi<=m/\m<=c/\∀R,Z.roots r=some R->cz Z R->R.dF=n->∀d,aA p R.k R.x=some d->
   bM p R.k R.x/\(∀t∈az p R.k,ah t R.own=true)/\∃wh,aN (hp w) p R.k (J.hdr r) (aK J R r)=some ([.slice b m c],wh)
 |.sel r p n q x y,v=>∀R,Z.roots r=some R->cz Z R->R.dF=n->∀Q,aU Z q Q->Q.dF=0->adD J (hp w) r R p q Q x y v
 |.app r p n q,v=>∀R,Z.roots r=some R->cz Z R->R.dF=n->∀Q,aU Z q Q->Q.dF=0->aaZ J (hp w) r R p q Q v
 |.fn f cs,v=>∃vs:List Value,v=.func (.func f) #[] vs.toArray/\mH cx Z J F w cs vs
def gU(cx:Cx)(Z:St)(J:aF)(F:List Nat)(w:World):List AV->List Value->Prop
 | [],[]=>True
 |a :: l,v :: vs=>aR cx Z J F w a v/\gU cx Z J F w l vs
 |_,_=>False
def BL:K->List Value->List Value->Prop
 |.pair k r,u :: us,cs=>∃c1 c2,cs=c1++c2/\VC k u c1/\c1.length=k.size/\BL r us c2
 |.unit,[],cs=>cs=[]
 |_,_,_=>False
def iL(cx:Cx)(Z:St)(J:aF)(F:List Nat)(w:World):fQ->Value->Prop
 |.one a,v=>aR cx Z J F w a v
 |.mg l,v=>∃vs:List Value,v=.tuple vs.toArray/\gU cx Z J F w l vs
 |.lit _ c l,v=>∃vs cs:List Value,(v=.agg cs.toArray/\BL c vs cs)/\gU cx Z J F w l vs
def pO(Z:St)(t:Tag):Prop:=fO t.1=true\/∃R,Z.roots t.1=some R/\(R.bV=true\/t.2<=dz R.w)
def fC(Z:St)(T:List Tag):Prop:=∀t∈T,pO Z t
def dB(Z:St):AV->Prop
 |.val _ _ T=>fC Z T
 |.ref r g=>∃R,Z.roots r=some R/\(R.bV=true\/g<=R.g)
 |.dJ r _ n=>∃R,Z.roots r=some R/\(R.bV=true\/n<=R.dF)
 |.ko r g _ _=>∃R,Z.roots r=some R/\(R.bV=true\/g<=R.g)
 |.part r g _ _ _=>∃R,Z.roots r=some R/\(R.bV=true\/g<=R.g)
 |.lH r _ n _=>∃R,Z.roots r=some R/\(R.bV=true\/n<=R.dF)
 |.sub r _ n _ _ _=>∃R,Z.roots r=some R/\(R.bV=true\/n<=R.dF)
 |.sel r _ n q _ _=>(∃R,Z.roots r=some R/\(R.bV=true\/n<=R.dF))/\∃R,Z.roots q=some R
 |.app r _ n q=>(∃R,Z.roots r=some R/\(R.bV=true\/n<=R.dF))/\∃R,Z.roots q=some R
 |.ptr r _ n=>∃R,Z.roots r=some R/\(R.bV=true\/n<=dz R.h)
 |.eY _ _ _ T=>fC Z T
 |.fn _ cs=>∀c∈cs,fC Z c.2.2
 |_=>True
def mG(Z:St):fQ->Prop
 |.one a=>dB Z a
 |.mg l=>∀a∈l,dB Z a
 |.lit _ _ l=>∀a∈l,dB Z a
def aa6(cx:Cx)(w:World):Prop:=
 w.os=cx.w0.os/\w.tape=cx.w0.tape/\w.output=cx.w0.output/\cx.w0.heap.size<=w.heap.size/\
 (∀b,b<cx.w0.heap.size->(∀j pi,cx.par j=some pi->b∉pi.bl)->hp w b=hp cx.w0 b)/\
 (∀j pi b o n,cx.par j=some pi->pi.base=some (b,o,n)->j_ (hp cx.w0) (hp w) b o n)
def mine(cx:Cx)(w:World)(b:Nat):Prop:=b<w.heap.size/\(cx.w0.heap.size<=b\/∃j pi,cx.par j=some pi/\b∈pi.bl)
structure adC(cx:Cx)(Z:St)(J:aF)(F:List Nat)(w:World)(r:Nat)(R:Root):Prop where
 ow:cz Z R->Ow (hp w) R.own (aO cx Z J F w R.tags) R.k R.x (J.hdr r) (J.fo r)
 len:(J.hdr r).length=R.k.size
 mem:∀b o,aK J R r=some (b,o)->Cells (hp w) b o (J.hdr r)/\∃arr e lo hi,hp w b=some (.cells arr e (lo,hi))/\iE arr.size lo hi/\o+R.k.size<=arr.size/\(∀t,R.kind=.var t->e=t)
 nd:(blk J R r).Nodup
 mine:∀b∈blk J R r,Ow.mine cx w b
structure Rel(cx:Cx)(Z:St)(J:aF)(F:List Nat)(a:Act)(w:World):Prop where
 defs:a.defers=[]
 sz:cx.nt<=a.tmps.size
 jT:∀j pi b o n,cx.par j=some pi->pi.base=some (b,o,n)->∃R,aU Z (aC j) R/\R.kind=.par/\J.loc (aC j)=(b,o)/\R.k.size=n
 rP:∀r R,aU Z r R->R.kind=.par->∃j pi n,r=aC j/\cx.par j=some pi/\pi.base=some ((J.loc r).1,(J.loc r).2,n)
 slots:∀s,iL cx Z J F w (Z.slots s) (a.tmps.getD s undef)
 qy:∀s,mG Z (Z.slots s)
 roots:∀r R,aU Z r R->adC cx Z J F w r R
 fu:∀r R,Z.roots r=some R->fC Z R.tags/\fO r=false/\(∀n,(r,n)∉R.tags)
 jc:∀r R r' R',aU Z r R->aU Z r' R'->r≠r'->∀b∈blk J R r,b∉blk J R' r'
 fl:∀b∈F,mine cx w b
 gD:F.Nodup
 dM:∀r R,aU Z r R->∀b∈blk J R r,b∉F
 frame:aa6 cx w
 rG:∀j pi,cx.par j=some pi->pi.kp=true->∃R,Z.roots (aC j)=some R/\(R.bV=false->∀b∈pi.bl,¬kV cx b->
  (∃e,h_ (hp cx.w0) b=some e/\(e∈R.w\/e∈R.ew))\/(hp w b=hp cx.w0 b/\b∉F/\∀q Q,aU Z q Q->b∈blk J Q q->q=aC j))
 pJ:(∀j pi,cx.par j=some pi->∀b∈pi.bl,b<cx.w0.heap.size)/\(∀b,Fr.free b->b<cx.w0.heap.size/\∀j pi,cx.par j=some pi->b∉pi.bl)/\∀b,Fr.free b->hp cx.w0 b=Fr.obj b
 sV:∀j p ts v,cx.ptrs j p ts v->(∃b o,v=.pointer (some ⟨b,o,none⟩))/\∃R,Z.roots (aC j)=some R/\((∀t∈ts,t∉R.eh)->aR cx Z J F w (.ptr (aC j) p 0) v)
 sW:∀j v,cx.refs j v->(∃R,Z.roots (aC j)=some R)/\aR cx Z J F w (.ref (aC j) 0) v
theorem Rel.Zd{cx:Cx}{Z:St}{J:aF}{F:List Nat}{a:Act}{w:World}(H:Rel cx Z J F a w){b:Nat}(hm:mine cx w b):¬Fr.free b:=by
 intro hf
 obtain⟨h1,h2⟩:=H.pJ.2.1 b hf
 rcases hm.2 with h|⟨j,pi,h3,h4⟩
 ·omega
 ·exact h2 j pi h3 h4
theorem Rel.fixed{cx:Cx}{Z:St}{J:aF}{F:List Nat}{a:Act}{w:World}(H:Rel cx Z J F a w){b:Nat}(hf:Fr.free b):hp w b=Fr.obj b:=by
 obtain⟨h1,h2⟩:=H.pJ.2.1 b hf
 rw[H.frame.2.2.2.2.1 b h1 h2]
 exact H.pJ.2.2 b hf
theorem Rel.zR{cx:Cx}{Z:St}{J:aF}{F:List Nat}{a:Act}{w:World}(H:Rel cx Z J F a w){b:Nat}{t:TypeId}(hm:mine cx w b)(h:kr (hp w) b t):h_ (hp w) b=some t:=h.resolve_right (H.Zd hm)
theorem nY{A:Type}(l:List A):dz l=l.length:=by induction l<;>simp_all[dz]
theorem fA{n:Nat}{l:List Nat}:ah n l=true↔n∈l:=by
 induction l with
 |nil=>simp[ah]
 |cons m l ih=>
  simp only[ah,bH]
  cases h:Nat.beq n m with
  |true=>simp[a_ h]
  |false=>simp[ih,GZ h]
theorem gq{n:Nat}{l:List Nat}:ah n l=false↔n∉l:=by rw[<-fA];simp
theorem aop(a l:List Nat){n:Nat}(h:n<=dz l):since (a++l) n=a++since l n:=by
 unfold since
 rw[nY]at h
 simp only[nY,d_]
 rw[List.take_append,Tp (by omega)]
 congr 2
 omega
theorem yS{a l:List Nat}{n:Nat}{tys:List Nat}(h:n<=dz l):clean (a++l) n tys=true↔(∀t∈a,t∉tys)/\clean l n tys=true:=by
 unfold clean
 rw[aop a l h,List.all_append,bg,dX]
 simp[gq]
theorem aet{Z:St}{tys:List TypeId}{t:Tag}{T:List Tag}:cu Z tys (t :: T)=true↔(fO t.1=true\/∃R,Z.roots t.1=some R/\R.bV=false/\clean R.w t.2 tys=true)/\cu Z tys T=true:=by
 obtain⟨r,n⟩:=t
 simp only[cu,bg]
 cases he:fO r with
 |true=>simp
 |false=>
  simp only[jr,bY,false_or]
  cases hr:Z.roots r with
  |none=>simp
  |some R=>simp
theorem vG{Z:St}{tys:List TypeId}{T:List Tag}:cu Z tys T=true↔∀t∈T,fO t.1=true\/∃R,Z.roots t.1=some R/\R.bV=false/\clean R.w t.2 tys=true:=by
 induction T with
 |nil=>simp[cu]
 |cons t T ih=>rw[aet,ih];simp
def Views(cx:Cx)(Z:St)(J:aF)(F:List Nat)(w:World)(Z':St)(J':aF)(F':List Nat)(w':World):Prop:=
 ∀T tys,fC Z T->cu Z' tys T=true->cu Z tys T=true/\
  (∀b,aO cx Z J F w T b->((∃t∈tys,kr (hp w) b t)\/∀t∈T,fO t.1=true)->aO cx Z' J' F' w' T b/\hp w' b=hp w b)/\
  ∀b,kG Z J F w T b->((∃t∈tys,kr (hp w) b t)/\¬kV cx b\/∀t∈T,fO t.1=true)->kG Z' J' F' w' T b/\hp w' b=hp w b
theorem Views.vw{cx:Cx}{Z Z':St}{J J':aF}{F F':List Nat}{w w':World}(H:Views cx Z J F w Z' J' F' w'){T:List Tag}{tys:List TypeId}(hw:fC Z T)(hc:cu Z' tys T=true)
  {k:K} {x:El k} {cs:List Value} (hk:∀t∈k.tys,t∈tys) (h:Vw (hp w) (aO cx Z J F w T) k x cs):Vw (hp w') (aO cx Z' J' F' w' T) k x cs:=by
 obtain⟨_,h2,_⟩:=H T tys hw hc
 exact jO (λb hb=>(h2 b hb.1 (.inl hb.2)).2) (λb hb=>(h2 b hb.1 (.inl hb.2)).1) (De tys hk h)
theorem Views.ro{cx:Cx}{Z Z':St}{J J':aF}{F F':List Nat}{w w':World}(H:Views cx Z J F w Z' J' F' w'){bt:TypeId}{k:K}{x:El k}{T:List Tag}{v:Value}(hw:fC Z T)
  (h:tX cx Z J F w bt k x T v):tX cx Z' J' F' w' bt k x T v:=by
 refine⟨h.1,λhc=>?_⟩
 obtain⟨h1,_,h2⟩:=H T _ hw hc
 obtain⟨b,o,cs,e,hcs,hv,hok,hb⟩:=h.2 h1
 have hb':kG Z' J' F' w' T b/\hp w' b=hp w b:=h2 b hok (by
  rcases hb with⟨_,hb⟩|hb
  ·exact .inr hb
  ·exact .inl ⟨⟨bt,by simp,hb.1⟩,hb.2⟩)
 exact⟨b,o,cs,e,hcs.congr hb'.2,H.vw hw hc (λt ht=>by simp[ht]) hv,hb'.1,hb.imp id (λh=>⟨UO hb'.2 h.1,h.2⟩)⟩
theorem Views.caps{cx:Cx}{Z Z':St}{J J':aF}{F F':List Nat}{w w':World}(H:Views cx Z J F w Z' J' F' w') :
  ∀{cs:List (TypeId×Dat×List Tag)} {vs:List Value},(∀c∈cs,fC Z c.2.2)->mH cx Z J F w cs vs->mH cx Z' J' F' w' cs vs
 | [],[],_,h=>h
 |c :: cs,v :: vs,hw,h=>⟨H.ro (hw c (by simp)) h.1,H.caps (λc hc=>hw c (by simp[hc])) h.2⟩
 | [],_ :: _,_,h=>h.elim
 |_ :: _,[],_,h=>h.elim
theorem xX{cx:Cx}{Z Z':St}{J J':aF}{F F':List Nat}{w w':World}(H:Views cx Z J F w Z' J' F' w'){R:Root}(hw:fC Z R.tags)(h:cz Z' R):cz Z R:=
 ⟨h.1,(H R.tags R.oO hw h.2).1⟩
end
end Go.Proofs.YtgppmpedglhhfaaGreatDoor.Ow

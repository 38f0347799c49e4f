/- A verified reading of translated code, part A of 7. No condition. -/
import Derived.Calls
import Derived.Orders
import Derived.Laws.Cells
import Derived.Laws.IdiomCopy
import Derived.Laws.Entries
import Derived.ChangeKeysEq
import Derived.WalkKit
set_option linter.unusedSectionVars false
set_option linter.unusedVariables false
set_option linter.unusedSimpArgs false
namespace Go.Proofs.YtplpeegfeajkkaaGreatDoor.Ow
open Go
abbrev au := @Option.some.injEq
abbrev aG := @Option.bind_some
abbrev bH := @List.mem_append_right
abbrev bg := @Bool.false_eq_true
abbrev bD := @Nat.eq_of_beq_eq_true
abbrev bQ := @List.mem_append_left
abbrev bB := @Bool.and_eq_true
abbrev dH := @List.nodup_append
abbrev dN := @List.length_append
abbrev dD := @List.mem_append
abbrev dA := @Int.toNat_natCast
abbrev bZ := @Prod.mk.injEq
abbrev bW := @List.mem_cons
abbrev iR := @List.getD_eq_getElem?_getD
abbrev jl := @List.getElem?_eq_getElem
abbrev eX := @List.all_eq_true
abbrev bV := @Nat.le_refl
abbrev eH := @List.mem_filter
abbrev gu := @Result.andThen_ok
abbrev iD := @List.mem_singleton
abbrev gL := @List.length_singleton
abbrev gD := @List.append_assoc
abbrev kD := @Classical.byContradiction
abbrev gF := @List.length_cons
abbrev jD := @List.mem_cons_of_mem
abbrev dZ := @Sem.run_bind
abbrev eB := @Int.ofNat_lt
abbrev fK := @Bool.not_true
abbrev iC := @List.getElem_mem
abbrev iq := @List.append_nil
abbrev fH := @Sem.run_pure
abbrev j4 := @Nat.mul_le_mul_right
abbrev jE := @List.mem_cons_self
abbrev jg := @List.nodup_cons
abbrev fQ := @Nat.zero_le
abbrev jc := @Option.some.inj
abbrev fP := @List.mem_map
abbrev jZ := @List.mem_flatMap
abbrev jf := @Bool.not_false
abbrev mP := @List.flatMap_cons
abbrev qA := @List.getElem?_cons_zero
abbrev rq := @List.mem_of_getElem?
abbrev kY := @List.cons_append
abbrev ru := @List.nil_append
abbrev nR := @Nat.zero_add
abbrev qB := @List.getElem?_eq_some_iff
abbrev gP := @cond_true
abbrev o_ := @Option.map_some
abbrev Gi := @Array.getD_eq_getD_getElem?
abbrev jV := @cond_false
abbrev lZ := @List.nodup_nil
abbrev x_ := @Nat.lt_of_lt_of_le
abbrev MU := @List.mem_of_mem_take
abbrev lI := @Bool.not_eq_true'
abbrev qU := @Addr.mk.injEq
abbrev fM := @and_true
abbrev nO := @List.flatten_cons
abbrev MN := @List.flatten_nil
abbrev qC := @List.mem_iff_getElem
abbrev vE := @Array.ext'
abbrev MZ := @Nat.le_of_ble_eq_true
abbrev aQ := @if_true
abbrev aZ := @if_false
abbrev kZ := @List.map_cons
abbrev aj := @if_pos
abbrev tX := @Option.getD_some
abbrev aC := @if_neg
abbrev oD := @Bool.or_eq_true
abbrev tV := @List.eq_nil_of_length_eq_zero
abbrev q9 := @List.map_append
abbrev QI := @List.Sublist.append_left
abbrev QO := @List.pairwise_append
abbrev Pe := @Array.length_toList
abbrev za := @Bool.or_eq_false_iff
abbrev Gj := @Bool.false_or
abbrev x9 := @List.not_mem_nil
abbrev M0 := @Nat.ne_of_beq_eq_false
abbrev nC := @Nat.le_trans
abbrev q8 := @List.length_filter_le
abbrev bG := @decide_true
abbrev nP := @List.length_map
abbrev xX := @List.filter_append
abbrev gQ := @decide_eq_true
abbrev BC := @List.mem_flatten
abbrev Im := @List.ext_getElem
abbrev vL := @List.Perm.append_left
abbrev tQ := @List.Perm.append_right
abbrev BD := @List.perm_append_comm
abbrev DV := @List.getElem?_map
abbrev MO := @List.getElem?_range
abbrev xY := @List.getElem?_append_left
abbrev xZ := @List.getElem?_append_right
abbrev oF := @Nat.add_assoc
abbrev tT := @List.drop_drop
abbrev ML := @List.drop_eq_getElem_cons
abbrev DY := @List.take_append_drop
abbrev iZ := @Nat.add_mul
abbrev nD := @Nat.one_mul
abbrev uO := @List.getElem?_eq_none
abbrev ig := @run_underlying
abbrev ry := @Nat.add_zero
abbrev Pd := @Array.getElem?_modify
abbrev VL := @Array.getElem?_setIfInBounds_self_of_lt
abbrev VK := @Array.getElem?_setIfInBounds_ne
abbrev DZ := @List.take_of_length_le
abbrev pX := @List.length_take
abbrev g_ := @decide_eq_false
abbrev DW := @List.pairwise_iff_getElem
abbrev YI := @List.mem_or_eq_of_mem_set
abbrev dW := @decide_eq_true_eq
abbrev xO := @Bool.true_and
abbrev Ie := @Int.le_refl
abbrev QJ := @List.drop_suffix
abbrev x8 := @List.length_drop
abbrev kK := @List.length_nil
abbrev Yi := @Int.tdiv_eq_ediv_of_nonneg
abbrev Qi := @Int.tmod_eq_emod_of_nonneg
abbrev zw := @List.filter_map
abbrev MS := @List.map_map
abbrev qz := @Int.lt_irrefl
abbrev cO := @decide_false
abbrev pY := @List.take_length
abbrev BA := @List.drop_zero
abbrev QL := @List.filter_cons
abbrev qW := @Bool.false_ne_true
abbrev MM := @List.drop_length
abbrev D5 := @List.take_succ_eq_append_getElem
abbrev YE := @List.flatMap_append
abbrev DU := @List.flatMap_nil
abbrev YH := @List.length_replicate
abbrev MQ := @List.getElem?_take_of_lt
abbrev BB := @List.getElem?_drop
abbrev Ip := @List.mapM_cons
abbrev jr := @List.cons.injEq
abbrev Iq := @Nat.sub_self
abbrev wN := @Array.getElem?_toList
abbrev Il := @List.drop_eq_nil_of_le
abbrev Ir := @Option.bind_eq_some_iff
abbrev VJ := @Array.eq_empty_of_size_eq_zero
abbrev QM := @List.flatten_append
abbrev MP := @List.getElem?_take
abbrev zy := @List.getElem_append_left
abbrev MR := @List.getElem_append_right
abbrev UY := @run_firstCells_none
abbrev CY := @run_firstCells_some
abbrev Io := @List.ext_getElem?
abbrev DX := @List.size_toArray
abbrev Pb := @Array.getElem?_append_left
abbrev wO := @Array.toList_map
abbrev BF := @List.zip_cons_cons
abbrev YF := @List.getElem?_cons_succ
abbrev RY := @decide_eq_decide
abbrev Pf := @ByteArray.toList_eq
abbrev D6 := @Option.getD_none
abbrev oJ := @Value.slice.injEq
abbrev QN := @List.length_pos_iff
abbrev YG := @List.getLastD_eq_getLast?
section
open Go
inductive K where
 |int (k:IntKind)
 |bool
 |str
 |sl (e:TypeId) (k:K)
 |unit
 |pair (a b:K)
 |st (f:K)
 |gap (n:Nat)
 |id (e:TypeId)
 deriving Inhabited
abbrev El:K->Type
 |.int _=>Int
 |.bool=>Bool
 |.str=>List Int
 |.sl _ k=>List (El k)
 |.unit=>Unit
 |.pair a b=>El a×El b
 |.st f=>El f
 |.gap _=>Unit
 |.id _=>Nat
def K.size:K->Nat
 |.int _ | .bool | .str | .sl _ _ | .id _=>1
 |.unit=>0
 |.pair a b=>a.size+b.size
 |.st f=>f.size
 |.gap n=>n
def K.zero:(k:K)->El k
 |.int _=>(0:Int)
 |.bool=>false
 |.str=>([]:List Int)
 |.sl _ _=>[]
 |.unit=>()
 |.pair a b=>(a.zero,b.zero)
 |.st f=>f.zero
 |.gap _=>()
 |.id _=>(0:Nat)
def uX:IntKind->IntKind->Bool
 |.i8,.i8 | .i16,.i16 | .i32,.i32 | .i64,.i64 | .u8,.u8 | .u16,.u16 | .u32,.u32 | .u64,.u64=>true
 |_,_=>false
def K.beq:K->K->Bool
 |.int a,.int b=>uX a b
 |.bool,.bool=>true
 |.str,.str=>true
 |.sl e a,.sl f b=>Nat.beq e f&&a.beq b
 |.unit,.unit=>true
 |.pair a b,.pair c d=>a.beq c&&b.beq d
 |.st a,.st b=>a.beq b
 |.gap n,.gap m=>Nat.beq n m
 |.id e,.id f=>Nat.beq e f
 |_,_=>false
theorem JC{a b:IntKind}(h:uX a b=true):a=b:=by cases a<;>cases b<;>simp_all[uX]
theorem K.eq_of_beq:∀{a b:K},a.beq b=true->a=b:=by
 intro a
 induction a with
 |int k=>intro b h;cases b<;>simp_all[K.beq];exact JC h
 |sl e k ih=>intro b h;cases b<;>simp_all[K.beq];exact ih h.2
 |pair a b iha ihb=>intro c h;cases c<;>simp_all[K.beq];exact⟨iha h.1,ihb h.2⟩
 |st f ih=>intro b h;cases b<;>simp_all[K.beq];exact ih h
 |gap n=>intro b h;cases b<;>simp_all[K.beq]
 |id e=>intro b h;cases b<;>simp_all[K.beq]
 |_=>intro b h;cases b<;>simp_all[K.beq]
def K.like:K->K->Bool
 |.gap n,k=>Nat.beq n k.size
 |.pair a b,.pair c d=>a.like c&&b.like d
 |.st a,.st b=>a.like b
 |a,b=>a.beq b
def b_(a b:K)(x:El a):Option (El b):=if h:a.beq b=true then some (K.eq_of_beq h▸x)else none
def K.hole:K->K
 |.sl _ _=>.gap 1
 |.pair a b=>.pair a.hole b.hole
 |.st f=>.st f.hole
 |k=>k
def qg:(k:K)->El k->El k.hole
 |.sl _ _,_=>()
 |.pair a b,x=>(qg a x.1,qg b x.2)
 |.st f,x=>qg f x
 |.int _,x=>x
 |.bool,x=>x
 |.str,x=>x
 |.unit,_=>()
 |.gap _,_=>()
 |.id _,x=>x
def K.tys:K->List TypeId
 |.sl e k=>e :: k.tys
 |.pair a b=>a.tys++b.tys
 |.st f=>f.tys
 |_=>[]
def K.flat:K->Bool
 |.sl _ _ | .gap _=>false
 |.pair a b=>a.flat&&b.flat
 |.st f=>f.flat
 |_=>true
def Cont:List K->Type
 | []=>Unit
 |k :: ks=>El k×Cont ks
def Cont.app:(ks ls:List K)->Cont ks->Cont ls->Cont (ks++ls)
 | [],_,_,d=>d
 |_ :: ks,ls,c,d=>(c.1,Cont.app ks ls c.2 d)
inductive Stp where
 |aY (n:Nat)
 |idx (i:Int)
abbrev Dat:=(k:K)×El k
def oQ(d:Dat):Dat:=⟨d.1.hole,qg d.1 d.2⟩
def aU:Nat->(c:K)->El c->Option Dat
 |0,.pair a _,x=>some ⟨a,x.1⟩
 |n+1,.pair _ b,x=>aU n b x.2
 |_,_,_=>none
def aB:List Stp->(k:K)->El k->Option Dat
 | [],k,x=>some ⟨k,x⟩
 |.aY n :: p,.st c,x=>match aU n c x with
  |some d=>aB p d.1 d.2
  |none=>none
 |.idx i :: p,.sl _ k,xs=>aB p k ((show List (El k)from xs).getD i.toNat k.zero)
 |_,_,_=>none
def dP:Nat->(c:K)->El c->Dat->Option Dat
 |0,.pair _ b,x,d=>some ⟨.pair d.1 b,(d.2,x.2)⟩
 |n+1,.pair a b,x,d=>match dP n b x.2 d with
  |some z=>some ⟨.pair a z.1,(x.1,z.2)⟩
  |none=>none
 |_,_,_,_=>none
def dz:List Stp->(k:K)->El k->Dat->Option Dat
 | [],_,_,d=>some d
 |.aY n :: p,.st c,x,d=>match aU n c x with
  |some s=>match dz p s.1 s.2 d with
   |some t=>match dP n c x t with
    |some z=>some ⟨.st z.1,z.2⟩
    |none=>none
   |none=>none
  |none=>none
 |.idx i :: p,.sl e k,xs,d=>match dz p k ((show List (El k)from xs).getD i.toNat k.zero) d with
  |some t=>match b_ t.1 k t.2 with
   |some y=>some ⟨.sl e k,(show List (El k)from xs).set i.toNat y⟩
   |none=>none
  |none=>none
 |_,_,_,_=>none
def Stp.j_:Stp->Bool
 |.aY _=>true
 |.idx _=>false
def az:List Stp->K->List TypeId
 |.aY n :: p,.st c=>match lu n c with
  |some k=>az p k
  |none=>[]
 |.idx _ :: p,.sl e k=>e :: az p k
 |_,_=>[]
where lu:Nat->K->Option K
 |0,.pair a _=>some a
 |n+1,.pair _ b=>lu n b
 |_,_=>none
abbrev Tag:=Nat×Nat
inductive AV where
 |undef
 |val (k:K) (x:El k) (tags:List Tag)
 |fZ
 |ref (r g:Nat)
 |eP (r:Nat) (p:List Stp) (v:Nat)
 |ptr (r:Nat) (p:List Stp) (h:Nat)
 |gq (bt:TypeId) (k:K) (x:El k) (tags:List Tag)
 |jA
 |mg (r g:Nat) (k:K) (p:List Stp)
 |pO (e:Bool)
 |part (r g lo hi sz:Nat)
 |nN (r:Nat) (p:List Stp) (v m:Nat)
 |app (r:Nat) (p:List Stp) (v q:Nat)
 |sub (r:Nat) (p:List Stp) (v lo hi sz:Nat)
 |sel (r:Nat) (p:List Stp) (v q a b:Nat)
 |fn (f:Nat) (caps:List (TypeId×Dat×List Tag))
inductive gU where
 |one (a:AV)
 |mO (l:List AV)
 |lit (t:TypeId) (c:K) (l:List AV)
inductive zH where
 |anon
 |var (t:TypeId)
 |par
 |dead
structure Root where
 k:K
 x:El k
 own:List TypeId
 tags:List Tag
 w:List TypeId
 h:List TypeId
 g:Nat
 kind:zH
 fixed:Bool
 keep:Bool
 ew:List TypeId:=[]
 eh:List TypeId:=[]
def Root.cZ(R:Root):Bool:=match R.kind with
 |.dead=>true
 |_=>false
def Root.isVar(R:Root):Bool:=match R.kind with
 |.var _=>true
 |_=>false
def iF:Root:={ k:=.unit,x:=(),own:=[],tags:=[],w:=[],h:=[],g:=0,kind:=.dead,fixed:=true,keep:=true }
structure St where
 slots:Nat->gU
 roots:Nat->Option Root
inductive Loc where
 |s (n:Nat)
 |r (n:Nat)
inductive Wr where
 |s (n:Nat) (a:gU)
 |r (n:Nat) (o:Option Root)
def Loc.beq:Loc->Loc->Bool
 |.s a,.s b=>Nat.beq a b
 |.r a,.r b=>Nat.beq a b
 |_,_=>false
def Wr.loc:Wr->Loc
 |.s n _=>.s n
 |.r n _=>.r n
def upd{J:Type}(f:Nat->J)(n:Nat)(v:J):Nat->J:=λm=>bif Nat.beq m n then v else f m
def Wr.app(w:Wr)(Z:St):St:=match w with
 |.s n a=>{ Z with slots:=upd Z.slots n a }
 |.r n (some R)=>{ Z with roots:=upd Z.roots n (some R) }
 |.r n none=>{ Z with roots:=upd Z.roots n (some iF) }
def aL:List Wr->St->St
 | [],Z=>Z
 |w :: ws,Z=>aL ws (w.app Z)
inductive Prog(J:Type):Type 1 where
 |ret (a:J)
 |fail
 |slot (n:Nat) (k:gU->Prog J)
 |root (r:Nat) (k:Option Root->Prog J)
 |eY (c:Prop) (d:Decidable c) (k:Prog J)
 |br (c:Bool) (t e:Prog J)
 |opt (β:Type) (o:Option β) (k:β->Prog J)
def Prog.bind{J β:Type}:Prog J->(J->Prog β)->Prog β
 |.ret a,f=>f a
 |.fail,_=>.fail
 |.slot n k,f=>.slot n λv=>(k v).bind f
 |.root r k,f=>.root r λv=>(k v).bind f
 |.eY c d k,f=>.eY c d (k.bind f)
 |.br c t e,f=>.br c (t.bind f) (e.bind f)
 |.opt β o k,f=>.opt β o λb=>(k b).bind f
def Prog.run{J R:Type}:Prog J->St->(J->Option R)->Option R
 |.ret a,_,K=>K a
 |.fail,_,_=>none
 |.slot n k,Z,K=>(k (Z.slots n)).run Z K
 |.root r k,Z,K=>(k (Z.roots r)).run Z K
 |.eY c d k,Z,K=>@ite _ c d (k.run Z K) none
 |.br c t e,Z,K=>if c=true then t.run Z K else e.run Z K
 |.opt _ o k,Z,K=>o.bind λb=>(k b).run Z K
def Prog.vB{J R:Type}:Prog J->St->List Loc->(J->List Loc->Option R)->Option R
 |.ret a,_,l,K=>K a l
 |.fail,_,_,_=>none
 |.slot n k,Z,l,K=>(k (Z.slots n)).vB Z (.s n :: l) K
 |.root r k,Z,l,K=>(k (Z.roots r)).vB Z (.r r :: l) K
 |.eY c d k,Z,l,K=>@ite _ c d (k.vB Z l K) none
 |.br c t e,Z,l,K=>if c=true then t.vB Z l K else e.vB Z l K
 |.opt _ o k,Z,l,K=>o.bind λb=>(k b).vB Z l K
def Ar:List Wr->Nat->Option gU
 | [],_=>none
 |.s m a :: ws,n=>match Ar ws n with
  |some b=>some b
  |none=>bif Nat.beq n m then some a else none
 |.r _ _ :: ws,n=>Ar ws n
def CQ:List Wr->Nat->Option (Option Root)
 | [],_=>none
 |.r m o :: ws,n=>match CQ ws n with
  |some b=>some b
  |none=>bif Nat.beq n m then some (some (o.getD iF))else none
 |.s _ _ :: ws,n=>CQ ws n
def Prog.over{J:Type}(ws:List Wr):Prog J->Prog J
 |.ret a=>.ret a
 |.fail=>.fail
 |.slot n k=>match Ar ws n with
  |some v=>(k v).over ws
  |none=>.slot n λv=>(k v).over ws
 |.root r k=>match CQ ws r with
  |some v=>(k v).over ws
  |none=>.root r λv=>(k v).over ws
 |.eY c d k=>.eY c d (k.over ws)
 |.br c t e=>.br c (t.over ws) (e.over ws)
 |.opt β o k=>.opt β o λb=>(k b).over ws
def OU(p q:Prog (List Wr)):Prog (List Wr):=p.bind λws=>(q.over ws).bind λvs=>.ret (ws++vs)
end
section
open Go
def ah(n:Nat):List Nat->Bool
 | []=>false
 |m :: l=>bif Nat.beq n m then true else ah n l
def iM(l m:List Nat):Bool:=l.all λn=>ah n m
def dR{J:Type}:List J->Nat
 | []=>0
 |_ :: l=>dR l+1
def aa(j:Nat):Nat:=4*j
def jy(j:Nat):Nat:=4*j+1
def aN(d c:Nat):Nat:=4*(8*d+c)+2
def gZ(r:Nat):Bool:=Nat.beq (r%4) 1
def since(l:List Nat)(n:Nat):List Nat:=l.take (dR l-n)
def clean(l:List Nat)(n:Nat)(tys:List Nat):Bool:=(since l n).all λt=>!ah t tys
def bytesOf(s:ByteArray):List Int:=s.data.toList.map λb=>(b.toNat:Int)
inductive aD where
 |val (k:K) (bJ:List Nat)
 |ro (k:K)
 |rw (k:K) (ow wt ht:List TypeId)
 |into (j:Nat) (p:List (Option Nat))
 |bO (k:K) (ow wt:List TypeId)
 |own (k:K) (ow:List TypeId)
 |fn (f:Nat) (ks:List K)
inductive bN where
 |val (k:K) (exts bJ:List Nat)
 |own (k:K) (ow:List TypeId) (exts bJ:List Nat)
 |ptr (t:TypeId) (k:K) (ow:List TypeId) (exts:List Nat)
 |into (j:Nat) (p:List (Option Nat))
def aD.kin:aD->List K
 |.val k _ | .ro k | .rw k _ _ _ | .bO k _ _ | .own k _=>[k]
 |.into _ p=>p.filterMap fun|none=>some (.int .i64)|some _=>none
 |.fn _ ks=>ks
def aD.gI:aD->List K
 |.rw k _ _ _ | .bO k _ _=>[k]
 |_=>[]
def bN.eU:bN->List K
 |.val k _ _ | .own k _ _ _ | .ptr _ k _ _=>[k]
 |.into _ _=>[.int .i64]
def kin:List aD->List K
 | []=>[]
 |p :: ps=>p.kin++kin ps
def gI:List aD->List K
 | []=>[]
 |p :: ps=>p.gI++gI ps
def eU:List bN->List K
 | []=>[]
 |p :: ps=>p.eU++eU ps
structure Entry where
 f:FuncId
 ps:List aD
 rs:List bN
 F:Nat->Cont (kin ps)->Option (Cont (eU rs++gI ps))
structure bL where
 ty:TypeId->Option K
 bytes:TypeId->Nat
 ptr:TypeId->Bool
 eq:TypeId->Bool
 ids:Bool:=false
structure Hint where
 nt:Nat
 akQ:List Nat
 loops:List (Nat×List Nat×List Nat)
 less:List (Nat×List TypeId)
 calls:List (Nat×Option Nat×Entry)
 f_:List (Nat×K×List TypeId×List TypeId)
 wide:List (Nat×List Nat):=[]
 parts:List Nat:=[]
 apps:List Nat:=[]
section
variable {J:Type}
def sG:List Tag->List TypeId->Prog J->Prog J
 | [],_,k=>k
 |(r,n) :: ts,tys,k=>bif gZ r then sG ts tys k else .root r fun
  |some R=>bif !R.cZ&&clean R.w n tys then sG ts tys k else .fail
  |none=>.fail
def bC(own:List TypeId):K->List TypeId
 |.sl e k=>bif ah e own then bC own k else e :: k.tys
 |.pair a b=>bC own a++bC own b
 |.st f=>bC own f
 |_=>[]
def Root.qR(R:Root):List TypeId:=bC R.own R.k
def iY(r:Nat)(k:Root->Prog J):Prog J:=.root r fun
 |some R=>bif R.cZ then .fail else sG R.tags R.qR (k R)
 |none=>.fail
def Root.dY(R:Root):Nat:=dR R.w+dR R.h
def Root.out(R:Root)(r:Nat)(k:K):List Tag:=bif k.flat then []else bif k.tys.any (λt=>ah t R.own)then(r,dR R.w) :: R.tags else R.tags
def kF(r:Nat)(k:Prog J):Prog J:=.root r fun
 |none=>k
 |some _=>.fail
def Fh:IntKind->Int->Bool
 |.u8,n=>Int.blt n 256&&Int.ble 0 n
 |_,_=>true
where
 Int.blt (a b:Int):Bool:=decide (a<b)
 Int.ble (a b:Int):Bool:=decide (a<=b)
def JS:Value->AV
 |.int k n=>bif Fh k n then .val (.int k) n []else .undef
 |.bool b=>.val .bool b []
 |.string s=>.val .str (bytesOf s) []
 |.slice none 0 0=>.fZ
 |.pointer none=>.jA
 |_=>.undef
def uV(x:Operand)(k:gU->Prog J):Prog J:=match x with
 |.tmp t=>.slot t k
 |.const v=>k (.one (JS v))
 |.func f=>k (.one (.fn f []))
 |.global _=>.fail
def eZ(x:Operand)(k:AV->Prog J):Prog J:=uV x fun
 |.one a=>k a
 |_=>.fail
def qH(a:AV)(k:(kk:K)->El kk->List Tag->Prog J):Prog J:=match a with
 |.val kk x tags=>sG tags kk.tys (k kk x tags)
 |.ref r g=>iY r λR=>bif Nat.beq R.g g then k R.k R.x (R.out r R.k)else .fail
 |.eP r p h=>iY r λR=>bif Nat.beq R.dY h then
   match aB p R.k R.x with
   |some d=>k d.1 d.2 (R.out r d.1)
   |none=>.fail
  else .fail
 |_=>.fail
def asInt(a:AV)(k:IntKind->Int->Prog J):Prog J:=match a with
 |.val (.int ik) n _=>k ik n
 |_=>.fail
def asBool(a:AV)(k:Bool->Prog J):Prog J:=match a with
 |.val .bool b _=>k b
 |_=>.fail
def Wr.fA:Wr->List Nat
 |.r n _=>[n]
 |.s _ _=>[]
def Ei:List Nat->Bool
 | []=>true
 |n :: l=>!ah n l&&Ei l
def zN(ws:List Wr)(tags:List Tag):Bool:=tags.all λt=>!ah t.1 (ws.flatMap Wr.fA)
def tH(ws:List Wr)(tags:List Tag):Bool:=Ei (ws.flatMap Wr.fA)&&zN ws tags
structure fC where
 k:K
 x:El k
 own:List TypeId
 tags:List Tag
 ws:List Wr
 keep:Bool
abbrev jC:Nat:=4294967294
def iL:List Stp->K->List TypeId
 | [],_=>[]
 |p,k=>jC :: az p k
def uu(k:K):List TypeId:=match k.tys with
 | []=>[jC]
 |_=>[]
def xz(R:Root)(p:List Stp)(d:Dat):Option Root:=
 match dz p R.k R.x (oQ d)with
 |some z=>some { R with k:=z.1,x:=z.2,w:=d.1.tys++R.w,h:=uu d.1++d.1.tys++R.h }
 |none=>none
def tC(want:K)(a:AV)(k:fC->Prog J):Prog J:=match a with
 |.val kk x tags=>sG tags kk.tys (k ⟨kk,x,[],tags,[],false⟩)
 |.fZ=>match want with
  |.sl e kk=>k ⟨.sl e kk,[],e :: kk.tys,[],[],false⟩
  |_=>.fail
 |.ref r g=>iY r λR=>bif Nat.beq R.g g && !R.fixed then k ⟨R.k,R.x,R.own,R.tags,[.r r none],R.keep⟩else .fail
 |.eP r p h=>iY r λR=>bif Nat.beq R.dY h then
   match aB p R.k R.x with
   |some d=>bif p.all Stp.j_ && !R.fixed&&(!p.isEmpty||R.isVar)then
     match xz R p d with
     |some R'=>k ⟨d.1,d.2,d.1.tys.filter (λt=>ah t R.own),R.tags,[.r r (some R')],R.keep⟩
     |none=>.fail
    else sG (R.out r d.1) d.1.tys (k ⟨d.1,d.2,[],R.out r d.1,[],false⟩)
   |none=>.fail
  else .fail
 |.part r g lo hi sz=>iY r λR=>bif Nat.beq R.g g && !R.fixed&&Nat.beq lo 0 then match R.k,R.x with
   |.sl e kk,xs=>bif kk.flat&&ah e R.own&&Nat.beq kk.size sz then k ⟨.sl e kk,(show List (El kk)from xs).take hi,R.own,R.tags,[.r r none],R.keep⟩else .fail
   |_,_=>.fail
  else .fail
 |_=>.fail
def uZ:List Int->List Int->Bool
 |_,[]=>false
 | [],_ :: _=>true
 |a :: x,b :: y=>decide (a<b)||(decide (a=b)&&uZ x y)
def yE:(k:K)->El k->El k->Bool
 |.int _,x,y=>decide ((show Int from x)=y)
 |.bool,x,y=>(show Bool from x)==y
 |.str,x,y=>decide ((show List Int from x)=y)
 |.pair .unit .unit,_,_=>true
 |.pair a .unit,x,y=>yE a x.1 y.1
 |.pair a b,x,y=>yE a x.1 y.1&&yE b x.2 y.2
 |.st f,x,y=>yE f x y
 |_,_,_=>true
def v1(k:K)(x:El k):gU:=.one (.val k x [])
def Od(op:BinOp)(ik:IntKind)(x y:Int)(k:gU->Prog J):Prog J:=match op with
 |.add=>k (v1 (.int ik) (ik.wrap (x+y)))
 |.sub=>k (v1 (.int ik) (ik.wrap (x-y)))
 |.mul=>k (v1 (.int ik) (ik.wrap (x*y)))
 |.quo=>.eY (y≠0) inferInstance (k (v1 (.int ik) (ik.wrap (x.tdiv y))))
 |.rem=>.eY (y≠0) inferInstance (k (v1 (.int ik) (x.tmod y)))
 |.and=>k (v1 (.int ik) (ik.wrap (BitVec.ofInt ik.bits x &&& BitVec.ofInt ik.bits y).toNat))
 |.or=>k (v1 (.int ik) (ik.wrap (BitVec.ofInt ik.bits x ||| BitVec.ofInt ik.bits y).toNat))
 |.xor=>k (v1 (.int ik) (ik.wrap (BitVec.ofInt ik.bits x ^^^ BitVec.ofInt ik.bits y).toNat))
 |.andNot=>k (v1 (.int ik) (ik.wrap (BitVec.ofInt ik.bits x &&& ~~~ BitVec.ofInt ik.bits y).toNat))
 |.eql=>k (v1 .bool (decide (x=y)))
 |.neq=>k (v1 .bool (!decide (x=y)))
 |.lss=>k (v1 .bool (decide (x<y)))
 |.leq=>k (v1 .bool (decide (x<=y)))
 |.gtr=>k (v1 .bool (decide (x>y)))
 |.geq=>k (v1 .bool (decide (x>=y)))
 |_=>.fail
def Vi(op:BinOp)(x y:List Int)(k:gU->Prog J):Prog J:=match op with
 |.add=>.eY (x.length+y.length<=9223372036854775807) inferInstance (k (v1 .str (x++y)))
 |.eql=>k (v1 .bool (decide (x=y)))
 |.neq=>k (v1 .bool (!decide (x=y)))
 |.lss=>k (v1 .bool (uZ x y))
 |.leq=>k (v1 .bool (uZ x y||decide (x=y)))
 |.gtr=>k (v1 .bool (!(uZ x y||decide (x=y))))
 |.geq=>k (v1 .bool (!uZ x y))
 |_=>.fail
def J3(a b:AV):Option Bool:=match a,b with
 |.jA,.jA=>some true
 |.jA,.ptr _ _ _ | .ptr _ _ _,.jA=>some false
 |.jA,.gq _ _ _ _ | .gq _ _ _ _,.jA=>some false
 |_,_=>none
def zS(T:bL)(t:TypeId)(op:BinOp)(a b:AV)(k:gU->Prog J):Prog J:=match a,b with
 |.val (.int ik) x _,.val (.int jk) y _=>match op with
  |.shl=>.eY (0<=y) inferInstance (k (v1 (.int ik) (ik.wrap (x*2 ^ min y.toNat ik.bits))))
  |.shr=>.eY (0<=y) inferInstance (k (v1 (.int ik) (x.fdiv (2 ^ min y.toNat ik.bits))))
  |_=>bif uX ik jk then Od op ik x y k else .fail
 |.val .bool x _,.val .bool y _=>match T.ty t,op with
  |some .bool,.eql=>k (v1 .bool (x==y))
  |some .bool,.neq=>k (v1 .bool (!(x==y)))
  |_,_=>.fail
 |.val .str x _,.val .str y _=>Vi op x y k
 |.val (.st c) x _,.val (.st d) y _=>match b_ (.st d) (.st c) y with
  |some y'=>bif (c.flat&&T.eq t)&&(match T.ty t with|some kk=>kk.beq (.st c)|none=>false)then match op with
    |.eql=>k (v1 .bool (yE c x y'))
    |.neq=>k (v1 .bool (!yE c x y'))
    |_=>.fail
   else .fail
  |none=>.fail
 |a,b=>bif T.ptr t then match J3 a b,op with
  |some t,.eql=>k (v1 .bool t)
  |some t,.neq=>k (v1 .bool (!t))
  |_,_=>.fail
  else .fail
def abC:Operand->Bool
 |.const (.slice none 0 0)=>true
 |_=>false
def abB:BinOp->Bool
 |.eql=>true
 |_=>false
def acj(T:bL)(t:TypeId)(a:AV)(k:AV->Prog J):Prog J:=match T.ty t with
 |some (.sl _ _)=>qH a λkk x _=>match kk,x with
  |.sl _ kk,xs=>k (.pO (show List (El kk)from xs).isEmpty)
  |_,_=>.fail
 |_=>.fail
def Rt(T:bL)(t:TypeId)(op:BinOp)(x y:Operand)(k:gU->Prog J):Prog J:=
 bif abC y&&abB op then eZ x λa=>acj T t a λv=>k (.one v)else eZ x λa=>eZ y λb=>zS T t op a b k
def Vy(op:UnOp)(a:AV)(k:gU->Prog J):Prog J:=match op,a with
 |.neg,.val (.int ik) x _=>k (v1 (.int ik) (ik.wrap (0-x)))
 |.xor,.val (.int ik) x _=>k (v1 (.int ik) (ik.wrap (BitVec.ofInt ik.bits (if ik.signed then -1 else ik.max) ^^^ BitVec.ofInt ik.bits x).toNat))
 |.not,.val .bool b _=>k (v1 .bool (!b))
 |_,_=>.fail
def bP(k:K)(x:El k)(ow:List TypeId)(tags:List Tag)(kind:zH)(keep:Bool:=false):Root:={ k,x,own:=ow,tags,w:=[],h:=[],g:=0,kind,fixed:=false,keep }
def Root.bt(R:Root):TypeId:=match R.kind with
 |.var t=>t
 |_=>4294967295
def iV(R:Root)(p:List Stp):TypeId:=(az p R.k).getLastD R.bt
def FN(p:List Stp)(R:Root):Bool:=(az p R.k).all λt=>ah t R.own
def addrOf(a:AV)(rd:Root->Nat->List Stp->Dat->Prog J)(ro:TypeId->Dat->List Tag->Prog J):Prog J:=match a with
 |.ptr r p h=>iY r λR=>bif clean R.h h (iL p R.k)&&FN p R then
   match aB p R.k R.x with
   |some d=>rd R r p d
   |none=>.fail
  else .fail
 |.gq bt k x tags=>sG tags (bt :: k.tys) (ro bt ⟨k,x⟩ tags)
 |_=>.fail
def yN(T:bL)(eP:Bool)(t:TypeId)(a:AV)(k:AV->Prog J):Prog J:=
 match T.ty t with
 |none=>.fail
 |some kk=>match a with
  |.mg r g k0 p=>iY r λR=>bif Nat.beq R.g g&&R.k.beq k0&&p.all Stp.j_ then
    match aB p R.k R.x with
    |some d=>bif d.1.beq kk then(bif d.1.flat then k (.val d.1 d.2 [])else k (.eP r p R.dY))else .fail
    |none=>.fail
   else .fail
  |a=>addrOf a
   (λR r p d=>bif d.1.beq kk then(bif eP && !d.1.flat then k (.eP r p R.dY)else k (.val d.1 d.2 (R.out r d.1)))else .fail)
   (λ_ d tags=>bif d.1.beq kk then k (.val d.1 d.2 (bif d.1.flat then []else tags))else .fail)
def fF(own bad:List TypeId):List TypeId:=own.filter λt=>!ah t bad
def lF:List Tag->List Tag->List Tag
 | [],m=>m
 |(r,n) :: l,m=>bif m.any λt=>Nat.beq t.1 r&&Nat.beq t.2 n then lF l m else(r,n) :: lF l m
def sJ(r:Nat)(l:List Tag):List Tag:=l.filter λt=>!Nat.beq t.1 r
def fC.bad(tk:fC):List TypeId:=bC tk.own tk.k
def OT(R:Root)(r:Nat)(tags:List Tag)(bad:List TypeId):Bool:=tags.all (λt=>!Nat.beq t.1 r)||match R.kind with
 |.par=>false
 |.var t=>!ah t bad
 |_=>true
def OI(R:Root)(r:Nat)(p:List Stp)(d:Dat)(tk:fC):Option (Root×Dat):=
 bif !d.1.flat&&p.all Stp.j_ && !R.keep&&(!p.isEmpty||R.isVar)&&tk.tags.all (λt=>!Nat.beq t.1 r)then
  match xz R p d with
  |some Rg=>match tk.own.filter (λt=>!ah t R.own&&ah t d.1.tys && !ah t Rg.k.tys)with
   | []=>none
   |l=>some ({ Rg with own:=l++R.own },oQ d)
  |none=>none
 else none
def storeAt(kk:K)(r:Nat)(p:List Stp)(tk:fC)(R:Root)(d:Dat)(k:List Wr->Prog J):Prog J:=
 bif (d.1.beq kk||(d.1.beq kk.hole&&p.all Stp.j_))&&(kk.flat||OT R r tk.tags tk.bad)&&(az p R.k).all (λt=>!ah t tk.bad)then
  match dz p R.k R.x ⟨tk.k,tk.x⟩with
  |some z=>bif R.keep && !kk.tys.all (λt=>!ah t R.own||ah t tk.own)then .fail else
   k (tk.ws++[.r r (some { R with
    keep:=R.keep||tk.keep
    k:=z.1,x:=z.2
    own:=fF R.own tk.bad
    tags:=bif kk.flat then R.tags else lF (sJ r tk.tags) R.tags
    w:=iV R p :: R.w
    h:=(bif d.1.beq kk then []else uu kk)++kk.tys++R.h })])
  |none=>.fail
 else .fail
def Vg(T:bL)(t:TypeId)(a v:AV)(k:List Wr->Prog J):Prog J:=
 match T.ty t,a with
 |some kk,.ptr r p h=>tC kk v λtk=>bif tk.k.beq kk&&tk.ws.all (λw=>!w.loc.beq (.r r))then
   iY r λR=>bif clean R.h h (iL p R.k)&&FN p R&&zN tk.ws R.tags then
    match aB p R.k R.x with
    |some d=>match OI R r p d tk with
     |some q=>sG q.1.tags q.1.qR (storeAt kk r p tk q.1 q.2 k)
     |none=>storeAt kk r p tk R d k
    |none=>.fail
   else .fail
  else .fail
 |_,_=>.fail
def I4(kk:K)(a:AV)(n:Nat)(k:AV->Prog J):Prog J:=match a with
 |.val (.st c) x tags=>bif (K.st c).beq kk then match aU n c x with
  |some d=>sG tags c.tys (k (.val d.1 d.2 (bif d.1.flat then []else tags)))
  |none=>.fail
  else .fail
 |.ref r g=>iY r λR=>bif Nat.beq R.g g&&R.k.beq kk then
   match aB [.aY n] R.k R.x with
   |some d=>bif d.1.flat then k (.val d.1 d.2 [])else k (.eP r [.aY n] R.dY)
   |none=>.fail
  else .fail
 |.eP r p h=>iY r λR=>bif Nat.beq R.dY h then
   match aB p R.k R.x,aB (p++[.aY n]) R.k R.x with
   |some d0,some d=>bif !d0.1.beq kk then .fail else bif d.1.flat then k (.val d.1 d.2 [])else k (.eP r (p++[.aY n]) R.dY)
   |_,_=>.fail
  else .fail
 |_=>.fail
def ND(kk:K)(n:Nat):Bool:=match kk with
 |.st c=>(az.lu n c).isSome
 |_=>false
def Fy:List Stp->K->Option K
 | [],k=>some k
 |.aY n :: p,.st c=>match az.lu n c with
  |some k=>Fy p k
  |none=>none
 |_,_=>none
def Nr(a:AV)(kk:K)(yes:Nat->Nat->Prog J)(no:Prog J):Prog J:=match a with
 |.ref r g=>.root r fun
  |some R=>bif R.fixed then(iY r λR=>bif Nat.beq R.g g&&R.k.beq kk then yes r g else .fail)else no
  |none=>no
 |_=>no
def I1(kk:K)(a:AV)(n:Nat)(k:AV->Prog J):Prog J:=match a with
 |.ptr r p h=>.root r fun
  |some R=>match aB p R.k R.x with
   |some d=>bif d.1.like kk&&ND kk n then k (.ptr r (p++[.aY n]) h)else .fail
   |none=>.fail
  |none=>.fail
 |.gq bt (.st c) x tags=>bif (K.st c).beq kk then match aU n c x with
  |some d=>sG tags (bt :: c.tys) (k (.gq bt d.1 d.2 tags))
  |none=>.fail
  else .fail
 |.mg r g k0 p=>match Fy p k0 with
  |some k1=>bif k1.beq kk&&ND kk n then k (.mg r g k0 (p++[.aY n]))else .fail
  |none=>.fail
 |_=>.fail
def aF(i:Int)(n:Nat):Prop:=0<=i/\i<(n:Int)
instance (i:Int)(n:Nat):Decidable (aF i n):=inferInstanceAs (Decidable (_/\_))
def JD(k0:K)(a:AV)(i:Int)(k:AV->Prog J):Prog J:=match a with
 |.val (.sl e kk) xs tags=>bif (K.sl e kk).beq k0 then sG tags (e :: kk.tys) (.eY (aF i (show List (El kk)from xs).length) inferInstance
   (k (.gq e kk ((show List (El kk)from xs).getD i.toNat kk.zero) tags)))else .fail
 |.ref r g=>iY r λR=>bif Nat.beq R.g g then
   match R.k,R.x with
   |.sl e kk,xs=>bif ah e R.own&&(K.sl e kk).beq k0 then .eY (aF i (show List (El kk)from xs).length) inferInstance (k (.ptr r [.idx i] (dR R.h)))else .fail
   |_,_=>.fail
  else .fail
 |.eP r p h=>iY r λR=>bif Nat.beq R.dY h then
   match aB p R.k R.x with
   |some ⟨.sl e kk,xs⟩=>bif !(K.sl e kk).beq k0 then .fail else bif ah e R.own then .eY (aF i (show List (El kk)from xs).length) inferInstance (k (.ptr r (p++[.idx i]) (dR R.h)))
     else .eY (aF i (show List (El kk)from xs).length) inferInstance (k (.gq e kk ((show List (El kk)from xs).getD i.toNat kk.zero) (R.out r (.sl e kk))))
   |_=>.fail
  else .fail
 |_=>.fail
structure xP where
 k:K
 x:El k
 bad:List TypeId
 tags:List Tag
 ws:List Wr
 keep:Bool
 all:List Tag
def fC.iQ(tk:fC):List Tag:=match tk.bad with
 | []=>[]
 |_=>tk.tags
def BV:List (Nat×AV)->xP->(xP->Prog J)->Prog J
 | [],b,k=>k b
 |(n,a) :: l,b,k=>match b.k,b.x with
  |.st c,x=>match aU n c x with
   |some d=>tC d.1 a λtk=>bif tk.k.beq d.1 then
     match dP n c x ⟨tk.k,tk.x⟩with
     |some z=>BV l { k:=.st z.1,x:=z.2,bad:=tk.bad++b.bad,tags:=lF (tk.iQ) b.tags,ws:=b.ws++tk.ws,keep:=tk.keep||b.keep,all:=tk.tags++b.all } k
     |none=>.fail
    else .fail
   |none=>.fail
  |_,_=>.fail
def xy:List (Nat×Operand)->(List (Nat×AV)->Prog J)->Prog J
 | [],k=>k []
 |(n,x) :: l,k=>eZ x λa=>xy l λr=>k ((n,a) :: r)
def pF:List Operand->(List AV->Prog J)->Prog J
 | [],k=>k []
 |x :: l,k=>eZ x λa=>pF l λr=>k (a :: r)
structure qX(kk:K) where
 xs:List (El kk)
 bad:List TypeId
 tags:List Tag
 ws:List Wr
 keep:Bool
 all:List Tag
def IV(kk:K):List (Nat×AV)->qX kk->(qX kk->Prog J)->Prog J
 | [],b,k=>k b
 |(n,a) :: l,b,k=>tC kk a λtk=>match b_ tk.k kk tk.x with
  |some y=>bif Nat.beq n (dR b.xs)then IV kk l { xs:=b.xs++[y],bad:=tk.bad++b.bad,tags:=lF (tk.iQ) b.tags,ws:=b.ws++tk.ws,keep:=tk.keep||b.keep,all:=tk.tags++b.all } k else .fail
  |none=>.fail
def Kq(e:TypeId)(kk:K)(a:AV)(k:qX kk->Prog J):Prog J:=match a with
 |.val .str s _=>match b_ (.int .u8) kk (0:Int)with
  |some _=>match b_ (.sl e (.int .u8)) (.sl e kk) (show List Int from s)with
   |some xs=>k ⟨xs,[],[],[],false,[]⟩
   |none=>.fail
  |none=>.fail
 |.fZ=>k ⟨[],[],[],[],false,[]⟩
 |.ref r g=>iY r λR=>bif Nat.beq R.g g then
   match b_ R.k (.sl e kk) R.x with
   |some xs=>bif kk.flat then k ⟨xs,[],[],[],false,[]⟩else bif R.fixed then .fail else k ⟨xs,bif ah e R.own then bC R.own kk else kk.tys,bif ah e R.own&&kk.tys.all (λt=>ah t R.own)then []else R.tags,[.r r none],R.keep,R.tags⟩
   |none=>.fail
  else .fail
 |a=>qH a λk' x tags=>match b_ k' (.sl e kk) x with
   |some xs=>k ⟨xs,kk.tys,bif kk.flat then []else tags,[],false,[]⟩
   |none=>.fail
def Em(T:bL)(d:Nat)(t:TypeId)(a b:AV)(k:List Wr->Prog J):Prog J:=
 match T.ty t with
 |some (.sl e kk)=>Kq e kk b λs=>bif ah e s.bad then .fail else match a with
  |.fZ=>.eY (s.xs.length*T.bytes e<=140737488355328) inferInstance (kF (aN d 0)
    (k (s.ws++[.r (aN d 0) (some (bP (.sl e kk) s.xs (e :: fF kk.tys s.bad) s.tags .anon s.keep)),.s d (.one (.ref (aN d 0) 0))])))
  |.ref r g=>iY r λR=>bif Nat.beq R.g g && !R.fixed&&ah e R.own && !(R.keep && !kk.tys.all (λt=>!ah t R.own || !ah t s.bad))&&s.ws.all (λw=>!w.loc.beq (.r r))&&zN s.ws R.tags then
    match b_ R.k (.sl e kk) R.x with
    |some xs=>.eY (((show List (El kk)from xs).length+s.xs.length)*T.bytes e<=140737488355328) inferInstance
      (k (s.ws++[.r r (some { R with
        k:=.sl e kk,x:=(show List (El kk)from xs)++s.xs
        own:=fF R.own s.bad
        tags:=lF (sJ r s.tags) R.tags
        w:=e :: R.w,h:=jC :: e :: R.h,g:=R.g+1,keep:=R.keep||s.keep }),.s d (.one (.ref r (R.g+1)))]))
    |none=>.fail
   else .fail
  |.eP r p h=>iY r λR=>bif Nat.beq R.dY h&&p.all Stp.j_&&(!p.isEmpty||R.isVar) && !R.fixed&&ah e R.own && !(R.keep && !kk.tys.all (λt=>!ah t R.own || !ah t s.bad))&&s.ws.all (λw=>!w.loc.beq (.r r))&&zN s.ws R.tags then
    match aB p R.k R.x with
    |some dd=>match b_ dd.1 (.sl e kk) dd.2,xz R p dd with
     |some xs,some R'=>.eY (((show List (El kk)from xs).length+s.xs.length)*T.bytes e<=140737488355328) inferInstance (kF (aN d 0)
       (k (s.ws++[.r r (some R'),.r (aN d 0) (some (bP (.sl e kk) ((show List (El kk)from xs)++s.xs)
          (fF ((e :: kk.tys).filter λt=>ah t R.own) s.bad) (lF s.tags R.tags) .anon (R.keep||s.keep))),.s d (.one (.ref (aN d 0) 0))])))
     |_,_=>.fail
    |none=>.fail
   else .fail
  |_=>.fail
 |_=>.fail
def ownRow(r g:Nat)(k:Root->(e:TypeId)->(kk:K)->List (El kk)->Prog J):Prog J:=iY r λR=>bif Nat.beq R.g g then match R.k,R.x with
  |.sl e kk,xs=>bif kk.flat&&ah e R.own then k R e kk (show List (El kk)from xs)else .fail
  |_,_=>.fail
 else .fail
def aev(k0:K)(r:Nat)(p:List Stp)(n:Nat)(lo hi:Option Int)(k:AV->Prog J):Prog J:=match k0 with
 |.sl e kk=>iY r λR=>bif Nat.beq R.dY n then match aB p R.k R.x with
   |some dd=>match b_ dd.1 (.sl e kk) dd.2 with
    |some xs=>.eY (0<=lo.getD 0/\lo.getD 0<=hi.getD ((show List (El kk)from xs).length:Int)/\hi.getD ((show List (El kk)from xs).length:Int)<=((show List (El kk)from xs).length:Int)) inferInstance
      (k (.sub r p n (lo.getD 0).toNat (hi.getD ((show List (El kk)from xs).length:Int)).toNat kk.size))
    |none=>.fail
   |none=>.fail
  else .fail
 |_=>.fail
def Kb(k0:K)(a:AV)(lo hi mx:Option Int)(k:AV->Prog J):Prog J:=match a with
 |.ref r g=>ownRow r g λ_ e kk xs=>bif (K.sl e kk).beq k0 then
   match mx with
   |none=>.eY (0<=lo.getD 0/\lo.getD 0<=hi.getD (xs.length:Int)/\hi.getD (xs.length:Int)<=(xs.length:Int)) inferInstance (k (.part r g (lo.getD 0).toNat (hi.getD (xs.length:Int)).toNat kk.size))
   |some m=>bif hi.isSome then .eY (0<=lo.getD 0/\lo.getD 0<=hi.getD 0/\hi.getD 0<=m/\m<=(xs.length:Int)) inferInstance (k .undef)else .fail
  else .fail
 |.part r g l0 h0 sz=>ownRow r g λ_ e kk xs=>bif (K.sl e kk).beq k0&&Nat.beq kk.size sz&&mx.isNone then
   .eY (0<=lo.getD 0/\lo.getD 0<=hi.getD ((h0-l0:Nat):Int)/\(l0:Int)+hi.getD ((h0-l0:Nat):Int)<=(xs.length:Int)) inferInstance
    (k (.part r g (l0+(lo.getD 0).toNat) (l0+(hi.getD ((h0-l0:Nat):Int)).toNat) sz))
  else .fail
 |.eP r p n=>bif mx.isNone then aev k0 r p n lo hi k else .fail
 |_=>.fail
def RL(k0:K)(a:AV)(k:List Wr->Prog J):Prog J:=match a with
 |.part r g lo hi sz=>ownRow r g λR e kk xs=>bif (K.sl e kk).beq k0&&Nat.beq kk.size sz then
   k [.r r (some { R with k:=.sl e kk,x:=xs.take lo++List.replicate (hi-lo) kk.zero++xs.drop hi,w:=e :: R.w })]
  else .fail
 |_=>.fail
def RN(k0:K)(d:Nat)(a b:AV)(k:List Wr->Prog J):Prog J:=match a,b with
 |.part r g l0 h0 sz,.part r' g' l1 h1 sz'=>ownRow r g λR e kk xs=>bif (K.sl e kk).beq k0&&Nat.beq r r'&&Nat.beq g g'&&Nat.beq sz sz'&&Nat.beq l0 0&&Nat.beq kk.size sz then
   .eY (h0<=l1) inferInstance (k [.r r (some { R with k:=.sl e kk,x:=xs.take h0++(xs.take h1).drop l1++xs.drop (h0+(h1-l1)),w:=e :: R.w }),.s d (.one (.part r g 0 (h0+(h1-l1)) sz))])
  else .fail
 |_,_=>.fail
def RQ(k0:K)(d:Nat)(a b:AV)(k:List Wr->Prog J):Prog J:=match a with
 |.ref r g=>ownRow r g λR e kk xs=>bif (K.sl e kk).beq k0 then Kq e kk b λs=>
   .eY (s.xs.length<=xs.length) inferInstance (k [.r r (some { R with k:=.sl e kk,x:=s.xs++xs.drop s.xs.length,w:=e :: R.w }),.s d (.one (.val (.int .i64) (s.xs.length:Int) []))])
  else .fail
 |_=>.fail
abbrev zP(e:TypeId)(kk:K):K:=.st (.pair kk (.pair (.sl e (.gap kk.size)) .unit))
def Aj:List Stp->List Int
 | []=>[]
 |.aY _ :: p=>Aj p
 |.idx i :: p=>i :: Aj p
def pJ:List Stp->List Stp->Bool
 | [],[]=>true
 |.aY n :: p,.aY m :: q=>Nat.beq n m&&pJ p q
 |.idx _ :: p,.idx _ :: q=>pJ p q
 |_,_=>false
def Re(T:bL)(d:Nat)(t:TypeId)(a b:AV)(k:List Wr->Prog J):Prog J:=match T.ty t,a,b with
 |some (.sl e kk),.eP r p h,.ref rb gb=>iY rb λB=>bif Nat.beq B.g gb && !B.fixed && !Nat.beq r rb&&p.all Stp.j_ && !ah jC (K.sl e kk).tys&&(K.sl e kk).tys.all (λt=>ah t B.own)then
   match b_ B.k (.sl e kk) B.x with
   |some ys=>iY r λR=>bif Nat.beq R.dY h && !R.fixed&&(K.sl e kk).tys.all (λt=>ah t R.own)&&R.tags.all (λt=>!Nat.beq t.1 rb)then
     match aB p R.k R.x with
     |some dd=>match b_ dd.1 (.sl e kk) dd.2 with
      |some xs=>match dz p R.k R.x dd with
       |some z=>.eY ((show List (El kk)from ys).length=1/\((show List (El kk)from xs).length+1)*T.bytes e<=140737488355328) inferInstance (kF (aN d 0)
         (k [.r rb none,.r r (some { R with k:=z.1,x:=z.2,w:=e :: R.w,h:=(K.sl e kk).tys++R.h }),.r (aN d 0) (some (bP (zP e kk) ((show List (El kk)from ys).getD 0 kk.zero,(([]:List Unit),())) (e :: kk.tys) [] .anon)),
          .s d (.one (.app r p (dR (e :: R.w)+dR ((K.sl e kk).tys++R.h)) (aN d 0)))]))
       |none=>.fail
      |none=>.fail
     |none=>.fail
    else .fail
   |none=>.fail
  else .fail
 |_,_,_=>.fail
def Ri(k0:K)(a:AV)(r:Nat)(p:List Stp)(n q:Nat)(k:List Wr->Prog J):Prog J:=match k0,a with
 |.sl e kk,.ptr r' p' h=>bif Nat.beq r r'&&pJ p p'&&p.all Stp.j_ && !Nat.beq r q then iY q λQ=>bif Nat.beq Q.dY 0&&(e :: kk.tys).all (λt=>ah t Q.own)then
    match b_ Q.k (zP e kk) Q.x with
    |some y=>iY r λR=>bif Nat.beq R.dY n && !R.fixed&&clean R.h h (iL p' R.k)&&(K.sl e kk).tys.all (λt=>ah t R.own)&&R.tags.all (λt=>!Nat.beq t.1 q)then
      match aB p R.k R.x with
      |some dd=>match b_ dd.1 (.sl e kk) dd.2 with
       |some xs=>match dz p R.k R.x ⟨.sl e kk,(show List (El kk)from xs)++[(show El kk from y.1)]⟩with
        |some z=>k [.r q none,.r r (some { R with k:=z.1,x:=z.2,w:=iV R p :: e :: R.w,h:=(K.sl e kk).tys++R.h })]
        |none=>.fail
       |none=>.fail
      |none=>.fail
     else .fail
    |none=>.fail
   else .fail
  else .fail
 |_,_=>.fail
def RU(k0:K)(a:AV)(r:Nat)(p:List Stp)(n m:Nat)(k:List Wr->Prog J):Prog J:=match k0,a with
 |.sl e kk,.ptr r' p' h=>bif Nat.beq r r'&&pJ p p' then .eY (Aj p=Aj p') inferInstance (iY r λR=>bif Nat.beq R.dY n && !R.fixed&&clean R.h h (iL p' R.k)&&(K.sl e kk).tys.all (λt=>ah t R.own)then
      match aB p R.k R.x with
      |some dd=>match b_ dd.1 (.sl e kk) dd.2 with
       |some xs=>match dz p R.k R.x ⟨.sl e kk,(show List (El kk)from xs).take m⟩with
        |some z=>k [.r r (some { R with k:=z.1,x:=z.2,w:=iV R p :: (K.sl e kk).tys++R.w,h:=(K.sl e kk).tys++R.h })]
        |none=>.fail
       |none=>.fail
      |none=>.fail
     else .fail)
  else .fail
 |_,_=>.fail
def U0(T:bL)(d:Nat)(t:TypeId)(a:AV)(r:Nat)(p:List Stp)(n lo hi sz:Nat)(k:List Wr->Prog J):Prog J:=match T.ty t with
 |some (.sl e kk)=>iY r λR=>bif Nat.beq kk.size sz&&Nat.beq R.dY n&&p.all Stp.j_&&(K.sl e kk).tys.all (λt=>ah t R.own)then
   match aB p R.k R.x with
   |some dd=>match b_ dd.1 (.sl e kk) dd.2 with
    |some xs=>match a with
     |.ref q g=>iY q λQ=>bif Nat.beq Q.g g && !Q.fixed && !Nat.beq r q&&ah e Q.own then match b_ Q.k (.sl e kk) Q.x with
       |some ys=>.eY ((show List (El kk)from ys).length=0/\lo=0/\hi*T.bytes e<=140737488355328) inferInstance (kF (aN d 0)
         (k [.r q none,.r (aN d 0) (some (bP (.sl e (.gap kk.size)) (List.replicate hi ()) [e] [] .anon)),.s d (.one (.sel r p n (aN d 0) hi (show List (El kk)from xs).length))]))
       |none=>.fail
      else .fail
     |.sel r' p' n' q a' b'=>iY q λQ=>bif Nat.beq r r'&&Nat.beq n n'&&pJ p p'&&Nat.beq Q.dY 0 && !Q.fixed && !Nat.beq r q&&ah e Q.own then match b_ Q.k (.sl e (.gap kk.size)) Q.x with
       |some _=>.eY (a'<=lo/\lo<=hi/\hi=(show List (El kk)from xs).length/\b'=(show List (El kk)from xs).length/\(a'+(hi-lo))*T.bytes e<=140737488355328) inferInstance (kF (aN d 0)
         (k [.r q none,.r (aN d 0) (some (bP (.sl e (.gap kk.size)) (List.replicate (a'+(hi-lo)) ()) [e] [] .anon)),.s d (.one (.sel r p n (aN d 0) a' lo))]))
       |none=>.fail
      else .fail
     |_=>.fail
    |none=>.fail
   |none=>.fail
  else .fail
 |_=>.fail
def U1(k0:K)(a:AV)(r:Nat)(p:List Stp)(n q a' b':Nat)(k:List Wr->Prog J):Prog J:=match k0,a with
 |.sl e kk,.ptr r' p' h=>bif Nat.beq r r'&&pJ p p'&&p.all Stp.j_ && !Nat.beq r q then iY q λQ=>bif Nat.beq Q.dY 0&&ah e Q.own then
    match b_ Q.k (.sl e (.gap kk.size)) Q.x with
    |some _=>iY r λR=>bif Nat.beq R.dY n && !R.fixed&&clean R.h h (iL p' R.k)&&(K.sl e kk).tys.all (λt=>ah t R.own)&&R.tags.all (λt=>!Nat.beq t.1 q)then
      match aB p R.k R.x with
      |some dd=>match b_ dd.1 (.sl e kk) dd.2 with
       |some xs=>match dz p R.k R.x ⟨.sl e kk,(show List (El kk)from xs).take a'++(show List (El kk)from xs).drop b'⟩with
        |some z=>k [.r q none,.r r (some { R with k:=z.1,x:=z.2,w:=iV R p :: (K.sl e kk).tys++R.w,h:=(K.sl e kk).tys++R.h })]
        |none=>.fail
       |none=>.fail
      |none=>.fail
     else .fail
    |none=>.fail
   else .fail
  else .fail
 |_,_=>.fail
end
end
section
open Go
def Cont.fst:(ks ls:List K)->Cont (ks++ls)->Cont ks
 | [],_,_=>()
 |_ :: ks,ls,c=>(c.1,Cont.fst ks ls c.2)
def Cont.snd:(ks ls:List K)->Cont (ks++ls)->Cont ls
 | [],_,c=>c
 |_ :: ks,ls,c=>Cont.snd ks ls c.2
abbrev SENT:Nat:=4294967295
structure bI where
 ids:List Tag
 wb:Option (Nat×List Stp×List TypeId×List TypeId)
 ws:List Wr
 bt:List TypeId:=[]
 lie:Option (Nat×List Stp):=none
def idxOf:(p:List (Option Nat))->List Stp->Option (Cont (aD.into 0 p).kin)
 | [],[]=>some ()
 |some n :: p,.aY m :: q=>bif Nat.beq n m then idxOf p q else none
 |none :: p,.idx i :: q=>match idxOf p q with
  |some c=>some (i,c)
  |none=>none
 |_,_=>none
def pathOf:(p:List (Option Nat))->Cont (aD.into 0 p).kin->List Stp
 | [],_=>[]
 |some n :: p,c=>.aY n :: pathOf p c
 |none :: p,c=>.idx c.1 :: pathOf p c.2
def sZ:(p:List (Option Nat))->Int->List Stp
 | [],_=>[]
 |some n :: p,m=>.aY n :: sZ p m
 |none :: p,m=>.idx m :: sZ p m
def ou:(p:List (Option Nat))->List Stp->Option (Option Int)
 | [],[]=>some none
 |some n :: p,.aY m :: q=>bif Nat.beq n m then ou p q else none
 |none :: p,.idx i :: q=>match ou p q with
  |some none=>some (some i)
  |_=>none
 |_,_=>none
section
variable {J:Type}
def wF(k:K)(own ow:List TypeId):Bool:=k.tys.all λt=>ah t own==ah t ow
def Nl:(ks:List K)->List (TypeId×Dat×List Tag)->(Cont ks->List Tag->Prog J)->Prog J
 | [],[],k=>k () []
 |kk :: ks,(t,d,tags) :: l,k=>sG tags (t :: d.1.tys) (match b_ d.1 kk d.2 with
  |some x=>Nl ks l λc ts=>k (x,c) (lF tags ts)
  |none=>.fail)
 |_,_,_=>.fail
def n_:(ps:List aD)->List AV->(Cont (kin ps)->List bI->Prog J)->Prog J
 | [],[],k=>k () []
 |.val kk _ :: ps,a :: l,k=>
  let go (x:El kk) (tags:List Tag):Prog J:=n_ ps l λc is=>k (x,c) (⟨tags,none,[],[],none⟩ :: is)
  match a with
  |.fZ=>match kk,go with
   |.sl _ _,go=>go [] []
   |_,_=>.fail
  |a=>qH a λk' x tags=>match b_ k' kk x with
   |some y=>go y (bif kk.flat then []else tags)
   |none=>.fail
 |.ro kk :: ps,a :: l,k=>
  let go (d:Dat) (tags:List Tag):Prog J:=match b_ d.1 kk d.2 with
   |some y=>n_ ps l λc is=>k (y,c) (⟨tags,none,[],[],none⟩ :: is)
   |none=>.fail
  addrOf a (λR r _ d=>go d ((r,dR R.w) :: R.tags)) (λ_ d tags=>go d tags)
 |.rw kk ow wt ht :: ps,a :: l,k=>match a with
  |.ptr r p h=>iY r λR=>bif clean R.h h (iL p R.k)&&FN p R then
    match aB p R.k R.x with
    |some d=>match b_ d.1 kk d.2 with
     |some y=>bif wF kk R.own ow then n_ ps l λc is=>k (y,c) (⟨R.tags,some (r,p,wt,ht),[],[iV R p],none⟩ :: is)else .fail
     |none=>.fail
    |none=>.fail
   else .fail
  |_=>.fail
 |.bO kk ow wt :: ps,a :: l,k=>
  let go (R:Root) (r:Nat) (p:List Stp) (d:Dat):Prog J:=match b_ d.1 kk d.2 with
   |some y=>bif wF kk R.own ow then n_ ps l λc is=>k (y,c) (⟨R.tags,some (r,p,wt,kk.tys),[],[],none⟩ :: is)else .fail
   |none=>.fail
  match a with
  |.eP r p h=>iY r λR=>bif Nat.beq R.dY h then
    match aB p R.k R.x with
    |some d=>go R r p d
    |none=>.fail
   else .fail
  |.ref r g=>iY r λR=>bif Nat.beq R.g g then go R r [] ⟨R.k,R.x⟩else .fail
  |_=>.fail
 |.own kk ow :: ps,a :: l,k=>tC kk a λtk=>match b_ tk.k kk tk.x with
  |some y=>bif wF kk tk.own ow then n_ ps l λc is=>k (y,c) (⟨tk.tags,none,tk.ws,[],none⟩ :: is)else .fail
  |none=>.fail
 |.fn f ks :: ps,a :: l,k=>match a with
  |.fn f' caps=>bif Nat.beq f f' then Nl ks caps λc tags=>n_ ps l λc' is=>k (Cont.app ks (kin ps) c c') (⟨tags,none,[],[],none⟩ :: is)else .fail
  |_=>.fail
 |.into _ [] :: ps,a :: l,k=>match a with
  |.fZ=>n_ ps l λc is=>k c (⟨[],none,[],[],none⟩ :: is)
  |_=>.fail
 |.into _ (t :: p) :: ps,a :: l,k=>match a with
  |.ptr r q h=>iY r λR=>bif clean R.h h (iL q R.k)&&FN q R&&(aB q R.k R.x).isSome then
    match idxOf (t :: p) (q.drop (q.length-(t :: p).length))with
    |some c=>n_ ps l λc' is=>k (Cont.app (aD.into 0 (t :: p)).kin (kin ps) c c') (⟨[],none,[],[],some (r,q)⟩ :: is)
    |none=>.fail
   else .fail
  |_=>.fail
 |_,_,_=>.fail
def bI.touched(i:bI):List Nat:=(match i.wb with|some (r,_)=>[r] | none=>[])++i.ws.flatMap Wr.fA
def yT:List bI->Bool
 | []=>true
 |i :: l=>match i.wb with
  |some _=>l.all λj=>j.wb.isNone
  |none=>yT l
def vg(r:Nat):List bI->Nat->Option Nat
 | [],_=>none
 |i :: is,n=>match i.wb with
  |some (r',_)=>bif Nat.beq r r' then some n else vg r is (n+1)
  |none=>vg r is (n+1)
def AU(is:List bI):List aD->List bI->Bool
 |.val k bJ :: ps,i :: l=>(bJ.all λj=>match is[j]? with|some q=>q.wb.isSome|none=>false)&&i.ids.all (λt=>match vg t.1 is 0 with
   |some n=>ah n bJ&&(match is[n]? with
     |some j=>j.bt.all λb=>!ah b k.tys
     |none=>false)
   |none=>!ah t.1 (is.flatMap λj=>j.ws.flatMap Wr.fA))&&AU is ps l
 |_ :: ps,i :: l=>i.ids.all (λt=>!ah t.1 (is.flatMap bI.touched))&&AU is ps l
 | [],[]=>true
 |_,_=>false
def abQ(xH:List aD)(all:List bI)(j:Nat)(p:List (Option Nat))(i:bI):Bool:=match i.lie with
 |none=>true
 |some (r,q)=>match xH[j]?,all[j]? with
  |some (.rw _ _ _ _),some b=>match b.wb with
   |some (r',q',_,_)=>Nat.beq r r'&&Nat.beq q.length (q'.length+p.length)&&pJ q' (q.take q'.length)&&q'.all Stp.j_
   |none=>false
  |_,_=>false
def CP(xH:List aD)(all:List bI):List aD->List bI->Bool
 |.into j p :: ps,i :: l=>abQ xH all j p i&&CP xH all ps l
 |_ :: ps,_ :: l=>CP xH all ps l
 |_,_=>true
def BU:(ps:List aD)->List bI->Cont (gI ps)->(List Wr->Prog J)->Prog J
 | [],[],_,k=>k []
 |.rw kk _ _ _ :: ps,⟨_,some (r,p,wt,ht),_,_,_⟩ :: is,c,k=>.root r fun
  |some R=>match dz p R.k R.x ⟨kk,c.1⟩with
   |some z=>BU ps is c.2 λws=>k (.r r (some { R with k:=z.1,x:=z.2,w:=(iV R p :: wt)++R.w,h:=ht++R.h }) :: ws)
   |none=>.fail
  |none=>.fail
 |.bO kk _ _ :: ps,⟨_,some (r,p,wt,ht),_,_,_⟩ :: is,c,k=>.root r fun
  |some R=>match dz p R.k R.x ⟨kk,c.1⟩with
   |some z=>BU ps is c.2 λws=>k (.r r (some { R with k:=z.1,x:=z.2,w:=(SENT :: (kk.tys++wt))++R.w,h:=ht++R.h }) :: ws)
   |none=>.fail
  |none=>.fail
 |.val _ _ :: ps,_ :: is,c,k | .ro _ :: ps,_ :: is,c,k | .own _ _ :: ps,_ :: is,c,k | .fn _ _ :: ps,_ :: is,c,k | .into _ _ :: ps,_ :: is,c,k=>BU ps is c k
 |_,_,_,_=>.fail
def Ay(ws:List Wr):List Nat->(List Tag->Prog J)->Prog J
 | [],k=>k []
 |r :: l,k=>bif gZ r then Ay ws l λts=>k ((r,0) :: ts)else
  match ws.find? (λw=>w.loc.beq (.r r))with
  |some (.r _ (some R))=>Ay ws l λts=>k ((r,dR R.w) :: ts)
  |some _=>.fail
  |none=>.root r fun
   |some R=>Ay ws l λts=>k ((r,dR R.w) :: ts)
   |none=>.fail
def yK(is:List bI)(exts bJ:List Nat):List Nat:=
 exts.flatMap (λj=>match is[j]? with|some i=>i.ids.map (·.1)|none=>[])++
 bJ.flatMap (λj=>match is[j]? with
  |some i=>match i.wb with
   |some q=>[q.1]
   |none=>[]
  |none=>[])
def xq:List Nat->List Nat
 | []=>[]
 |n :: l=>bif ah n l then xq l else n :: xq l
def oq(d:Nat)(is:List bI)(ws:List Wr):(rs:List bN)->(c:Nat)->Cont (eU rs)->(List AV->List Wr->Prog J)->Prog J
 | [],_,_,k=>k [] []
 |.val kk exts bJ :: rs,c,x,k=>Ay ws (bif kk.flat then []else xq (yK is exts bJ)) λtags=>
   oq d is ws rs (c+1) x.2 λas ws'=>k (.val kk x.1 tags :: as) ws'
 |.own kk ow exts bJ :: rs,c,x,k=>Ay ws (bif kk.tys.all (λt=>ah t ow)then []else xq (yK is exts bJ)) λtags=>
   kF (aN d c) (oq d is ws rs (c+1) x.2 λas ws'=>k (.ref (aN d c) 0 :: as) (.r (aN d c) (some (bP kk x.1 ow tags .anon)) :: ws'))
 |.ptr t kk ow exts :: rs,c,x,k=>Ay ws (bif kk.tys.all (λt=>ah t ow)then []else xq (yK is exts [])) λtags=>
   kF (aN d c) (oq d is ws rs (c+1) x.2 λas ws'=>k (.ptr (aN d c) [] 0 :: as) (.r (aN d c) (some (bP kk x.1 ow tags (.var t))) :: ws'))
 |.into j p :: rs,c,x,k=>bif Nat.beq c 0&&rs.isEmpty then match is[j]? with
   |some i=>match i.wb with
    |some (r,q,_,ht)=>match ws.find? (λw=>w.loc.beq (.r r))with
     |some (.r _ (some R))=>bif ah jC ht then .fail else match p with
      | []=>k [.nN r q (dR R.w+dR R.h) (show Int from x.1).toNat] []
      |t :: p=>.br (decide ((show Int from x.1)<0)) (k [.jA] []) (k [.ptr r (q++sZ (t :: p) (show Int from x.1)) (dR R.h)] [])
     |_=>.fail
    |none=>.fail
   |none=>.fail
  else .fail
def Rl:List AV->gU
 | [a]=>.one a
 |l=>.mO l
def RF(n:Nat)(E:Entry)(dst:Option Nat)(nW:List AV)(k:List Wr->Prog J):Prog J:=
 n_ E.ps nW λc is=>bif Ei (is.flatMap bI.touched)&&yT is&&AU is E.ps is&&CP E.ps is E.ps is then
  .opt _ (E.F n c) λout=>BU E.ps is (Cont.snd (eU E.rs) (gI E.ps) out) λws=>
   match dst with
   |some d=>oq d is ws E.rs 0 (Cont.fst (eU E.rs) (gI E.ps) out) λas ws'=>k (is.flatMap bI.ws++ws++ws'++[.s d (Rl as)])
   |none=>k (is.flatMap bI.ws++ws)
 else .fail
def Aa(f d:Nat):List (Nat×Option Nat×Entry)->Option Entry
 | []=>none
 |(g,none,E) :: l=>bif Nat.beq f g then some E else Aa f d l
 |(g,some e,E) :: l=>bif Nat.beq f g&&Nat.beq d e then some E else Aa f d l
def FH(mx:Bool):IntKind->Int->List AV->(Int->Prog J)->Prog J
 |_,x,[],k=>k x
 |ik,x,.val (.int jk) y _ :: l,k=>bif uX ik jk then FH mx ik (if mx then(if y>x then y else x)else(if y<x then y else x)) l k else .fail
 |_,_,_,_=>.fail
def RP(T:bL)(d:Nat)(src dst:TypeId)(a:AV)(k:List Wr->Prog J):Prog J:=match T.ty src,T.ty dst with
 |some _,some (.int ik)=>match a with
  |.val (.int _) n _=>k [.s d (v1 (.int ik) (ik.wrap n))]
  |_=>.fail
 |some .str,some .str=>match a with
  |.val .str s _=>k [.s d (v1 .str s)]
  |_=>.fail
 |some (.sl _ (.int .u8)),some .str=>match a with
  |.fZ=>k [.s d (v1 .str [])]
  |a=>qH a λkk x _=>match kk,x with
   |.sl _ (.int .u8),xs=>k [.s d (v1 .str xs)]
   |_,_=>.fail
 |some .str,some (.sl e (.int .u8))=>match a with
  |.val .str s _=>kF (aN d 0) (k [.r (aN d 0) (some (bP (.sl e (.int .u8)) s [e] [] .anon)),.s d (.one (.ref (aN d 0) 0))])
  |_=>.fail
 |_,_=>.fail
def Es:List AV->(List (TypeId×Dat×List Tag)->Prog J)->Prog J
 | [],k=>k []
 |a :: l,k=>addrOf a
   (λR r p d=>bif Nat.beq (iV R p) SENT then .fail else Es l λcs=>k ((iV R p,d,(r,dR R.w) :: R.tags) :: cs))
   (λbt d tags=>Es l λcs=>k ((bt,d,tags) :: cs))
def Vb(k0:K)(a:AV)(lo hi:Option Int)(k:AV->Prog J):Prog J:=match a with
 |.val .str s _=>bif !k0.beq .str then .fail else
  let n:=(show List Int from s).length
  match lo,hi with
  |none,none=>k (.val .str s [])
  |some l,none=>.eY (0<=l/\l<=(n:Int)) inferInstance (k (.val .str ((show List Int from s).drop l.toNat) []))
  |none,some h=>.eY (0<=h/\h<=(n:Int)) inferInstance (k (.val .str ((show List Int from s).take h.toNat) []))
  |some l,some h=>.eY (0<=l/\l<=h/\h<=(n:Int)) inferInstance (k (.val .str (((show List Int from s).take h.toNat).drop l.toNat) []))
 |a=>qH a λkk x tags=>match kk,x with
  |.sl e kk,xs=>bif !k0.beq (.sl e kk)then .fail else
   let xs:=(show List (El kk)from xs)
   match lo,hi with
   |none,none=>k (.val (.sl e kk) xs tags)
   |some l,none=>.eY (0<=l/\l<=(xs.length:Int)) inferInstance (k (.val (.sl e kk) (xs.drop l.toNat) tags))
   |none,some h=>.eY (0<=h/\h<=(xs.length:Int)) inferInstance (k (.val (.sl e kk) (xs.take h.toNat) tags))
   |some l,some h=>.eY (0<=l/\l<=h/\h<=(xs.length:Int)) inferInstance (k (.val (.sl e kk) ((xs.take h.toNat).drop l.toNat) tags))
  |_,_=>.fail
def ve(x:Option Operand)(k:Option Int->Prog J):Prog J:=match x with
 |none=>k none
 |some y=>eZ y λa=>asInt a λ_ i=>k (some i)
def isZero:Option Operand->Bool
 |some (.const (.int _ 0))=>true
 |_=>false
def Nk(hi:Hint)(n:Nat)(dst:Option Nat)(c:Call)(k:List Wr->Prog J):Prog J:=match c.callee with
 |.value f=>eZ f fun
  |.fn f caps=>pF c.args.toList λl=>match Aa f (dst.getD 0) hi.calls with
   |some E=>bif Nat.beq E.f f then RF n E dst (l++caps.map λ(t,dd,tags)=>.gq t dd.1 dd.2 tags) k else .fail
   |none=>.fail
  |_=>.fail
 |_=>.fail
def Cj(d:Nat):List (Nat×List TypeId)->List TypeId
 | []=>[]
 |(e,l) :: m=>bif Nat.beq d e then l else Cj d m
def Ot(hi:Hint)(d:Nat)(k:K):List TypeId:=match Cj d hi.less with
 | []=>k.tys
 |l=>fF k.tys l
def rW{A:Type}:Nat->List A->List (Nat×A)
 |_,[]=>[]
 |i,a :: l=>(i,a) :: rW (i+1) l
def JU:K->List (Nat×AV)->Nat->Prog J->Prog J
 |.pair kk r,(n,a) :: l,i,p=>bif Nat.beq n i then tC kk a λtk=>bif tk.k.beq kk then JU r l (i+1) p else .fail else .fail
 |.unit,[],_,p=>p
 |_,_,_,_=>.fail
def RA(e:TypeId)(d:Nat)(a:AV)(k:List Wr->Prog J):Prog J:=match a with
 |.ref r g=>ownRow r g λR e' kk xs=>bif (K.sl e' kk).beq (.sl e (.int .u8))then .eY (0<xs.length) inferInstance (k [.r r (some { R with k:=.sl e' kk,x:=xs,w:=e' :: R.w }),.s d (.one (.ref r g))])else .fail
 |_=>.fail
def Vf(T:bL)(o:Oper)(d:Nat)(k:List Wr->Prog J):Prog J:=match o.op with
 |.slice t x lo hi mx=>match T.ty t with
  |some kk=>eZ x λa=>ve lo λlo=>ve hi λhi=>ve mx λmx=>Kb kk a lo hi mx λu=>k [.s d (.one u)]
  |none=>.fail
 |.call c=>match c.callee with
  |.builtin .len=>pF c.args.toList fun
   | [.part _ _ lo hi _]=>match (c.argTypes[0]?).bind T.ty with
    |some (.sl _ _)=>k [.s d (.one (.val (.int .i64) ((hi-lo:Nat):Int) []))]
    |_=>.fail
   |_=>.fail
  |.builtin .append=>pF c.args.toList fun
   | [a,b]=>match (c.argTypes[0]?).bind T.ty,(c.argTypes[1]?).bind T.ty with
    |some (.sl e0 k0),some (.sl _ _)=>RN (.sl e0 k0) d a b k
    |_,_=>.fail
   |_=>.fail
  |.builtin .copy=>pF c.args.toList fun
   | [a,b]=>match (c.argTypes[0]?).bind T.ty,(c.argTypes[1]?).bind T.ty with
    |some (.sl e0 k0),some (.sl _ _)=>RQ (.sl e0 k0) d a b k
    |_,_=>.fail
   |_=>.fail
  |_=>.fail
 |.build t ps=>match T.ty t with
  |some (.st c)=>xy ps.toList λl=>JU c l 0 (k [.s d (.lit t c (l.map (·.2)))])
  |_=>.fail
 |.convert s t x=>match T.ty t with
  |some (.sl e (.int .u8))=>bif Nat.beq s t then eZ x λa=>RA e d a k else .fail
  |_=>.fail
 |_=>.fail
def Uq(T:bL)(s:Nat)(k:List Wr->Prog J):Prog J:=.slot s fun
 |.lit t c l=>bif (match T.ty t with|some kk=>kk.beq (.st c)|none=>false)then BV (rW 0 l) ⟨.st c,(K.st c).zero,[],[],[],false,[]⟩ λb=>
   bif !tH b.ws b.all then .fail else kF (aN s 1) (k (b.ws++[.r (aN s 1) (some (bP b.k b.x (fF b.k.tys b.bad) b.tags .anon b.keep)),.s s (.one (.ref (aN s 1) 0))]))
  else .fail
 |_=>.fail
def J_:List Stp->List Stp->Bool
 | [.aY i],[.aY j]=>!Nat.beq i j
 |_,_=>false
def freshen(r:Nat)(p:List Stp)(v v':Nat):AV->AV
 |.eP q p' n=>bif Nat.beq r q&&Nat.beq n v&&J_ p p' then .eP q p' v' else .eP q p' n
 |a=>a
def Sk(r:Nat)(p:List Stp)(v:Nat):List Wr->AV->AV
 | [.r _ (some R)]=>freshen r p v R.dY
 |_=>λa=>a
def Vd(s s2:Nat)(k:List Wr->Prog J):Prog J:=.slot s fun
 |.one (.eP r p v)=>tC .unit (.eP r p v) λtk=>bif Nat.beq s s2||tk.ws.isEmpty then .fail else kF (aN s 1) (.slot s2 fun
  |.lit t c l=>k (tk.ws++[.r (aN s 1) (some (bP tk.k tk.x tk.own tk.iQ .anon tk.keep)),.s s (.one (.ref (aN s 1) 0)),.s s2 (.lit t c (l.map (Sk r p v tk.ws)))])
  |_=>.fail)
 |_=>.fail
def shares(r:Nat)(l:List AV):Bool:=l.any fun
 |.eP q _ _=>Nat.beq r q
 |_=>false
def splits(s2:Nat):List (Nat×Operand)->Prog (List Wr)
 | []=>.ret []
 |(_,.tmp s) :: l=>.slot s fun
  |.one (.eP r _ _)=>.slot s2 fun
   |.lit _ _ m=>bif shares r m then OU (Vd s s2 .ret) (splits s2 l)else splits s2 l
   |_=>.fail
  |_=>splits s2 l
 |_ :: l=>splits s2 l
def EC:List (Nat×Operand)->(Nat->Prog J)->Prog J
 | [],_=>.fail
 |(_,.tmp s) :: l,k=>.slot s fun
  |.lit _ _ _=>k s
  |_=>EC l k
 |_ :: l,k=>EC l k
def akV(T:bL)(d:Nat)(t:TypeId)(ps:Array (Nat×Operand)):Prog (List Wr):=match T.ty t with
 |some (.st c)=>xy ps.toList λl=>BV l ⟨.st c,(K.st c).zero,[],[],[],false,[]⟩ λb=>bif !tH b.ws b.all then .fail else bif b.k.tys.all λt=>ah t b.bad then
   .ret (b.ws++[.s d (.one (.val b.k b.x b.tags))])
  else kF (aN d 0) (.ret (b.ws++[.r (aN d 0) (some (bP b.k b.x (fF b.k.tys b.bad) b.tags .anon b.keep)),.s d (.one (.ref (aN d 0) 0))]))
 |_=>.fail
def aep(T:bL)(d:Nat)(t:TypeId)(ps:Array (Nat×Operand)):Prog (List Wr):=
 EC ps.toList λs=>OU (splits s ps.toList) (OU (Uq T s .ret) (akV T d t ps))
def Ve(T:bL)(o:Oper)(d:Nat)(k:List Wr->Prog J):Prog J:=match o.op with
 |.build t ps=>(aep T d t ps).bind k
 |.call c=>match c.callee with
  |.builtin .append=>pF c.args.toList fun
   | [a,b]=>match c.argTypes[0]?,(c.argTypes[1]?).bind T.ty with
    |some t,some (.sl _ _)=>match b with
     |.sub r p n lo hi sz=>U0 T d t a r p n lo hi sz k
     |b=>Re T d t a b k
    |_,_=>.fail
   |_=>.fail
  |_=>.fail
 |.load t x=>eZ x λa=>yN T true t a λu=>match T.ty t with
  |some kk=>tC kk u λtk=>kF (aN d 0) (k (tk.ws++[Wr.r (aN d 0) (some (bP tk.k tk.x tk.own tk.iQ .anon tk.keep)),Wr.s d (.one (.ref (aN d 0) 0))]))
  |none=>.fail
 |_=>.fail
def Vh(T:bL)(t:TypeId)(a v:AV)(k:List Wr->Prog J):Prog J:=match v with
 |.nN r p n m=>match T.ty t with
  |some k0=>RU k0 a r p n m k
  |none=>.fail
 |.app r p n q=>match T.ty t with
  |some k0=>Ri k0 a r p n q k
  |none=>.fail
 |.sel r p n q a' b'=>match T.ty t with
  |some k0=>U1 k0 a r p n q a' b' k
  |none=>.fail
 |v=>Vg T t a v k
def aes(T:bL)(hi:Hint)(n:Nat)(o:Oper)(k:List Wr->Prog J):Prog J:=match o.op with
 |.store t x v=>eZ x λa=>eZ v λv=>Vh T t a v k
 |.call c=>match c.callee with
  |.builtin .clear=>pF c.args.toList fun
   | [a]=>match (c.argTypes[0]?).bind T.ty with
    |some (.sl e0 k0)=>RL (.sl e0 k0) a k
    |_=>.fail
   |_=>.fail
  |_=>Nk hi n none c k
 |_=>.fail
def aer(T:bL)(hi:Hint)(n:Nat)(o:Oper)(d:Nat)(k:List Wr->Prog J):Prog J:=
 let put (a:AV):Prog J:=k [.s d (.one a)]
 match o.op with
 |.move x=>uV x λa=>k [.s d a]
 |.assign x=>uV x fun
  |.one .fZ=>match T.ty o.type with
   |some (.sl e kk)=>.root (aN d 0) fun
    |none=>k [.r (aN d 0) (some (bP (.sl e kk) [] (e :: Ot hi d kk) [] .anon)),.s d (.one (.ref (aN d 0) 0))]
    |some _=>k [.s d (.one .fZ)]
   |_=>.fail
  |a=>k [.s d a]
 |.pick c a b=>eZ c λc=>asBool c λc=>uV a λa=>uV b λb=>.br c (k [.s d a]) (k [.s d b])
 |.alloc t=>match T.ty t with
  |some kk=>kF (aN d 0) (k [.r (aN d 0) (some (bP kk kk.zero kk.tys [] (.var t))),.s d (.one (.ptr (aN d 0) [] 0))])
  |none=>.fail
 |.box t x=>match T.ty t with
  |some kk=>eZ x λa=>Nr a kk (λr g=>put (.mg r g kk [])) <| tC kk a λtk=>bif tk.k.beq kk && !ah t tk.bad then
    kF (aN d 0) (k (tk.ws++[.r (aN d 0) (some (bP tk.k tk.x tk.own tk.iQ (.var t) tk.keep)),.s d (.one (.ptr (aN d 0) [] 0))]))
   else .fail
  |none=>.fail
 |.load t x=>eZ x λa=>yN T (ah d hi.akQ) t a put
 |.nilCheck x=>eZ x fun
  |.ptr r p h=>put (.ptr r p h)
  |.gq bt kk y tags=>put (.gq bt kk y tags)
  |_=>.fail
 |.binOp op t x y _=>Rt T t op x y λv=>k [.s d v]
 |.unOp op _ x=>eZ x λa=>Vy op a λv=>k [.s d v]
 |.convert s t x=>eZ x λa=>RP T d s t a k
 |.field t x f=>match T.ty t with
  |some kk=>eZ x λa=>I4 kk a f put
  |none=>.fail
 |.fieldAddr t x f=>match T.ty t with
  |some kk=>eZ x λa=>I1 kk a f put
  |none=>.fail
 |.indexAddr t x i=>match T.ty t with
  |some kk=>eZ x λa=>eZ i λi=>asInt i λ_ i=>JD kk a i put
  |none=>.fail
 |.index t x i=>eZ x λa=>eZ i λi=>asInt i λ_ i=>match T.ty t,a with
  |some .str,.val .str s _=>.eY (aF i (show List Int from s).length) inferInstance (put (.val (.int .u8) ((show List Int from s).getD i.toNat 0) []))
  |_,_=>.fail
 |.extract x i=>uV x fun
  |.mO l=>match l[i]? with
   |some a=>put a
   |none=>.fail
  |_=>.fail
 |.build t ps=>match T.ty t with
  |some (.st c)=>xy ps.toList λl=>BV l ⟨.st c,(K.st c).zero,[],[],[],false,[]⟩ λb=>bif !tH b.ws b.all then .fail else bif b.k.tys.all λt=>ah t b.bad then
    k (b.ws++[.s d (.one (.val b.k b.x b.tags))])
   else kF (aN d 0) (k (b.ws++[.r (aN d 0) (some (bP b.k b.x (fF b.k.tys b.bad) b.tags .anon b.keep)),.s d (.one (.ref (aN d 0) 0))]))
  |_=>.fail
 |.buildSlice t len ps=>match T.ty t with
  |some (.sl e kk)=>xy ps.toList λl=>IV kk l ⟨[],[],[],[],false,[]⟩ λb=>bif !(tH b.ws b.all&&Nat.ble (len*kk.size) 16777216)then .fail else bif Nat.beq (dR b.xs) len && !ah e b.bad then
    kF (aN d 0) (k (b.ws++[.r (aN d 0) (some (bP (.sl e kk) b.xs (e :: fF (Ot hi d kk) b.bad) b.tags .anon b.keep)),.s d (.one (.ref (aN d 0) 0))]))
   else bif Nat.beq (dR b.xs) 0 then
    kF (aN d 0) (k [.r (aN d 0) (some (bP (.sl e kk) (List.replicate len kk.zero) (e :: kk.tys) [] .anon)),.s d (.one (.ref (aN d 0) 0))])
   else .fail
  |_=>.fail
 |.makeSlice t x y=>match T.ty t with
  |some (.sl e kk)=>eZ x λa=>eZ y λb=>asInt a λik i=>asInt b λjk j=>bif uX ik .i64&&uX jk .i64 then
    .eY (i=j/\0<=i/\i*T.bytes e<=140737488355328) inferInstance (kF (aN d 0)
     (k [.r (aN d 0) (some (bP (.sl e kk) (List.replicate i.toNat kk.zero) (e :: kk.tys) [] .anon)),.s d (.one (.ref (aN d 0) 0))]))
   else .fail
  |_=>.fail
 |.makeFunc (.func f) first caps=>bif first.isEmpty then pF caps.toList λl=>Es l λcs=>put (.fn f cs)else .fail
 |.slice t x lo hi mx=>match T.ty t with
  |some kk=>bif isZero lo&&isZero hi&&isZero mx then match kk with
    |.sl _ _=>eZ x fun
     |.fZ=>put .fZ
     |a=>qH a λk' _ _=>bif k'.beq kk then put .fZ else .fail
    |_=>.fail
   else match mx with
    |none=>eZ x λa=>ve lo λlo=>ve hi λhi=>Vb kk a lo hi put
    |some _=>.fail
  |none=>.fail
 |.call c=>match c.callee with
  |.builtin .len=>pF c.args.toList fun
   | [.fZ]=>match (c.argTypes[0]?).bind T.ty with
    |some (.sl _ _)=>put (.val (.int .i64) 0 [])
    |_=>.fail
   | [.val .str s _]=>match (c.argTypes[0]?).bind T.ty with
    |some .str=>put (.val (.int .i64) ((show List Int from s).length:Int) [])
    |_=>.fail
   | [a]=>match (c.argTypes[0]?).bind T.ty with
    |some (.sl _ _)=>qH a λkk x _=>match kk,x with
     |.sl _ kk,xs=>put (.val (.int .i64) ((show List (El kk)from xs).length:Int) [])
     |_,_=>.fail
    |_=>.fail
   |_=>.fail
  |.builtin .append=>pF c.args.toList fun
   | [a,b]=>match c.argTypes[0]?,(c.argTypes[1]?).bind T.ty with
    |some t,some (.sl _ _)=>Em T d t a b k
    |some t,some .str=>Em T d t a b k
    |_,_=>.fail
   |_=>.fail
  |.builtin .min=>pF c.args.toList fun
   |.val (.int ik) x _ :: l=>FH false ik x l λz=>put (.val (.int ik) z [])
   |_=>.fail
  |.builtin .max=>pF c.args.toList fun
   |.val (.int ik) x _ :: l=>FH true ik x l λz=>put (.val (.int ik) z [])
   |_=>.fail
  |.value _=>Nk hi n (some d) c k
  |_=>.fail
 |_=>.fail
def AB(T:bL)(hi:Hint)(n:Nat)(o:Oper)(k:List Wr->Prog J):Prog J:=match o.dst with
 |some d=>bif Nat.blt d hi.nt then(bif ah d hi.parts then Vf T o d k else bif ah d hi.apps then Ve T o d k else aer T hi n o d k)else .fail
 |none=>aes T hi n o k
end
variable {R:Type}
def refine(Z:St)(s:Nat)(b:Bool)(T:List Tag):St:={ Z with slots:=upd Z.slots s (.one (.val .bool b T)) }
def guardOf(ops:Array Oper)(o:Oper):Option (Option Nat×Bool):=match o.guard with
 |none=>none
 |some (g,want)=>some ((ops[g]?).bind (·.dst),want)
def guarded(Z:St)(ops:Array Oper)(o:Oper)(go:List Loc->St->Option R)(skip:List Loc->St->Option R):Option R:=match guardOf ops o with
 |none=>go [] Z
 |some (some s,want)=>match Z.slots s with
  |.one (.val .bool b T)=>if b=true then(bif want then go [.s s] (refine Z s true T)else skip [.s s] (refine Z s true T))
    else(bif want then skip [.s s] (refine Z s false T)else go [.s s] (refine Z s false T))
  |.mO []=>skip [.s s] Z
  |_=>none
 |some (none,_)=>none
def Cb(hi:Hint)(o:Oper):Bool:=match o.dst with
 |some d=>Nat.blt d hi.nt
 |none=>true
def AA(o:Oper):List Wr:=match o.dst with
 |some d=>[.s d (.mO [])]
 |none=>[]
def IZ(T:bL)(hi:Hint)(n:Nat)(ops:Array Oper):List Oper->St->(St->Option R)->Option R
 | [],Z,K=>K Z
 |o :: l,Z,K=>guarded Z ops o
   (λ_ Z=>(AB T hi n o .ret).run Z λws=>IZ T hi n ops l (aL ws Z) K)
   (λ_ Z=>bif Cb hi o then IZ T hi n ops l (aL (AA o) Z) K else none)
structure Eff where
 i:Nat
 rd:List Loc
 wr:List Loc
def FD(x:Loc):List Loc->Bool
 | []=>false
 |y :: l=>bif x.beq y then true else FD x l
def Nc(a b:List Loc):Bool:=a.all λx=>!FD x b
def binders(ops:Array Oper)(i:Nat):List Nat:=((((ops[i]?).getD default).after.toList.filter (Region.binds .any)).map (·.on))
def leads(ops:Array Oper):Nat->Nat->Nat->Bool
 |0,_,_=>false
 |f+1,j,i=>ah j (binders ops i)||(binders ops i).any λb=>Nat.blt j b&&leads ops f j b
def zX(ops:Array Oper)(e:Eff)(l:List Eff):Bool:=
 (binders ops e.i).all (λb=>Nat.blt b e.i)&&l.all λb=>ah b.i (binders ops e.i)||((Nc b.wr (e.rd++e.wr)&&Nc b.rd e.wr)||leads ops 6 b.i e.i)
def Cg(T:bL)(hi:Hint)(n:Nat)(ops:Array Oper):List Oper->Nat->List Eff->St->(St->Option R)->Option R
 | [],_,_,Z,K=>K Z
 |o :: l,i,es,Z,K=>guarded Z ops o
   (λg Z=>(AB T hi n o .ret).vB Z g λws rd=>
    bif zX ops ⟨i,rd,ws.map Wr.loc⟩ es then Cg T hi n ops l (i+1) (⟨i,rd,ws.map Wr.loc⟩ :: es) (aL ws Z) K else none)
   (λg Z=>bif Cb hi o&&zX ops ⟨i,g,(AA o).map Wr.loc⟩ es then Cg T hi n ops l (i+1) (⟨i,g,(AA o).map Wr.loc⟩ :: es) (aL (AA o) Z) K else none)
inductive o9 where
 |undef
 |val (k:K) (ids:List Nat)
 |fZ
 |ref (r:Nat)
 |ptr (r:Nat) (p:List (Option Nat))
 |gq (bt:TypeId) (k:K) (ids:List Nat)
 |jA
 |fn (f:Nat) (caps:List (TypeId×K×List Nat))
def BX:List (TypeId×K×List Nat)->List K
 | []=>[]
 |c :: l=>c.2.1 :: BX l
def o9.ks:o9->List K
 |.val k _ | .gq _ k _=>[k]
 |.ptr _ p=>(aD.into 0 p).kin
 |.fn _ caps=>BX caps
 |_=>[]
structure zI where
 k:K
 own:List TypeId
 ids:List Nat
 kind:zH
 fixed:Bool
 keep:Bool
 log:Option (K×List TypeId×List TypeId)
def dG(Z:St)(tys:List TypeId):List Tag->Bool
 | []=>true
 |(r,n) :: l=>(bif gZ r then true else match Z.roots r with
  |some R=>!R.cZ&&clean R.w n tys
  |none=>false)&&dG Z tys l
def mD(rs:List Nat):List Tag->List Nat
 | []=>[]
 |(r,_) :: l=>bif (gZ r||ah r rs) && !ah r (mD rs l)then r :: mD rs l else mD rs l
def U8:List Stp->List (Option Nat)
 | []=>[]
 |.aY n :: p=>some n :: U8 p
 |.idx _ :: p=>none :: U8 p
def Kl(rs:List Nat):List (TypeId×Dat×List Tag)->List (TypeId×K×List Nat)
 | []=>[]
 |(t,d,tags) :: l=>(t,d.1,mD rs tags) :: Kl rs l
def IY(rs ex:List Nat):List Nat:=ex.filter λi=>gZ i||ah i rs
def U7(rs ex:List Nat):AV->o9
 |.undef=>.undef
 |.val k _ tags=>.val k (mD rs tags++IY rs ex)
 |.fZ=>.fZ
 |.ref r _=>.ref r
 |.eP _ _ _=>.undef
 |.ptr r p _=>.ptr r (U8 p)
 |.gq bt k _ tags=>.gq bt k (mD rs tags)
 |.jA=>.jA
 |.mg _ _ _ _=>.undef
 |.pO _=>.undef
 |.part _ _ _ _ _=>.undef
 |.nN _ _ _ _=>.undef
 |.sub _ _ _ _ _ _=>.undef
 |.sel _ _ _ _ _ _=>.undef
 |.app _ _ _ _=>.undef
 |.fn f caps=>.fn f (Kl rs caps)
def EB(t:TypeId)(ids:List Nat):Bool:=!Nat.beq t SENT||ids.all gZ
def yB(Z:St)(rs:List Nat):(cs:List (TypeId×K×List Nat))->List (TypeId×Dat×List Tag)->Option (Cont (BX cs))
 | [],[]=>some ()
 |(t,k,ids) :: cs,(t',d,tags) :: l=>bif Nat.beq t t'&&dG Z (t :: k.tys) tags&&iM (mD rs tags) ids&&EB t ids then
   match b_ d.1 k d.2,yB Z rs cs l with
   |some x,some c=>some (x,c)
   |_,_=>none
  else none
 |_,_=>none
def um(Z:St)(rs:List Nat):(sh:o9)->AV->Option (Cont sh.ks)
 |.undef,_=>some ()
 |.val k ids,.val k' x tags=>bif dG Z k.tys tags&&iM (mD rs tags) ids then
   match b_ k' k x with
   |some y=>some (y,())
   |none=>none
  else none
 |.fZ,.fZ=>some ()
 |.ref r,.ref r' g=>bif Nat.beq r r'&&ah r rs&&(match Z.roots r with|some R=>Nat.beq R.g g|none=>false)then some ()else none
 |.ptr r p,.ptr r' q h=>bif Nat.beq r r'&&ah r rs&&(match Z.roots r with|some R=>clean R.h h (iL q R.k)|none=>false)then idxOf p q else none
 |.gq bt k ids,.gq Ry k' x tags=>bif Nat.beq bt Ry&&dG Z (bt :: k.tys) tags&&iM (mD rs tags) ids&&EB bt ids then
   match b_ k' k x with
   |some y=>some (y,())
   |none=>none
  else none
 |.jA,.jA=>some ()
 |.fn f cs,.fn f' caps=>bif Nat.beq f f' then yB Z rs cs caps else none
 |_,_=>none
def JZ:(cs:List (TypeId×K×List Nat))->Cont (BX cs)->List (TypeId×Dat×List Tag)
 | [],_=>[]
 |(t,k,ids) :: cs,c=>(t,⟨k,c.1⟩,ids.map λr=>(r,0)) :: JZ cs c.2
def JY:(sh:o9)->Cont sh.ks->AV
 |.undef,_=>.undef
 |.val k ids,c=>.val k c.1 (ids.map λr=>(r,0))
 |.fZ,_=>.fZ
 |.ref r,_=>.ref r 0
 |.ptr r p,c=>.ptr r (pathOf p c) 0
 |.gq bt k ids,c=>.gq bt k c.1 (ids.map λr=>(r,0))
 |.jA,_=>.jA
 |.fn f cs,c=>.fn f (JZ cs c)
def Kn(wd:List (Nat×List Nat))(rs:List Nat)(Z:St):List Nat->List (Nat×o9)
 | []=>[]
 |s :: l=>(match Z.slots s with
  |.one a=>(s,U7 rs (Cj (2*s) wd) a)
  |_=>(s,.undef)) :: Kn wd rs Z l
def uE:List (Nat×o9)->List K
 | []=>[]
 |(_,sh) :: l=>sh.ks++uE l
def oN(r:Nat):List (Nat×K×List TypeId×List TypeId)->Option (K×List TypeId×List TypeId)
 | []=>none
 |(q,l) :: ls=>bif Nat.beq r q then some l else oN r ls
def Km(wd:List (Nat×List Nat))(f_:List (Nat×K×List TypeId×List TypeId))(rs:List Nat)(Z:St):List Nat->Option (List (Nat×zI))
 | []=>some []
 |r :: l=>match Z.roots r,Km wd f_ rs Z l with
  |some R,some q=>some ((r,⟨R.k,R.own,mD rs R.tags++(IY rs (Cj (2*r+1) wd)).filter (λq=>!Nat.beq q r),R.kind,R.fixed,R.keep,oN r f_⟩) :: q)
  |_,_=>none
def xD:List (Nat×zI)->List K
 | []=>[]
 |(_,sh) :: l=>sh.k :: xD l
def IU(Z:St)(rs:List Nat):(l:List (Nat×o9))->Option (Cont (uE l))
 | []=>some ()
 |(s,sh) :: l=>match Z.slots s with
  |.one a=>match um Z rs sh a,IU Z rs l with
   |some c,some d=>some (Cont.app sh.ks (uE l) c d)
   |_,_=>none
  |_=>match sh with
   |.undef=>match IU Z rs l with
    |some d=>some d
    |none=>none
   |_=>none
def UN:zH->zH->Bool
 |.anon,.anon | .par,.par | .dead,.dead=>true
 |.var a,.var b=>Nat.beq a b
 |_,_=>false
def xE(R:Root):Option (List TypeId×List TypeId)->Bool
 |some (wt,ht)=>iM R.w wt&&iM R.ew wt&&iM R.h ht&&iM R.eh ht&&Nat.beq R.g 0
 |none=>true
def Ui(R:Root):Option (K×List TypeId×List TypeId)->Bool
 |some (k,l)=>R.k.beq k&&xE R (some l)
 |none=>true
def CO(R:Root)(l:List TypeId):Root:={ R with own:=fF R.own l,w:=l++R.w }
def Ul(l:List TypeId)(r:Nat)(Z:St):St:=match l with
 | []=>Z
 |l=>match Z.roots r with
  |some R=>bif R.cZ || !dG Z R.qR R.tags || !R.own.any (λt=>ah t l)then Z else { Z with roots:=upd Z.roots r (some (CO R l)) }
  |none=>Z
def CR(hi:Hint):List Nat->St->St
 | [],Z=>Z
 |r :: rs,Z=>CR hi rs (Ul (Cj (1000000+r) hi.less) r Z)
def Nt(Z:St)(rs:List Nat):(l:List (Nat×zI))->Option (Cont (xD l))
 | []=>some ()
 |(r,sh) :: l=>match Z.roots r with
  |some R=>bif dG Z R.qR R.tags&&iM (mD rs R.tags) sh.ids&&wF sh.k R.own sh.own&&UN R.kind sh.kind&&(R.fixed==sh.fixed)&&(R.keep==sh.keep) && !R.cZ&&Ui R sh.log then
    match b_ R.k sh.k R.x,Nt Z rs l with
    |some x,some d=>some (x,d)
    |_,_=>none
   else none
  |none=>none
def mkS:(l:List (Nat×o9))->Cont (uE l)->Nat->gU
 | [],_,_=>.one .undef
 |(s,sh) :: l,c,n=>bif Nat.beq n s then .one (JY sh (Cont.fst sh.ks (uE l) c))else mkS l (Cont.snd sh.ks (uE l) c) n
def abY:Option (K×List TypeId×List TypeId)->List TypeId
 |some (_,l,_)=>l
 |none=>[]
def abX:Option (K×List TypeId×List TypeId)->List TypeId
 |some (_,_,l)=>l
 |none=>[]
def Aw:(l:List (Nat×zI))->Cont (xD l)->Nat->Option Root
 | [],_,_=>none
 |(r,sh) :: l,c,n=>bif Nat.beq n r then some { k:=sh.k,x:=c.1,own:=sh.own,tags:=sh.ids.map λr=>(r,0),w:=[],h:=[],g:=0,kind:=sh.kind,fixed:=sh.fixed,keep:=sh.keep,ew:=abY sh.log,eh:=abX sh.log }else Aw l c.2 n
structure zD where
 ss:List (Nat×o9)
 rs:List (Nat×zI)
abbrev zD.V(s:zD):Type:=Cont (uE s.ss++xD s.rs)
def U9(wd:List (Nat×List Nat))(f_:List (Nat×K×List TypeId×List TypeId))(ss rs:List Nat)(Z:St):Option zD:=match Km wd f_ rs Z rs with
 |some q=>bif f_.all (λp=>ah p.1 rs)then some ⟨Kn wd rs Z ss,q⟩else none
 |none=>none
def Eu(rs:List Nat)(s:zD)(Z:St):Option s.V:=match IU Z rs s.ss,Nt Z rs s.rs with
 |some a,some b=>some (Cont.app (uE s.ss) (xD s.rs) a b)
 |_,_=>none
def yR(s:zD)(c:s.V):St:=⟨mkS s.ss (Cont.fst _ _ c),Aw s.rs (Cont.snd _ _ c)⟩
inductive Ex where
 |normal
 |exit (id:Nat)
 |ret
def rounds{V:Type}(B:(V->Option R)->V->Option R):Nat->V->Option R
 |0=>λ_=>none
 |n+1=>B (rounds B n)
def Z_(b:Nat):List (Nat×List Nat×List Nat)->Option (List Nat×List Nat)
 | []=>none
 |(c,h) :: l=>bif Nat.beq b c then some h else Z_ b l
def Au{A:Type}(f:A->A->Bool):List A->List A->Bool
 | [],[]=>true
 |a :: l,b :: m=>f a b&&Au f l m
 |_,_=>false
def yC:(k:K)->El k->El k->Bool
 |.int _,x,y=>decide ((show Int from x)=y)
 |.bool,x,y=>(show Bool from x)==y
 |.str,x,y=>decide ((show List Int from x)=y)
 |.sl _ k,xs,ys=>Au (yC k) xs ys
 |.unit,_,_=>true
 |.pair a b,x,y=>yC a x.1 y.1&&yC b x.2 y.2
 |.st f,x,y=>yC f x y
 |.gap _,_,_=>true
 |.id _,x,y=>Nat.beq x y
def Ca:(ks:List K)->Cont ks->Cont ks->Bool
 | [],_,_=>true
 |k :: ks,c,d=>yC k c.1 d.1&&Ca ks c.2 d.2
def yt(ks:List K):Option (Cont ks)->Option (Cont ks)->Option (Cont ks)
 |some a,some b=>bif Ca ks a b then some a else none
 |_,_=>none
theorem ab3{A:Type}{f:A->A->Bool}(hf:∀x y,f x y=true->x=y):∀{l m:List A},Au f l m=true->l=m
 | [],[],_=>rfl
 |a :: l,b :: m,h=>by
  simp only[Au,bB]at h
  rw[hf a b h.1,ab3 hf h.2]
 | [],_ :: _,h=>by simp[Au]at h
 |_ :: _,[],h=>by simp[Au]at h
theorem ab4{A:Type}{f:A->A->Bool}(hf:∀x,f x x=true):∀{l:List A},Au f l l=true
 | []=>rfl
 |a :: l=>by simp[Au,hf a,ab4 hf]
theorem amk:∀{k:K} {x y:El k},yC k x y=true->x=y:=by
 intro k
 induction k with
 |int ik=>intro x y h;exact of_decide_eq_true h
 |bool=>intro x y h;exact eq_of_beq h
 |str=>intro x y h;exact of_decide_eq_true h
 |sl e k ih=>intro x y h;exact ab3 (λx y h=>ih h) h
 |unit=>intro x y _;rfl
 |pair a b iha ihb=>
  intro x y h
  simp only[yC,bB]at h
  exact Prod.ext (iha h.1) (ihb h.2)
 |st f ih=>intro x y h;exact ih (x:=x) (y:=y) h
 |gap n=>intro x y _;rfl
 |id e=>intro x y h;exact bD h
theorem aml:∀{k:K} {x:El k},yC k x x=true:=by
 intro k
 induction k with
 |int ik=>intro x;exact gQ rfl
 |bool=>intro x;exact @beq_self_eq_true Bool _ _ x
 |str=>intro x;exact gQ rfl
 |sl e k ih=>intro x;exact ab4 λx=>ih
 |unit=>intro x;rfl
 |pair a b iha ihb=>intro x;simp[yC,iha,ihb]
 |st f ih=>intro x;exact ih (x:=x)
 |gap n=>intro x;rfl
 |id e=>intro x;exact Nat.beq_refl x
theorem ZH:∀{ks:List K} {c d:Cont ks},Ca ks c d=true->c=d
 | [],_,_,_=>rfl
 |k :: ks,c,d,h=>by
  simp only[Ca,bB]at h
  exact Prod.ext (amk h.1) (ZH h.2)
theorem ZI:∀{ks:List K} {c:Cont ks},Ca ks c c=true
 | [],_=>rfl
 |k :: ks,c=>by simp[Ca,aml,ZI]
theorem Y3{ks:List K}(a:Option (Cont ks)):yt ks a a=a:=by
 cases a with
 |none=>rfl
 |some a=>simp[yt,ZI]
theorem aks{ks:List K}{a b:Option (Cont ks)}{z:Cont ks}(h:yt ks a b=some z):a=some z/\b=some z:=by
 cases a with
 |none=>simp[yt]at h
 |some a=>
  cases b with
  |none=>simp[yt]at h
  |some b=>
   simp only[yt]at h
   cases hb:Ca ks a b with
   |false=>rw[hb]at h;simp at h
   |true=>
    rw[hb]at h
    simp only[gP,au]at h
    have:=ZH hb
    subst h
    exact⟨rfl,by rw[this]⟩
def den(T:bL)(hi:Hint)(n:Nat)(ag:Option R->Option R->Option R):Nat->Code->St->(Ex->St->Option R)->Option R
 |_,.skip,Z,K=>K .normal Z
 |_,.region _ ops draw,Z,K=>bif draw then Cg T hi n ops ops.toList 0 [] Z (K .normal)else IZ T hi n ops ops.toList Z (K .normal)
 |b,.seq x y,Z,K=>den T hi n ag b x Z fun
  |.normal,Z'=>den T hi n ag b y Z' K
  |e,Z'=>K e Z'
 |b,.cond c x y,Z,K=>(eZ c λa=>.ret a).run Z fun
  |.pO e=>if e=true then ag (den T hi n ag b x Z K) (den T hi n ag b y Z K)else den T hi n ag b y Z K
  |a=>(asBool a .ret).run Z λt=>if t=true then den T hi n ag b x Z K else den T hi n ag b y Z K
 |_,.block id x,Z,K=>den T hi n ag id x Z fun
  |.exit i,Z'=>bif Nat.beq i id then K .normal Z' else K (.exit i) Z'
  |e,Z'=>K e Z'
 |b,.loop x,Z,K=>match Z_ b hi.loops with
  |some (ss,rs)=>match U9 hi.wide hi.f_ ss rs (CR hi rs Z)with
   |some s=>match Eu rs s (CR hi rs Z)with
    |some c=>rounds (λL v=>den T hi n ag b x (yR s v) fun
     |.normal,Z'=>match Eu rs s (CR hi rs Z')with
      |some v'=>L v'
      |none=>none
     |e,Z'=>K e Z') n c
    |none=>none
   |none=>none
  |none=>none
 |_,.exit id,Z,K=>K (.exit id) Z
 |_,.ret,Z,K=>K .ret Z
 |_,_,_,_=>none
def abA(j:Nat):(p:List (Option Nat))->Cont (aD.into 0 p).kin->AV
 | [],_=>.fZ
 |t :: p,c=>.ptr (aa j) (pathOf (t :: p) c) 0
def iU:(ps:List aD)->(i:Nat)->Cont (kin ps)->List (Nat×AV)
 | [],_,_=>[]
 |.val k bJ :: ps,i,c=>(i,.val k c.1 (bif k.flat then []else(jy i,0) :: bJ.map λj=>(aa j,0))) :: iU ps (i+1) c.2
 |.ro k :: ps,i,c=>(i,.gq SENT k c.1 [(jy i,0)]) :: iU ps (i+1) c.2
 |.rw _ _ _ _ :: ps,i,c=>(i,.ptr (aa i) [] 0) :: iU ps (i+1) c.2
 |.bO _ _ _ :: ps,i,c=>(i,.ref (aa i) 0) :: iU ps (i+1) c.2
 |.own _ _ :: ps,i,c=>(i,.ref (aa i) 0) :: iU ps (i+1) c.2
 |.fn f ks :: ps,i,c=>(i,.fn f (yx i ks (Cont.fst ks (kin ps) c))) :: iU ps (i+1) (Cont.snd ks (kin ps) c)
 |.into j p :: ps,i,c=>(i,abA j p (Cont.fst (aD.into 0 p).kin (kin ps) c)) :: iU ps (i+1) (Cont.snd (aD.into 0 p).kin (kin ps) c)
where yx (i:Nat):(ks:List K)->Cont ks->List (TypeId×Dat×List Tag)
 | [],_=>[]
 |k :: ks,c=>(SENT,⟨k,c.1⟩,[(jy i,0)]) :: yx i ks c.2
def iI:(ps:List aD)->(i:Nat)->Cont (kin ps)->List (Nat×Root)
 | [],_,_=>[]
 |.val _ _ :: ps,i,c=>iI ps (i+1) c.2
 |.ro _ :: ps,i,c=>iI ps (i+1) c.2
 |.rw k ow _ _ :: ps,i,c=>(aa i,bP k c.1 ow (bif k.tys.all (λt=>ah t ow)then []else [(jy i,0)]) .par true) :: iI ps (i+1) c.2
 |.bO k ow _ :: ps,i,c=>(aa i,{ bP k c.1 ow (bif k.tys.all (λt=>ah t ow)then []else [(jy i,0)]) .anon true with fixed:=true }) :: iI ps (i+1) c.2
 |.own k ow :: ps,i,c=>(aa i,bP k c.1 ow (bif k.tys.all (λt=>ah t ow)then []else [(jy i,0)]) .anon) :: iI ps (i+1) c.2
 |.fn _ ks :: ps,i,c=>iI ps (i+1) (Cont.snd ks (kin ps) c)
 |.into _ p :: ps,i,c=>iI ps (i+1) (Cont.snd (aD.into 0 p).kin (kin ps) c)
def lD:List (Nat×AV)->Nat->gU
 | [],_=>.one .undef
 |(s,a) :: l,n=>bif Nat.beq n s then .one a else lD l n
def iJ:List (Nat×Root)->Nat->Option Root
 | [],_=>none
 |(s,a) :: l,n=>bif Nat.beq n s then some a else iJ l n
def fu(ps:List aD)(c:Cont (kin ps)):St:=⟨lD (iU ps 0 c),iJ (iI ps 0 c)⟩
def rU(exts bJ:List Nat)(tags:List Tag):Bool:=tags.all λt=>
 bif gZ t.1 then ah (t.1 / 4) exts else bif Nat.beq (t.1%4) 0 then ah (t.1 / 4) bJ else true
def yX{J:Type}(T:bL)(own:Bool)(rv:ResultVar)(k:AV->Prog J):Prog J:=match rv with
 |.tmp t=>eZ (.tmp t) k
 |.cell t ty=>eZ (.tmp t) λa=>yN T own ty a k
def z_{J:Type}(T:bL):(rs:List bN)->List ResultVar->(Cont (eU rs)->List fC->List (List Tag)->Prog J)->Prog J
 | [],[],k=>k () [] []
 |.val kk exts bJ :: rs,v :: vs,k=>
  let go (x:El kk) (tags:List Tag):Prog J:=bif kk.flat||rU exts bJ tags then z_ T rs vs λc ts tg=>k (x,c) ts (tags :: tg)else .fail
  yX T false v λa=>match a with
  |.fZ=>match kk,go with
   |.sl _ _,go=>go [] []
   |_,_=>.fail
  |a=>qH a λk' x tags=>match b_ k' kk x with
   |some y=>go y (bif kk.flat then []else tags)
   |none=>.fail
 |.own kk ow exts bJ :: rs,v :: vs,k=>yX T true v λa=>tC kk a λtk=>match b_ tk.k kk tk.x with
  |some y=>bif iM (kk.tys.filter λt=>ah t ow) tk.own&&(kk.tys.all (λt=>ah t ow)||rU exts bJ tk.tags)then z_ T rs vs λc ts tg=>k (y,c) (tk :: ts) tg else .fail
  |none=>.fail
 |_,_,_=>.fail
def Nw(Z:St)(i:Nat):Option Root:=match Z.roots (aa i)with
 |some R=>bif R.cZ || !dG Z R.qR R.tags then none else some R
 |none=>none
def m_(Z:St):(ps:List aD)->Nat->Option (Cont (gI ps))
 | [],_=>some ()
 |.rw k ow wt ht :: ps,i=>match Nw Z i,m_ Z ps (i+1)with
  |some R,some d=>bif wF k R.own ow&&xE R (some (wt,ht))&&(k.tys.all (λt=>ah t ow)||rU [i] [] R.tags)then
    match b_ R.k k R.x with
    |some x=>some (x,d)
    |none=>none
   else none
  |_,_=>none
 |.bO k ow wt :: ps,i=>match Nw Z i,m_ Z ps (i+1)with
  |some R,some d=>bif wF k R.own ow&&xE R (some (wt,k.tys))&&(k.tys.all (λt=>ah t ow)||rU [i] [] R.tags)then
    match b_ R.k k R.x with
    |some x=>some (x,d)
    |none=>none
   else none
  |_,_=>none
 |.val _ _ :: ps,i=>m_ Z ps (i+1)
 |.ro _ :: ps,i=>m_ Z ps (i+1)
 |.own _ _ :: ps,i=>m_ Z ps (i+1)
 |.fn _ _ :: ps,i=>m_ Z ps (i+1)
 |.into _ _ :: ps,i=>m_ Z ps (i+1)
def fin(T:bL)(ps:List aD)(rs:List bN)(rv:List ResultVar)(Z:St):Option (Cont (eU rs++gI ps)):=
 (z_ T rs rv λc ts tg=>bif tH (ts.flatMap (·.ws)) (ts.flatMap (·.tags)++tg.flatten)then .ret (c,ts.flatMap (·.ws))else .fail:Prog (Cont (eU rs)×List Wr)).run Z λq=>
  match m_ (aL q.2 Z) ps 0 with
  |some d=>some (Cont.app (eU rs) (gI ps) q.1 d)
  |none=>none
def Root.abD(R:Root)(t:TypeId):Bool:=match R.kind with
 |.var u=>Nat.beq t u
 |_=>false
def OH{J:Type}(t:TypeId)(kk:K)(ow:List TypeId)(exts:List Nat)(a:AV)(k:El kk->Nat->Prog J):Prog J:=match a with
 |.ptr r [] _=>iY r λR=>bif R.abD t&&iM (kk.tys.filter λt=>ah t ow) R.own&&(kk.tys.all (λt=>ah t ow)||rU exts [] R.tags)then
   match b_ R.k kk R.x with
   |some y=>k y r
   |none=>.fail
  else .fail
 |_=>.fail
def cutV{J:Type}(j:Nat)(a:AV)(k:Int->Prog J):Prog J:=match a with
 |.ref r g=>bif Nat.beq r (aa j)&&Nat.beq g 0 then iY r λR=>bif Nat.beq R.g 0 then match R.k,R.x with
   |.sl _ kk,xs=>k ((show List (El kk)from xs).length:Int)
   |_,_=>.fail
  else .fail
  else .fail
 |.part r g lo hi _=>bif Nat.beq r (aa j)&&Nat.beq g 0&&Nat.beq lo 0 then k (hi:Int)else .fail
 |_=>.fail
def Oe{J:Type}(j:Nat)(p:List (Option Nat))(a:AV)(k:Int->Prog J):Prog J:=match a with
 |.jA=>k (-1)
 |.ptr r q h=>bif Nat.beq r (aa j)then iY r λR=>bif clean R.h h (iL q R.k)&&FN q R&&(aB q R.k R.x).isSome then
   match ou p q with
   |some (some i)=>.eY (0<=i) inferInstance (k i)
   |_=>.fail
  else .fail
  else .fail
 |_=>.fail
def Nu(T:bL)(ps:List aD):(rs:List bN)->List ResultVar->St->Option (Cont (eU rs++gI ps))
 | [.ptr t kk ow exts],[rv],Z=>(yX T false rv λa=>OH t kk ow exts a λy r=>.ret (y,r):Prog (El kk×Nat)).run Z λq=>
   match m_ (aL [.r q.2 none] Z) ps 0 with
   |some d=>some (q.1,d)
   |none=>none
 | [.into j []],[rv],Z=>(yX T false rv λa=>cutV j a λm=>.ret m:Prog Int).run Z λm=>
   match m_ Z ps 0 with
   |some d=>some (m,d)
   |none=>none
 | [.into j (t :: p)],[rv],Z=>(yX T false rv λa=>Oe j (t :: p) a λm=>.ret m:Prog Int).run Z λm=>
   match m_ Z ps 0 with
   |some d=>some (m,d)
   |none=>none
 |rs,gK,Z=>fin T ps rs gK Z
def wG:List aD->Nat->List (Nat×K×List TypeId×List TypeId)
 | [],_=>[]
 |.rw k _ wt ht :: ps,i=>(aa i,k,wt,ht) :: wG ps (i+1)
 |.bO k _ wt :: ps,i=>(aa i,k,wt,k.tys) :: wG ps (i+1)
 |_ :: ps,i=>wG ps (i+1)
def Ey(T:bL)(hi:Hint)(fn:Func)(ps:List aD)(rs:List bN)(n:Nat)(c:Cont (kin ps)):Option (Cont (eU rs++gI ps)):=
 match fn.body with
 |some code=>den T { hi with nt:=fn.ntmps,f_:=wG ps 0 } n (yt (eU rs++gI ps)) 0 code (fu ps c) fun
  |.ret,Z=>Nu T ps rs fn.results.toList Z
  |.normal,Z=>Nu T ps rs fn.results.toList Z
  |_,_=>none
 |none=>none
end
section
open Go
class Fr where
 free:Nat->Prop
 obj:Nat->Option Obj
 bM:Nat->Value
 TU:bM 0=.slice none 0 0
 abz:∀i,∃a n c,bM i=.slice a n c
abbrev aqE:Fr:=⟨λ_=>False,λ_=>none,λ_=>.slice none 0 0,rfl,λ_=>⟨none,0,0,rfl⟩⟩
variable [Fr]
structure jq(n lo hi:Nat):Prop where
 le:lo<=hi
 out:∀i,i<n->¬(lo<=i/\i<hi)
instance {n lo hi:Nat}:CoeFun (jq n lo hi) (λ_=>∀i,i<n->¬(lo<=i/\i<hi)):=⟨jq.out⟩
theorem jq.zero{n:Nat}:jq n 0 0:=⟨bV _,λ_ _=>by omega⟩
abbrev Heap:=Nat->Option Obj
def hp(w:World):Heap:=λb=>w.heap[b]?
def cellAt(h:Heap)(b o:Nat):Option Value:=match h b with
 |some (.cells c _ _)=>c[o]?
 |_=>none
def jM(h:Heap)(b:Nat):Option TypeId:=match h b with
 |some (.cells _ e _)=>some e
 |_=>none
def Cells(h:Heap)(b o:Nat)(cs:List Value):Prop:=∀i,i<cs.length->cellAt h b (o+i)=cs[i]?
theorem zU(w:World)(b o:Nat):w.cell? ⟨b,o,none⟩=cellAt (hp w) b o:=by
 unfold World.cell? cellAt hp
 cases w.heap[b]? with
 |none=>rfl
 |some x=>cases x<;>rfl
theorem BZ{h h':Heap}{b:Nat}(e:h' b=h b)(o:Nat):cellAt h' b o=cellAt h b o:=by unfold cellAt;rw[e]
def mh(h:Heap)(b:Nat)(e:TypeId):Prop:=jM h b=some e\/Fr.free b
theorem ZX{h h':Heap}{b:Nat}(e:h' b=h b):jM h' b=jM h b:=by unfold jM;rw[e]
theorem ZW{h h':Heap}{b:Nat}{t:TypeId}(e:h' b=h b)(H:mh h b t):mh h' b t:=H.imp (λH=>(ZX e).trans H) id
theorem Cells.congr{h h':Heap}{b o:Nat}{cs:List Value}(e:h' b=h b)(H:Cells h b o cs):Cells h' b o cs:=λi hi=>(BZ e _).trans (H i hi)
def lH:IntKind->Int->Prop
 |.u8,n=>0<=n/\n<256
 |_,_=>True
def Vw(h:Heap)(ok:Nat->Prop):(k:K)->El k->List Value->Prop
 |.int ik,n,cs=>cs=[.int ik n]/\lH ik n
 |.bool,b,cs=>cs=[.bool b]
 |.str,s,cs=>∃B:ByteArray,cs=[.string B]/\(show List Int from s)=bytesOf B
 |.sl e k,xs,cs=>∃a n c,cs=[.slice a n c]/\n=(show List (El k)from xs).length/\n<=c/\
   (0<n->∃b o,a=some ⟨b,o,none⟩/\ok b/\mh h b e/\
    ∀(i:Nat) (hi:i<(show List (El k)from xs).length),∃ds,Cells h b (o+i*k.size) ds/\Vw h ok k ((show List (El k)from xs)[i]) ds)
 |.unit,_,cs=>cs=[]
 |.pair a b,x,cs=>∃c1 c2,cs=c1++c2/\Vw h ok a x.1 c1/\Vw h ok b x.2 c2
 |.st f,x,cs=>Vw h ok f x cs
 |.gap n,_,cs=>cs.length=n
 |.id _,i,cs=>cs=[Fr.bM (show Nat from i)]
def Ow(h:Heap)(own:List TypeId)(ok:Nat->Prop):(k:K)->El k->List Value->List Nat->Prop
 |.sl e k,xs,cs,fo=>if ah e own=true then
   ∃a n c,cs=[.slice a n c]/\n=(show List (El k)from xs).length/\n<=c/\
    ((c=0/\fo=[])\/∃b o arr lo hi,a=some ⟨b,o,none⟩/\h b=some (.cells arr e (lo,hi))/\jq arr.size lo hi/\o+c*k.size<=arr.size/\
     ∃ay:List (List Nat),ay.length=(show List (El k)from xs).length/\fo.Perm (b :: ay.flatten)/\
      ∀(i:Nat) (hi:i<(show List (El k)from xs).length),∃ds,Cells h b (o+i*k.size) ds/\Ow h own ok k ((show List (El k)from xs)[i]) ds (ay.getD i []))
  else fo=[]/\Vw h ok (.sl e k) xs cs
 |.pair a b,x,cs,fo=>∃c1 c2 f1 f2,cs=c1++c2/\fo.Perm (f1++f2)/\Ow h own ok a x.1 c1 f1/\Ow h own ok b x.2 c2 f2
 |.st f,x,cs,fo=>Ow h own ok f x cs fo
 |.int ik,n,cs,fo=>fo=[]/\Vw h ok (.int ik) n cs
 |.bool,n,cs,fo=>fo=[]/\Vw h ok .bool n cs
 |.str,n,cs,fo=>fo=[]/\Vw h ok .str n cs
 |.unit,_,cs,fo=>fo=[]/\cs=[]
 |.gap n,_,cs,fo=>fo=[]/\cs.length=n
 |.id e,i,cs,fo=>fo=[]/\Vw h ok (.id e) i cs
theorem nV{h:Heap}{ok:Nat->Prop}:∀{k:K} {x:El k} {cs:List Value},Vw h ok k x cs->cs.length=k.size:=by
 intro k
 induction k with
 |int ik=>intro x cs H;rw[H.1];rfl
 |bool=>intro x cs H;rw[show cs=_ from H];rfl
 |id e=>intro x cs H;rw[show cs=_ from H];rfl
 |str=>intro x cs H;obtain⟨B,rfl,_⟩:=H;rfl
 |sl e k ih=>intro x cs H;obtain⟨a,n,c,rfl,_⟩:=H;rfl
 |unit=>intro x cs H;rw[show cs=_ from H];rfl
 |pair a b iha ihb=>intro x cs H;obtain⟨c1,c2,rfl,h1,h2⟩:=H;simp[K.size,iha h1,ihb h2]
 |st f ih=>intro x cs H;exact ih (x:=x) H
 |gap n=>intro x cs H;exact H
theorem lJ{h h':Heap}{ok ok':Nat->Prop}(hh:∀b,ok b->h' b=h b)(hk:∀b,ok b->ok' b):∀{k:K} {x:El k} {cs:List Value},Vw h ok k x cs->Vw h' ok' k x cs:=by
 intro k
 induction k with
 |int ik=>intro x cs H;exact H
 |bool=>intro x cs H;exact H
 |id e=>intro x cs H;exact H
 |str=>intro x cs H;exact H
 |sl e k ih=>
  intro x cs H
  obtain⟨a,n,c,e1,e2,e3,H⟩:=H
  refine⟨a,n,c,e1,e2,e3,λhn=>?_⟩
  obtain⟨b,o,ea,hb,ht,H⟩:=H hn
  refine⟨b,o,ea,hk b hb,ZW (hh b hb) ht,λi hi=>?_⟩
  obtain⟨ds,h1,h2⟩:=H i hi
  exact⟨ds,h1.congr (hh b hb),ih h2⟩
 |unit=>intro x cs H;exact H
 |pair a b iha ihb=>intro x cs H;obtain⟨c1,c2,e,h1,h2⟩:=H;exact⟨c1,c2,e,iha h1,ihb h2⟩
 |st f ih=>intro x cs H;exact ih (x:=x) H
 |gap n=>intro x cs H;exact H
theorem nG{h h':Heap}{ok ok':Nat->Prop}:∀{k:K} {x:El k} {cs:List Value},k.flat=true->Vw h ok k x cs->Vw h' ok' k x cs:=by
 intro k
 induction k with
 |sl e k ih=>intro x cs h;simp[K.flat]at h
 |gap n=>intro x cs h;simp[K.flat]at h
 |pair a b iha ihb=>
  intro x cs h H
  simp only[K.flat,bB]at h
  obtain⟨c1,c2,e,h1,h2⟩:=H
  exact⟨c1,c2,e,iha h.1 h1,ihb h.2 h2⟩
 |st f ih=>intro x cs h H;exact ih (x:=x) h H
 |_=>intro x cs _ H;exact H
theorem IB{h:Heap}{ok:Nat->Prop}:∀{k:K} {x:El k} {cs:List Value} (ts:List TypeId),(∀t∈k.tys,t∈ts)->Vw h ok k x cs->Vw h (λb=>ok b/\∃t∈ts,mh h b t) k x cs:=by
 intro k
 induction k with
 |int ik=>intro x cs ts _ H;exact H
 |bool=>intro x cs ts _ H;exact H
 |id e=>intro x cs ts _ H;exact H
 |str=>intro x cs ts _ H;exact H
 |sl e k ih=>
  intro x cs ts hts H
  obtain⟨a,n,c,e1,e2,e3,H⟩:=H
  refine⟨a,n,c,e1,e2,e3,λhn=>?_⟩
  obtain⟨b,o,ea,hb,ht,H⟩:=H hn
  refine⟨b,o,ea,⟨hb,e,hts e (by simp[K.tys]),ht⟩,ht,λi hi=>?_⟩
  obtain⟨ds,h1,h2⟩:=H i hi
  exact⟨ds,h1,ih ts (λt h=>hts t (by simp[K.tys,h])) h2⟩
 |unit=>intro x cs ts _ H;exact H
 |pair a b iha ihb=>
  intro x cs ts hts H
  obtain⟨c1,c2,e,h1,h2⟩:=H
  exact⟨c1,c2,e,iha ts (λt h=>hts t (by simp[K.tys,h])) h1,ihb ts (λt h=>hts t (by simp[K.tys,h])) h2⟩
 |st f ih=>intro x cs ts hts H;exact ih (x:=x) ts hts H
 |gap n=>intro x cs ts _ H;exact H
theorem fU{h:Heap}{own:List TypeId}{ok:Nat->Prop}:∀{k:K} {x:El k} {cs:List Value} {fo:List Nat},Ow h own ok k x cs fo->cs.length=k.size:=by
 intro k
 induction k with
 |int ik=>intro x cs fo H;exact nV H.2
 |bool=>intro x cs fo H;exact nV H.2
 |id e=>intro x cs fo H;exact nV H.2
 |str=>intro x cs fo H;exact nV H.2
 |sl e k ih=>
  intro x cs fo H
  unfold Ow at H
  split at H
  ·obtain⟨a,n,c,rfl,_⟩:=H;rfl
  ·exact nV H.2
 |unit=>intro x cs fo H;rw[H.2];rfl
 |pair a b iha ihb=>intro x cs fo H;obtain⟨c1,c2,f1,f2,rfl,_,h1,h2⟩:=H;simp[K.size,iha h1,ihb h2]
 |st f ih=>intro x cs fo H;exact ih (x:=x) H
 |gap n=>intro x cs fo H;exact H.2
theorem wB{ay:List (List Nat)}{i:Nat}{b:Nat}(h:b∈ay.getD i []):b∈ay.flatten:=by
 rw[iR]at h
 cases hi:ay[i]? with
 |none=>rw[hi]at h;simp at h
 |some l=>rw[hi]at h;exact BC.2 ⟨l,rq hi,by simpa using h⟩
theorem eO{h h':Heap}{own:List TypeId}{ok ok':Nat->Prop}(hh:∀b,ok b->h' b=h b)(hk:∀b,ok b->ok' b) :
  ∀{k:K} {x:El k} {cs:List Value} {fo:List Nat},(∀b∈fo,h' b=h b)->Ow h own ok k x cs fo->Ow h' own ok' k x cs fo:=by
 intro k
 induction k with
 |int ik=>intro x cs fo _ H;exact⟨H.1,lJ hh hk H.2⟩
 |bool=>intro x cs fo _ H;exact⟨H.1,lJ hh hk H.2⟩
 |id e=>intro x cs fo _ H;exact⟨H.1,lJ hh hk H.2⟩
 |str=>intro x cs fo _ H;exact⟨H.1,lJ hh hk H.2⟩
 |sl e k ih=>
  intro x cs fo hfo H
  unfold Ow at H ⊢
  split
  ·rename_i hm
   rw[aj hm]at H
   obtain⟨a,n,c,e1,e2,e3,H⟩:=H
   refine⟨a,n,c,e1,e2,e3,?_⟩
   rcases H with H|⟨b,o,arr,lo,hi,ea,hb,hf,hs,ay,hl,hp,H⟩
   ·exact .inl H
   ·have hbb:h' b=h b:=hfo b (hp.mem_iff.2 (by simp))
    refine .inr ⟨b,o,arr,lo,hi,ea,hbb.trans hb,hf,hs,ay,hl,hp,λi hi=>?_⟩
    obtain⟨ds,h1,h2⟩:=H i hi
    exact⟨ds,h1.congr hbb,ih (λb' hb'=>hfo b' (hp.mem_iff.2 (by simp[wB hb']))) h2⟩
  ·rename_i hm
   rw[aC hm]at H
   exact⟨H.1,lJ hh hk H.2⟩
 |unit=>intro x cs fo _ H;exact H
 |pair a b iha ihb=>
  intro x cs fo hfo H
  obtain⟨c1,c2,f1,f2,e,hp,h1,h2⟩:=H
  exact⟨c1,c2,f1,f2,e,hp,iha (λb hb=>hfo b (hp.mem_iff.2 (by simp[hb]))) h1,ihb (λb hb=>hfo b (hp.mem_iff.2 (by simp[hb]))) h2⟩
 |st f ih=>intro x cs fo hfo H;exact ih (x:=x) hfo H
 |gap n=>intro x cs fo _ H;exact H
theorem tY{h:Heap}{own:List TypeId}{ok:Nat->Prop}:∀{k:K} {x:El k} {cs:List Value} {fo:List Nat} (ts:List TypeId),(∀t∈bC own k,t∈ts)->Ow h own ok k x cs fo->Ow h own (λb=>ok b/\∃t∈ts,mh h b t) k x cs fo:=by
 intro k
 induction k with
 |int ik=>intro x cs fo ts _ H;exact H
 |bool=>intro x cs fo ts _ H;exact H
 |id e=>intro x cs fo ts _ H;exact H
 |str=>intro x cs fo ts _ H;exact H
 |sl e k ih=>
  intro x cs fo ts hts H
  unfold Ow at H ⊢
  split
  ·rename_i hm
   rw[aj hm]at H
   obtain⟨a,n,c,e1,e2,e3,H⟩:=H
   refine⟨a,n,c,e1,e2,e3,?_⟩
   rcases H with H|⟨b,o,arr,lo,hi,ea,hb,hf,hs,ay,hl,hp,H⟩
   ·exact .inl H
   ·refine .inr ⟨b,o,arr,lo,hi,ea,hb,hf,hs,ay,hl,hp,λi hi=>?_⟩
    obtain⟨ds,h1,h2⟩:=H i hi
    exact⟨ds,h1,ih ts (λt ht=>hts t (by simp[bC,hm,ht])) h2⟩
  ·rename_i hm
   rw[aC hm]at H
   exact⟨H.1,IB ts (λt ht=>hts t (by simpa[bC,hm,K.tys]using ht)) H.2⟩
 |unit=>intro x cs fo ts _ H;exact H
 |pair a b iha ihb=>
  intro x cs fo ts hts H
  obtain⟨c1,c2,f1,f2,e,hp,h1,h2⟩:=H
  exact⟨c1,c2,f1,f2,e,hp,iha ts (λt h=>hts t (by simp[bC,h])) h1,ihb ts (λt h=>hts t (by simp[bC,h])) h2⟩
 |st f ih=>intro x cs fo ts hts H;exact ih (x:=x) ts hts H
 |gap n=>intro x cs fo ts _ H;exact H
theorem qE{h:Heap}{own:List TypeId}{ok:Nat->Prop}(ok':Nat->Prop)(hk:∀b,ok b->ok' b) :
  ∀{k:K} {x:El k} {cs:List Value} {fo:List Nat},(∀b∈fo,ok' b)->Ow h own ok k x cs fo->Vw h ok' k x cs:=by
 intro k
 induction k with
 |int ik=>intro x cs fo _ H;exact lJ (λ_ _=>rfl) hk H.2
 |bool=>intro x cs fo _ H;exact lJ (λ_ _=>rfl) hk H.2
 |id e=>intro x cs fo _ H;exact lJ (λ_ _=>rfl) hk H.2
 |str=>intro x cs fo _ H;exact lJ (λ_ _=>rfl) hk H.2
 |sl e k ih=>
  intro x cs fo hfo H
  unfold Ow at H
  split at H
  ·obtain⟨a,n,c,e1,e2,e3,H⟩:=H
   refine⟨a,n,c,e1,e2,e3,λhn=>?_⟩
   rcases H with H|⟨b,o,arr,lo,hi,ea,hb,hf,hs,ay,hl,hp,H⟩
   ·omega
   ·refine⟨b,o,ea,hfo b (hp.mem_iff.2 (by simp)),by refine .inl ?_;unfold jM;rw[hb],λi hi=>?_⟩
    obtain⟨ds,h1,h2⟩:=H i hi
    exact⟨ds,h1,ih (λb' hb'=>hfo b' (hp.mem_iff.2 (by simp[wB hb']))) h2⟩
  ·exact lJ (λ_ _=>rfl) hk H.2
 |unit=>intro x cs fo _ H;exact H.2
 |pair a b iha ihb=>
  intro x cs fo hfo H
  obtain⟨c1,c2,f1,f2,e,hp,h1,h2⟩:=H
  exact⟨c1,c2,e,iha (λb hb=>hfo b (hp.mem_iff.2 (by simp[hb]))) h1,ihb (λb hb=>hfo b (hp.mem_iff.2 (by simp[hb]))) h2⟩
 |st f ih=>intro x cs fo hfo H;exact ih (x:=x) hfo H
 |gap n=>intro x cs fo _ H;exact H.2
theorem yg{h:Heap}{own own':List TypeId}{ok:Nat->Prop} :
  ∀{k:K} {x:El k} {cs:List Value} {fo:List Nat},(∀t∈k.tys,ah t own'=true->ah t own=true)->Ow h own ok k x cs fo->
   ∃aM fd,fo.Perm (aM++fd)/\Ow h own' (λb=>ok b\/b∈fd) k x cs aM:=by
 intro k
 induction k with
 |int ik=>intro x cs fo _ H;exact⟨[],[],by rw[H.1];exact .refl _,rfl,lJ (λ_ _=>rfl) (λ_ h=>.inl h) H.2⟩
 |bool=>intro x cs fo _ H;exact⟨[],[],by rw[H.1];exact .refl _,rfl,lJ (λ_ _=>rfl) (λ_ h=>.inl h) H.2⟩
 |id e=>intro x cs fo _ H;exact⟨[],[],by rw[H.1];exact .refl _,rfl,lJ (λ_ _=>rfl) (λ_ h=>.inl h) H.2⟩
 |str=>intro x cs fo _ H;exact⟨[],[],by rw[H.1];exact .refl _,rfl,lJ (λ_ _=>rfl) (λ_ h=>.inl h) H.2⟩
 |sl e k ih=>
  intro x cs fo ht H
  by_cases hm':ah e own'=true
  ·have hm:=ht e (by simp[K.tys]) hm'
   unfold Ow at H
   rw[aj hm]at H
   obtain⟨a,n,c,e1,e2,e3,H⟩:=H
   rcases H with⟨h0,h1⟩|⟨b,o,arr,lo,hi,ea,hb,hf,hs,ay,hl,hp,H⟩
   ·refine⟨[],[],by rw[h1];exact .refl _,?_⟩
    unfold Ow
    rw[aj hm']
    exact⟨a,n,c,e1,e2,e3,.inl ⟨h0,rfl⟩⟩
   ·
    have step:∀i:Nat,∃p:List Nat×List Nat,(hi:i<(show List (El k)from x).length)->((ay.getD i []).Perm (p.1++p.2)/\∃ds,Cells h b (o+i*k.size) ds/\Ow h own' (λb=>ok b\/b∈p.2) k ((show List (El k)from x)[i]) ds p.1):=by
     intro i
     by_cases hi:i<(show List (El k)from x).length
     ·obtain⟨ds,h1,h2⟩:=H i hi
      obtain⟨aM,fd,hp',h3⟩:=ih (λt ht'=>ht t (by simp[K.tys,ht'])) h2
      exact⟨(aM,fd),λ_=>⟨hp',ds,h1,h3⟩⟩
     ·exact⟨([],[]),λh=>absurd h hi⟩
    have⟨q,hq⟩:∃q:Nat->List Nat×List Nat,∀i,(hi:i<(show List (El k)from x).length)->((ay.getD i []).Perm ((q i).1++(q i).2)/\∃ds,Cells h b (o+i*k.size) ds/\Ow h own' (λb=>ok b\/b∈(q i).2) k ((show List (El k)from x)[i]) ds (q i).1):=
     ⟨λi=>Classical.choose (step i),λi=>Classical.choose_spec (step i)⟩
    let N:=(show List (El k)from x).length
    refine⟨b :: (List.range N).flatMap (λi=>(q i).1),(List.range N).flatMap (λi=>(q i).2),?_,?_⟩
    ·refine hp.trans ?_
     rw[kY]
     refine .cons b ?_
     have aoe:ay.flatten=(List.range N).flatMap (λi=>ay.getD i []):=by
      rw[List.flatMap_def]
      congr 1
      apply Im
      ·simp[N,hl]
      ·intro i h1 h2
       simp[iR,jl h1]
     rw[aoe]
     have gen:∀l:List Nat,(∀i∈l,i<N)->(l.flatMap (λi=>ay.getD i [])).Perm (l.flatMap (λi=>(q i).1)++l.flatMap (λi=>(q i).2)):=by
      intro l
      induction l with
      |nil=>intro _;exact .refl _
      |cons i l ihl=>
       intro hl'
       simp only[mP]
       have h1:=(hq i (hl' i (by simp))).1
       have h2:=ihl (λj hj=>hl' j (by simp[hj]))
       refine(h1.append h2).trans ?_
       simp only[gD]
       refine vL _ ?_
       rw[<-gD,<-gD]
       exact tQ _ BD
     exact gen _ (λi hi=>List.mem_range.1 hi)
    ·unfold Ow
     rw[aj hm']
     refine⟨a,n,c,e1,e2,e3,.inr ⟨b,o,arr,lo,hi,ea,hb,hf,hs,(List.range N).map (λi=>(q i).1),by simp[N],by rw[List.flatMap_def],λi hi=>?_⟩⟩
     obtain⟨ds,h1,h2⟩:=(hq i hi).2
     refine⟨ds,h1,?_⟩
     have:(List.map (λi=>(q i).1) (List.range N)).getD i []=(q i).1:=by
      rw[iR,DV,MO hi];rfl
     rw[this]
     exact eO (λ_ _=>rfl) (λb' hb'=>hb'.imp id (λh=>jZ.2 ⟨i,List.mem_range.2 hi,h⟩)) (λ_ _=>rfl) h2
  ·refine⟨[],fo,by simp,?_⟩
   unfold Ow
   rw[aC hm']
   exact⟨rfl,qE _ (λ_ h=>.inl h) (λ_ h=>.inr h) H⟩
 |unit=>intro x cs fo _ H;exact⟨[],[],by rw[H.1];exact .refl _,rfl,H.2⟩
 |pair a b iha ihb=>
  intro x cs fo ht H
  obtain⟨c1,c2,f1,f2,e,hp,h1,h2⟩:=H
  obtain⟨g1,d1,p1,r1⟩:=iha (λt h=>ht t (by simp[K.tys,h])) h1
  obtain⟨g2,d2,p2,r2⟩:=ihb (λt h=>ht t (by simp[K.tys,h])) h2
  refine⟨g1++g2,d1++d2,(hp.trans (p1.append p2)).trans ?_,c1,c2,g1,g2,e,.refl _,?_,?_⟩
  ·simp only[gD]
   refine vL _ ?_
   rw[<-gD,<-gD]
   exact tQ _ BD
  ·exact eO (λ_ _=>rfl) (λb' hb'=>hb'.imp id (λh=>by simp[h])) (λ_ _=>rfl) r1
  ·exact eO (λ_ _=>rfl) (λb' hb'=>hb'.imp id (λh=>by simp[h])) (λ_ _=>rfl) r2
 |st f ih=>intro x cs fo ht H;exact ih (x:=x) ht H
 |gap n=>intro x cs fo _ H;exact⟨[],[],by rw[H.1];exact .refl _,rfl,H.2⟩
theorem vM{h:Heap}{own own':List TypeId}{ok:Nat->Prop} :
  ∀{k:K} {x:El k} {cs:List Value} {fo:List Nat},(∀t∈k.tys,ah t own'=ah t own)->Ow h own ok k x cs fo->Ow h own' ok k x cs fo:=by
 intro k
 induction k with
 |int ik=>intro x cs fo _ H;exact H
 |bool=>intro x cs fo _ H;exact H
 |id e=>intro x cs fo _ H;exact H
 |str=>intro x cs fo _ H;exact H
 |sl e k ih=>
  intro x cs fo ht H
  unfold Ow at H ⊢
  rw[ht e (by simp[K.tys])]
  split
  ·rename_i hm
   rw[aj hm]at H
   obtain⟨a,n,c,e1,e2,e3,H⟩:=H
   refine⟨a,n,c,e1,e2,e3,?_⟩
   rcases H with H|⟨b,o,arr,lo,hi,ea,hb,hf,hs,ay,hl,hp,H⟩
   ·exact .inl H
   ·refine .inr ⟨b,o,arr,lo,hi,ea,hb,hf,hs,ay,hl,hp,λi hi=>?_⟩
    obtain⟨ds,h1,h2⟩:=H i hi
    exact⟨ds,h1,ih (λt ht'=>ht t (by simp[K.tys,ht'])) h2⟩
  ·rename_i hm
   rw[aC hm]at H
   exact H
 |unit=>intro x cs fo _ H;exact H
 |pair a b iha ihb=>
  intro x cs fo ht H
  obtain⟨c1,c2,f1,f2,e,hp,h1,h2⟩:=H
  exact⟨c1,c2,f1,f2,e,hp,iha (λt h=>ht t (by simp[K.tys,h])) h1,ihb (λt h=>ht t (by simp[K.tys,h])) h2⟩
 |st f ih=>intro x cs fo ht H;exact ih (x:=x) ht H
 |gap n=>intro x cs fo _ H;exact H
theorem BG{h:Heap}{own:List TypeId}{ok:Nat->Prop}:∀{k:K} {x:El k} {cs:List Value},(∀t∈k.tys,ah t own=false)->Vw h ok k x cs->Ow h own ok k x cs []:=by
 intro k
 induction k with
 |int ik=>intro x cs _ H;exact⟨rfl,H⟩
 |bool=>intro x cs _ H;exact⟨rfl,H⟩
 |id e=>intro x cs _ H;exact⟨rfl,H⟩
 |str=>intro x cs _ H;exact⟨rfl,H⟩
 |sl e k ih=>
  intro x cs ht H
  unfold Ow
  rw[aC (by rw[ht e (by simp[K.tys])];simp)]
  exact⟨rfl,H⟩
 |unit=>intro x cs _ H;exact⟨rfl,H⟩
 |pair a b iha ihb=>
  intro x cs ht H
  obtain⟨c1,c2,e,h1,h2⟩:=H
  exact⟨c1,c2,[],[],e,.refl _,iha (λt h=>ht t (by simp[K.tys,h])) h1,ihb (λt h=>ht t (by simp[K.tys,h])) h2⟩
 |st f ih=>intro x cs ht H;exact ih (x:=x) ht H
 |gap n=>intro x cs _ H;exact⟨rfl,H⟩
end
section
open Go
variable [Fr]
def bR:Nat->K->Option (Nat×K)
 |0,.pair a _=>some (0,a)
 |n+1,.pair a b=>match bR n b with
  |some (o,k)=>some (a.size+o,k)
  |none=>none
 |_,_=>none
def iW(h:Heap)(b o n:Nat):List Value:=(List.range n).map λj=>(cellAt h b (o+j)).getD undef
theorem yY{h:Heap}{b o:Nat}{cs:List Value}(H:Cells h b o cs):iW h b o cs.length=cs:=by
 unfold iW
 apply Im
 ·simp
 ·intro i h1 h2
  simp[H i h2,jl h2]
def aW(h:Heap):List Stp->(k:K)->List Value->Option (Nat×Nat)->Option (List Value×Option (Nat×Nat))
 | [],_,cs,wh=>some (cs,wh)
 |.aY n :: p,.st c,cs,wh=>match bR n c with
  |some (off,k')=>aW h p k' ((cs.drop off).take k'.size) (wh.map λq=>(q.1,q.2+off))
  |none=>none
 |.idx i :: p,.sl _ k,cs,_=>match cs with
  | [.slice (some a) _ _]=>aW h p k (iW h a.block (a.off+i.toNat*k.size) k.size) (some (a.block,a.off+i.toNat*k.size))
  |_=>none
 |_,_,_,_=>none
def bX:List Stp->(k:K)->El k->Prop
 | [],_,_=>True
 |.aY n :: p,.st c,x=>match aU n c x with
  |some d=>bX p d.1 d.2
  |none=>False
 |.idx i :: p,.sl _ k,xs=>0<=i/\i<((show List (El k)from xs).length:Int)/\bX p k ((show List (El k)from xs).getD i.toNat k.zero)
 |_,_,_=>False
def mU(h h':Heap)(b o n:Nat):Prop:=
 ∃arr gH e fr,h b=some (.cells arr e fr)/\h' b=some (.cells gH e fr)/\gH.size=arr.size/\∀i,¬(o<=i/\i<o+n)->gH[i]?=arr[i]?
theorem mU.of_same{h h':Heap}{b:Nat}(o n:Nat){arr:Array Value}{e:TypeId}{fr:Nat×Nat}(e1:h b=some (.cells arr e fr))(e2:h' b=h b):mU h h' b o n:=
 ⟨arr,arr,e,fr,e1,e2.trans e1,rfl,λ_ _=>rfl⟩
theorem mU.cells{h h':Heap}{b o n o':Nat}{cs:List Value}(H:mU h h' b o n)(hc:Cells h b o' cs)(hd:o'+cs.length<=o\/o+n<=o'):Cells h' b o' cs:=by
 obtain⟨arr,gH,e,fr,h1,h2,_,h3⟩:=H
 intro i hi
 have:=hc i hi
 unfold cellAt at this ⊢
 rw[h1]at this
 rw[h2]
 simp only at this ⊢
 rw[h3 _ (by omega)]
 exact this
theorem mU.cellAt{h h':Heap}{b o n:Nat}(H:mU h h' b o n){i:Nat}(hi:¬(o<=i/\i<o+n)):cellAt h' b i=cellAt h b i:=by
 obtain⟨arr,gH,e,fr,h1,h2,_,h3⟩:=H
 unfold Ow.cellAt
 rw[h1,h2]
 exact h3 i hi
theorem Cells.append{h:Heap}{b o:Nat}{c1 c2:List Value}:Cells h b o (c1++c2)↔Cells h b o c1/\Cells h b (o+c1.length) c2:=by
 constructor
 ·intro H
  refine⟨λi hi=>?_,λi hi=>?_⟩
  ·rw[H i (by simp;omega),xY hi]
  ·have:=H (c1.length+i) (by simp;omega)
   rw[xZ (by omega)]at this
   rw[oF,this]
   congr 1
   omega
 ·rintro⟨H1,H2⟩ i hi
  by_cases h1:i<c1.length
  ·rw[H1 i h1,xY h1]
  ·have:=H2 (i-c1.length) (by simp at hi;omega)
   rw[xZ (by omega),<-this]
   congr 1
   omega
theorem FP{a b c:List Nat}:(a++(b++c)).Perm (b++(a++c)):=by
 rw[<-gD,<-gD]
 exact tQ _ BD
theorem IM:∀(n:Nat) {c:K} {x:El c} {t z:Dat},dP n c x t=some z->aU n z.1 z.2=some t:=by
 intro n
 induction n with
 |zero=>
  intro c x t z h
  cases c with
  |pair a b=>simp only[dP,au]at h;subst h;rfl
  |_=>simp[dP]at h
 |succ n ih=>
  intro c x t z h
  cases c with
  |pair a b=>
   simp only[dP]at h
   cases h2:dP n b x.2 t with
   |none=>rw[h2]at h;simp at h
   |some y=>rw[h2]at h;simp only[au]at h;subst h;exact ih h2
  |_=>simp[dP]at h
theorem ZE:∀(n:Nat) {c:K} {x:El c} {s t z:Dat},aU n c x=some s->dP n c x t=some z->t.1=s.1->z.1=c:=by
 intro n
 induction n with
 |zero=>
  intro c x s t z hg h e
  cases c with
  |pair a b=>
   simp only[aU,au]at hg
   simp only[dP,au]at h
   subst hg;subst h
   simp only at e
   simp[e]
  |_=>simp[dP]at h
 |succ n ih=>
  intro c x s t z hg h e
  cases c with
  |pair a b=>
   simp only[aU]at hg
   simp only[dP]at h
   cases h2:dP n b x.2 t with
   |none=>rw[h2]at h;simp at h
   |some y=>rw[h2]at h;simp only[au]at h;subst h;simp[ih hg h2 e]
  |_=>simp[dP]at h
theorem RJ:∀(n:Nat) {c:K} {x:El c} {t z:Dat} {off:Nat} {k':K},bR n c=some (off,k')->dP n c x t=some z->bR n z.1=some (off,t.1):=by
 intro n
 induction n with
 |zero=>
  intro c x t z off k' ho h
  cases c with
  |pair a b=>
   simp only[dP,au]at h
   subst h
   simp only[bR,au,bZ]at ho ⊢
   exact⟨ho.1,trivial⟩
  |_=>simp[dP]at h
 |succ n ih=>
  intro c x t z off k' ho h
  cases c with
  |pair a b=>
   simp only[dP]at h
   cases h2:dP n b x.2 t with
   |none=>rw[h2]at h;simp at h
   |some y=>
    rw[h2]at h
    simp only[au]at h
    subst h
    simp only[bR]at ho ⊢
    cases h3:bR n b with
    |none=>rw[h3]at ho;simp at ho
    |some q=>
     rw[h3]at ho
     simp only[o_,au,bZ]at ho
     rw[ih (k':=q.2) (off:=q.1) (by rw[h3]) h2]
     simp[<-ho.1]
  |_=>simp[dP]at h
theorem Nn{h:Heap}{own:List TypeId}{ok:Nat->Prop}:∀(n:Nat) {c:K} {x:El c} {cs:List Value} {fo:List Nat} {d:Dat},
  Ow h own ok c x cs fo->aU n c x=some d->
   ∃off pre cs1 post bu fr,bR n c=some (off,d.1)/\cs=pre++(cs1++post)/\pre.length=off/\fo.Perm (bu++fr)/\Ow h own ok d.1 d.2 cs1 bu/\
    (∀(h':Heap) (ok':Nat->Prop) (t:Dat) (jw:List Value) (lT:List Nat) (z:Dat),dP n c x t=some z->Ow h' own ok' t.1 t.2 jw lT->
     (∀b,ok b->ok' b/\h' b=h b)->(∀b∈fr,h' b=h b)->Ow h' own ok' z.1 z.2 (pre++(jw++post)) (lT++fr))/\
    ∀m s2,m≠n->aU m c x=some s2->∃off2 cs2 Ab,bR m c=some (off2,s2.1)/\(cs.drop off2).take s2.1.size=cs2/\Ow h own ok s2.1 s2.2 cs2 Ab/\(∀b∈Ab,b∈fr)/\
     (∀jw:List Value,jw.length=d.1.size->((pre++(jw++post)).drop off2).take s2.1.size=cs2)/\∀t z,dP n c x t=some z->aU m z.1 z.2=some s2:=by
 intro n
 induction n with
 |zero=>
  intro c x cs fo d H hg
  cases c with
  |pair a b=>
   simp only[aU,au]at hg
   subst hg
   obtain⟨c1,c2,f1,f2,e,hp,h1,h2⟩:=H
   refine⟨0,[],c1,c2,f1,f2,rfl,by simpa using e,rfl,hp,h1,?_,?_⟩
   ·intro h' ok' t jw lT z hz ht hok hfr
    simp only[dP,au]at hz
    subst hz
    exact⟨jw,c2,lT,f2,by simp,.refl _,ht,eO (λb hb=>(hok b hb).2) (λb hb=>(hok b hb).1) hfr h2⟩
   ·intro m s2 hm hg2
    cases m with
    |zero=>exact absurd rfl hm
    |succ m=>
     simp only[aU]at hg2
     have key:∀(m:Nat) {c:K} {x:El c} {cs:List Value} {fo:List Nat} {d:Dat},Ow h own ok c x cs fo->aU m c x=some d->
       ∃off cs1 bu,bR m c=some (off,d.1)/\(cs.drop off).take d.1.size=cs1/\(∀b∈bu,b∈fo)/\Ow h own ok d.1 d.2 cs1 bu:=by
      intro m
      induction m with
      |zero=>
       intro c x cs fo d H hg
       cases c with
       |pair a b=>
        simp only[aU,au]at hg
        subst hg
        obtain⟨c1,c2,f1,f2,rfl,hp,h1,h2⟩:=H
        exact⟨0,c1,f1,rfl,by simp[<-fU h1],λb hb=>hp.mem_iff.2 (by simp[hb]),h1⟩
       |_=>simp[aU]at hg
      |succ m ih=>
       intro c x cs fo d H hg
       cases c with
       |pair a b=>
        simp only[aU]at hg
        obtain⟨c1,c2,f1,f2,rfl,hp,h1,h2⟩:=H
        obtain⟨off,cs1,bu,g1,g2,g3,g4⟩:=ih h2 hg
        refine⟨a.size+off,cs1,bu,by simp[bR,g1],?_,λb hb=>hp.mem_iff.2 (by simp[g3 b hb]),g4⟩
        rw[<-g2,<-fU h1,<-tT]
        simp
       |_=>simp[aU]at hg
     obtain⟨off2,cs2,Ab,g1,g2,g3,g4⟩:=key m h2 hg2
     refine⟨a.size+off2,cs2,Ab,by simp[bR,g1],?_,g4,g3,?_,?_⟩
     ·rw[e,<-g2,<-fU h1,<-tT];simp
     ·intro jw hl
      simp only at hl
      rw[<-g2,<-hl,<-tT];simp
     ·intro t z hz
      simp only[dP,au]at hz
      subst hz
      exact hg2
  |_=>simp[aU]at hg
 |succ n ih=>
  intro c x cs fo d H hg
  cases c with
  |pair a b=>
   simp only[aU]at hg
   obtain⟨c1,c2,f1,f2,e,hp,h1,h2⟩:=H
   obtain⟨off,pre,cs1,post,bu,fr,ho,ec,hl,hp',hd,hu,hoth⟩:=ih h2 hg
   refine⟨a.size+off,c1++pre,cs1,post,bu,f1++fr,?_,by rw[e,ec];simp,by simp[fU h1,hl],?_,hd,?_,?_⟩
   ·simp[bR,ho]
   ·exact(hp.trans (vL _ hp')).trans FP
   ·intro h' ok' t jw lT z hz ht hok hfr
    simp only[dP]at hz
    cases hz2:dP n b x.2 t with
    |none=>rw[hz2]at hz;simp at hz
    |some z2=>
     rw[hz2]at hz
     simp only[au]at hz
     subst hz
     have r2:=hu h' ok' t jw lT z2 hz2 ht hok (λb hb=>hfr b (by simp[hb]))
     exact⟨c1,pre++(jw++post),f1,lT++fr,by simp,FP,eO (λb hb=>(hok b hb).2) (λb hb=>(hok b hb).1) (λb hb=>hfr b (by simp[hb])) h1,r2⟩
   ·intro m s2 hm hg2
    cases m with
    |zero=>
     simp only[aU,au]at hg2
     subst hg2
     refine⟨0,c1,f1,rfl,by rw[e,<-fU h1];simp,h1,λb hb=>by simp[hb],λjw _=>by rw[<-fU h1];simp,?_⟩
     intro t z hz
     simp only[dP]at hz
     cases hz2:dP n b x.2 t with
     |none=>rw[hz2]at hz;simp at hz
     |some z2=>rw[hz2]at hz;simp only[au]at hz;subst hz;rfl
    |succ m=>
     simp only[aU]at hg2
     obtain⟨off2,cs2,Ab,g1,g2,g3,g4,g5,g6⟩:=hoth m s2 (by omega) hg2
     refine⟨a.size+off2,cs2,Ab,by simp[bR,g1],?_,g3,λb hb=>by simp[g4 b hb],?_,?_⟩
     ·rw[e,<-g2,<-fU h1,<-tT];simp
     ·intro jw hl'
      rw[<-g5 jw hl',<-fU h1,<-tT];simp
     ·intro t z hz
      simp only[dP]at hz
      cases hz2:dP n b x.2 t with
      |none=>rw[hz2]at hz;simp at hz
      |some z2=>rw[hz2]at hz;simp only[au]at hz;subst hz;exact g6 t z2 hz2
  |_=>simp[aU]at hg
theorem ak_:∀(n:Nat) {c:K} {x:El c} {s u y:Dat},aU n c x=some s->dP n c x u=some y->u.1.size=s.1.size->y.1.size=c.size:=by
 intro n
 induction n with
 |zero=>
  intro c x s u y h1 h2 e
  cases c with
  |pair a b=>simp only[aU,dP,au]at h1 h2;subst h1;subst h2;simp only at e;simp[K.size,e]
  |_=>simp[aU]at h1
 |succ n ih=>
  intro c x s u y h1 h2 e
  cases c with
  |pair a b=>
   simp only[aU,dP]at h1 h2
   cases h3:dP n b x.2 u with
   |none=>rw[h3]at h2;simp at h2
   |some y2=>rw[h3]at h2;simp only[au]at h2;subst h2;simp[K.size,ih h1 h3 e]
  |_=>simp[aU]at h1
theorem ZC:∀(n m:Nat) {c:K} {x:El c} {s u y:Dat} {off2:Nat} {k2:K},m≠n->aU n c x=some s->dP n c x u=some y->u.1.size=s.1.size->bR m c=some (off2,k2)->bR m y.1=some (off2,k2):=by
 intro n
 induction n with
 |zero=>
  intro m c x s u y off2 k2 hm h1 h2 e h3
  cases c with
  |pair a b=>
   simp only[aU,dP,au]at h1 h2
   subst h1;subst h2
   cases m with
   |zero=>exact absurd rfl hm
   |succ m=>simp only[bR]at h3 ⊢;simp only at e;rw[e];exact h3
  |_=>simp[aU]at h1
 |succ n ih=>
  intro m c x s u y off2 k2 hm h1 h2 e h3
  cases c with
  |pair a b=>
   simp only[aU,dP]at h1 h2
   cases h4:dP n b x.2 u with
   |none=>rw[h4]at h2;simp at h2
   |some y2=>
    rw[h4]at h2
    simp only[au]at h2
    subst h2
    cases m with
    |zero=>simp only[bR]at h3 ⊢;exact h3
    |succ m=>
     simp only[bR]at h3 ⊢
     cases h5:bR m b with
     |none=>rw[h5]at h3;simp at h3
     |some q=>
      rw[h5]at h3
      rw[ih m (off2:=q.1) (k2:=q.2) (by omega) h1 h4 e (by rw[h5])]
      exact h3
  |_=>simp[aU]at h1
theorem Ku{pre cs1 post:List Value}{off n:Nat}(h1:pre.length=off)(h2:cs1.length=n):((pre++(cs1++post)).drop off).take n=cs1:=by
 subst h1;subst h2;simp
theorem oP{A:Type}{l:List A}{d:A}{i:Nat}(h:i<l.length):l.getD i d=l[i]:=by
 rw[iR,jl h];rfl
theorem acJ{ay:List (List Nat)}{i:Nat}(h:i<ay.length):ay.flatten.Perm (ay.getD i []++((ay.take i).flatten++(ay.drop (i+1)).flatten)):=by
 have e:ay=ay.take i++(ay.getD i [] :: ay.drop (i+1)):=by
  rw[oP h,<-ML h,DY]
 have:ay.flatten=(ay.take i).flatten++(ay.getD i []++(ay.drop (i+1)).flatten):=by
  rw[congrArg List.flatten e];simp
 rw[this]
 exact FP
theorem aq2{ay:List (List Nat)}{i:Nat}(h:i<ay.length)(q:List Nat):(ay.set i q).flatten.Perm (q++((ay.take i).flatten++(ay.drop (i+1)).flatten)):=by
 have h':i<(ay.set i q).length:=by simpa using h
 have:=acJ h'
 rw[oP h',List.getElem_set_self]at this
 simpa[List.take_set_of_le,List.drop_set_of_lt]using this
theorem kL:∀(n:Nat) {c:K} {x:El c} {s:Dat},aU n c x=some s->az.lu n c=some s.1:=by
 intro n
 induction n with
 |zero=>
  intro c x s e
  cases c with
  |pair a b=>simp only[aU,au]at e;subst e;rfl
  |_=>simp[aU]at e
 |succ n ih=>
  intro c x s e
  cases c with
  |pair a b=>simp only[aU]at e;exact ih e
  |_=>simp[aU]at e
theorem Uz{h h':Heap}{own:List TypeId}{ok:Nat->Prop}:∀(p:List Stp) {k:K} {x:El k} {cs:List Value} {fo:List Nat} {wh:Option (Nat×Nat)},
  Ow h own ok k x cs fo->bX p k x->(∀t∈az p k,ah t own=true)->(∀b∈fo,h' b=h b)->aW h' p k cs wh=aW h p k cs wh:=by
 intro p
 induction p with
 |nil=>intro k x cs fo wh _ _ _ _;rfl
 |cons s p ih=>
  intro k x cs fo wh H hin yJ hfo
  cases s with
  |aY n=>
   cases k with
   |st c=>
    simp only[bX]at hin
    cases hcg:aU n c x with
    |none=>rw[hcg]at hin;exact hin.elim
    |some s=>
     rw[hcg]at hin
     obtain⟨off,pre,cs0,post,gX,fr,ho,ec,hl,hp,hd,_⟩:=Nn n (show Ow h own ok c x cs fo from H) hcg
     have hpt:az (.aY n :: p) (.st c)=az p s.1:=by simp[az,kL n hcg]
     rw[hpt]at yJ
     simp only[aW]
     rw[ho]
     simp only
     rw[ec,Ku hl (fU hd)]
     exact ih hd hin yJ (λb hb=>hfo b (hp.mem_iff.2 (bQ _ hb)))
   |_=>simp[bX]at hin
  |idx i=>
   cases k with
   |sl e k=>
    simp only[bX]at hin
    obtain⟨hi0,hi1,hin⟩:=hin
    have aor:i<((@List.length (El k) x:Nat):Int):=hi1
    have hlt:i.toNat < @List.length (El k) x:=by omega
    have eg:(show List (El k)from x).getD i.toNat k.zero=(show List (El k)from x)[i.toNat]'hlt:=oP hlt
    rw[eg]at hin
    unfold Ow at H
    rw[aj (yJ e (by simp[az]))]at H
    obtain⟨a,n,c,e1,e2,e3,H⟩:=H
    have e2':n=@List.length (El k) x:=e2
    rcases H with⟨h0,_⟩|⟨b,o,arr,lo,hi,ea,hb,hf,hs,ay,hfl,hp,H⟩
    ·omega
    ·obtain⟨ds,hcd,hod⟩:=H i.toNat hlt
     have hbb:h' b=h b:=hfo b (hp.mem_iff.2 (by simp))
     have r1:=yY hcd
     have r2:=yY (hcd.congr hbb)
     rw[fU hod]at r1 r2
     subst e1
     subst ea
     simp only[aW]
     rw[r1,r2]
     exact ih hod hin (λt ht=>yJ t (by simp[az,ht])) (λb' hb'=>hfo b' (hp.mem_iff.2 (by simp[wB hb'])))
   |_=>simp[bX]at hin
def M3(h h':Heap)(own:List TypeId)(k:K)(x:El k)(cs:List Value)(wh:Option (Nat×Nat))(z:Dat)(cs':List Value)(bad:List TypeId):Prop:=
 ∀q c0 w0,bX q k x->(∀t∈az q k,ah t own=true/\t∉bad)->aW h q k cs wh=some (c0,w0)->(aB q z.1 z.2).isSome=true->bX q z.1 z.2/\∃c1,aW h' q z.1 cs' wh=some (c1,w0)
structure Upd(h:Heap)(own:List TypeId)(ok:Nat->Prop)(p:List Stp)(k:K)(x:El k)(cs:List Value)(wh:Option (Nat×Nat))(d:Dat)(rest:List Nat)(cs1:List Value)(dm:Option (Nat×Nat)):Prop where
 go:∀(h':Heap) (ok':Nat->Prop) (t:Dat) (jw:List Value) (lT:List Nat) (z:Dat),dz p k x t=some z->jw.length=d.1.size->Ow h' own ok' t.1 t.2 jw lT->
  (∀b,ok b->ok' b/\h' b=h b)->(∀b∈rest,dm.map (·.1)≠some b->h' b=h b)->
  (∀b o,dm=some (b,o)->Cells h' b o jw/\mU h h' b o d.1.size)->
  (dm=none->jw=cs1)->(∀b o,wh=some (b,o)->dm.map (·.1)≠some b->h' b=h b)->
  ∃cs',cs'.length=cs.length/\Ow h' own ok' z.1 z.2 cs' (lT++rest)/\(∀b o,wh=some (b,o)->Cells h' b o cs')/\(wh=none->cs'=cs)/\
   ∀bad,t.1.size=d.1.size->M3 h h' own d.1 d.2 cs1 dm t jw bad->(t.1=d.1->z.1=k)/\z.1.size=k.size/\M3 h h' own k x cs wh z cs' bad/\aW h' p z.1 cs' wh=some (jw,dm)
def H7(h:Heap)(own:List TypeId)(ok:Nat->Prop)(p:List Stp)(k:K)(x:El k)(cs:List Value)(fo:List Nat)(wh:Option (Nat×Nat))(d:Dat):Prop:=
 ∃cs1 bu rest dm,aW h p k cs wh=some (cs1,dm)/\fo.Perm (bu++rest)/\Ow h own ok d.1 d.2 cs1 bu/\(∀b o,dm=some (b,o)->Cells h b o cs1)/\
  (∀b o,dm=some (b,o)->(az p k=[]/\∃o0,wh=some (b,o0)/\o0<=o/\o+d.1.size<=o0+k.size)\/
   (b∈rest/\∃arr e lo hi,h b=some (.cells arr e (lo,hi))/\jq arr.size lo hi/\(az p k).getLast?=some e/\o+d.1.size<=arr.size))/\
  (dm=none->wh=none)/\Upd h own ok p k x cs wh d rest cs1 dm
theorem JX{wh:Option (Nat×Nat)}{off b o:Nat}(e:wh.map (λq=>(q.1,q.2+off))=some (b,o)):∃o0,wh=some (b,o0)/\o=o0+off:=by
 cases wh with
 |none=>simp at e
 |some q=>
  simp only[o_,au,bZ]at e
  exact⟨q.2,by rw[<-e.1],e.2.symm⟩
theorem am2{h:Heap}{own:List TypeId}{ok:Nat->Prop}{p:List Stp}{n:Nat}{c:K}{x:El c}{cs:List Value}{fo:List Nat}{wh:Option (Nat×Nat)}{s d:Dat}
  (H:Ow h own ok c x cs fo) (hc:∀b o,wh=some (b,o)->Cells h b o cs) (hcg:aU n c x=some s) (hnd:fo.Nodup) (hbase:∀b o,wh=some (b,o)->b∉fo)
  (ih:∀{cs0:List Value} {gX:List Nat} {xM:Option (Nat×Nat)},Ow h own ok s.1 s.2 cs0 gX->(∀b o,xM=some (b,o)->Cells h b o cs0)->gX.Nodup->(∀b o,xM=some (b,o)->b∉gX)->H7 h own ok p s.1 s.2 cs0 gX xM d) :
  H7 h own ok (.aY n :: p) (.st c) x cs fo wh d:=by
 obtain⟨off,pre,cs0,post,gX,fr,ho,ec,hl,hp,hd,hu,hoth⟩:=Nn n H hcg
 have hsz:=fU hd
 have hpt:az (.aY n :: p) (.st c)=az p s.1:=by simp[az,kL n hcg]
 have hnd':(gX++fr).Nodup:=hp.nodup hnd
 have hsub:(cs.drop off).take s.1.size=cs0:=by rw[ec];exact Ku hl hsz
 have hlen:cs.length=c.size:=fU H
 have atY:off+s.1.size+post.length=c.size:=by rw[<-hlen,ec];simp[hl,hsz];omega
 obtain⟨cs1,bu,rest,dm,hn,hp1,hd1,hc1,hin1,hnone,hup⟩:=ih (xM:=wh.map λq=>(q.1,q.2+off)) hd
  (λb o e=>by
   obtain⟨o0,e1,rfl⟩:=JX e
   have:=hc b o0 e1
   rw[ec,Cells.append,Cells.append]at this
   rw[<-hl]
   exact this.2.1) (dH.1 hnd').1
  (λb o e hb=>by
   obtain⟨o0,e1,rfl⟩:=JX e
   exact hbase b o0 e1 (hp.mem_iff.2 (bQ _ hb)))
 have aoj:∀b o,dm=some (b,o)->b∉fr:=by
  intro b o e hb
  rcases hin1 b o e with⟨_,o0,ew,_⟩|⟨h1,_⟩
  ·obtain⟨o1,e1,_⟩:=JX ew
   exact hbase b o1 e1 (hp.mem_iff.2 (bH _ hb))
  ·exact(dH.1 hnd').2.2 b (hp1.mem_iff.2 (bH _ h1)) b hb rfl
 refine⟨cs1,bu,rest++fr,dm,?_,?_,hd1,hc1,?_,?_,⟨?_⟩⟩
 ·simp only[aW]
  rw[ho]
  simp only
  rw[hsub]
  exact hn
 ·rw[<-gD]
  exact hp.trans (tQ _ hp1)
 ·intro b o e
  rw[hpt]
  rcases hin1 b o e with⟨h0,o0,ew,h1,h2⟩|⟨h1,h2⟩
  ·obtain⟨o1,e1,rfl⟩:=JX ew
   refine .inl ⟨h0,o1,e1,by omega,?_⟩
   show o+d.1.size<=o1+c.size
   omega
  ·exact .inr ⟨bQ _ h1,h2⟩
 ·intro e
  have:=hnone e
  cases wh with
  |none=>rfl
  |some q=>simp at this
 ·intro h' ok' t jw lT z hz hl' ht hok hrest hw hcs hb0
  simp only[dz,hcg]at hz
  cases hs:dz p s.1 s.2 t with
  |none=>rw[hs]at hz;simp at hz
  |some u=>
   rw[hs]at hz
   simp only at hz
   cases hcp:dP n c x u with
   |none=>rw[hcp]at hz;simp at hz
   |some y=>
    rw[hcp]at hz
    simp only[au]at hz
    subst hz
    obtain⟨Ns,hl0,ho0,hc0,hn0,hnk⟩:=hup.go h' ok' t jw lT u hs hl' ht hok (λb hb=>hrest b (bQ _ hb)) hw hcs
     (λb o e=>by
      obtain⟨o0,e1,_⟩:=JX e
      exact hb0 b o0 e1)
    have hfr:∀b∈fr,h' b=h b:=by
     intro b hb
     refine hrest b (bH _ hb) ?_
     intro e
     cases iH:dm with
     |none=>rw[iH]at e;simp at e
     |some q=>
      rw[iH]at e
      simp only[o_,au]at e
      exact aoj q.1 q.2 iH (e▸hb)
    have r:=hu h' ok' u Ns (lT++rest) y hcp ho0 hok hfr
    refine⟨pre++(Ns++post),by rw[ec];simp[hl0],?_,?_,?_,?_⟩
    ·have r':Ow h' own ok' y.1 y.2 (pre++(Ns++post)) (lT++(rest++fr)):=by
      rw[show lT++(rest++fr)=lT++rest++fr from(gD ..).symm];exact r
     exact r'
    ·intro b o e
     have hwc:=hc b o e
     rw[ec,Cells.append,Cells.append]at hwc
     have hc0':=hc0 b (o+off) (by rw[e];rfl)
     rw[Cells.append,Cells.append,hl0,hsz,hl]
     have TS:=hwc.2.2
     rw[hsz,hl]at TS
     by_cases hbw:dm.map (·.1)=some b
     ·cases iH:dm with
      |none=>rw[iH]at hbw;simp at hbw
      |some q=>
       rw[iH]at hbw
       simp only[o_,au]at hbw
       subst hbw
       have hsb:=(hw q.1 q.2 iH).2
       rcases hin1 q.1 q.2 iH with⟨_,o0,ew,g1,g2⟩|⟨h1,_⟩
       ·rw[e]at ew
        simp only[o_,au,bZ,true_and]at ew
        exact⟨hsb.cells hwc.1 (.inl (by omega)),hc0',hsb.cells TS (.inr (by omega))⟩
       ·exact absurd (hp.mem_iff.2 (bQ _ (hp1.mem_iff.2 (bH _ h1)))) (hbase q.1 o e)
     ·have hbb:=hb0 b o e hbw
      exact⟨hwc.1.congr hbb,hc0',TS.congr hbb⟩
    ·intro e
     have:=hn0 (by rw[e];rfl)
     rw[this,ec]
    ·intro bad hkind og
     obtain⟨n1,n3,n2,n4⟩:=hnk bad hkind og
     refine⟨λe=>congrArg K.st (ZE n hcg hcp (n1 e)),(show y.1.size=c.size from ak_ n hcg hcp n3),?_,by
      show aW h' (.aY n :: p) (.st y.1) _ _=_
      simp only[aW]
      rw[RJ n ho hcp]
      simp only
      rw[Ku hl (fU ho0)]
      exact n4⟩
     intro q c0 w0 hq Ju oU EY
     cases q with
     |nil=>
      simp only[aW,au,bZ]at oU ⊢
      exact⟨trivial,_,rfl,oU.2⟩
     |cons sq q=>
      cases sq with
      |idx i=>simp[bX]at hq
      |aY m=>
       simp only[bX]at hq
       cases hg2:aU m c x with
       |none=>rw[hg2]at hq;exact hq.elim
       |some s2=>
        rw[hg2]at hq
        have aoR:az (.aY m :: q) (.st c)=az q s2.1:=by simp[az,kL m hg2]
        rw[aoR]at Ju
        by_cases hmn:m=n
        ·subst hmn
         rw[hcg]at hg2
         simp only[au]at hg2
         subst hg2
         simp only[aW]at oU
         rw[ho]at oU
         simp only at oU
         rw[hsub]at oU
         obtain⟨r1,c1,r2⟩:=n2 q c0 w0 hq Ju oU (by
          have:(aB (.aY m :: q) (.st y.1) y.2).isSome=true:=EY
          simpa only[aB,IM m hcp]using this)
         refine⟨?_,c1,?_⟩
         ·show bX (.aY m :: q) (.st y.1) y.2
          simp only[bX,IM m hcp]
          exact r1
         ·show aW h' (.aY m :: q) (.st y.1) _ _=_
          simp only[aW]
          rw[RJ m ho hcp]
          simp only
          rw[Ku hl (fU ho0)]
          exact r2
        ·obtain⟨off2,cs2,Ab,g1,g2,g3,g4,g5,g6⟩:=hoth m s2 hmn hg2
         simp only[aW]at oU
         rw[g1]at oU
         simp only at oU
         rw[g2]at oU
         have g7:=g6 u y hcp
         refine⟨?_,c0,?_⟩
         ·show bX (.aY m :: q) (.st y.1) y.2
          simp only[bX,g7]
          exact hq
         ·show aW h' (.aY m :: q) (.st y.1) _ _=_
          simp only[aW]
          rw[ZC n m hmn hcg hcp n3 g1]
          simp only
          rw[g5 Ns (by rw[hl0,hsz]),<-oU]
          exact Uz q g3 hq (λt ht=>(Ju t ht).1) (λb hb=>hfr b (g4 b hb))
theorem am3{h:Heap}{own:List TypeId}{ok:Nat->Prop}{p:List Stp}{i:Int}{e:TypeId}{k:K}{xs:List (El k)}{cs:List Value}{fo:List Nat}{wh:Option (Nat×Nat)}{d:Dat}
  (H:Ow h own ok (.sl e k) xs cs fo) (hc:∀b o,wh=some (b,o)->Cells h b o cs) (hnd:fo.Nodup) (hbase:∀b o,wh=some (b,o)->b∉fo) (hmem:ah e own=true) (hlt:i.toNat<xs.length)
  (ih:∀{cs0:List Value} {gX:List Nat} {xM:Option (Nat×Nat)},Ow h own ok k xs[i.toNat] cs0 gX->(∀b o,xM=some (b,o)->Cells h b o cs0)->gX.Nodup->(∀b o,xM=some (b,o)->b∉gX)->H7 h own ok p k xs[i.toNat] cs0 gX xM d) :
  H7 h own ok (.idx i :: p) (.sl e k) xs cs fo wh d:=by
 unfold Ow at H
 rw[aj hmem]at H
 obtain⟨a,n,c,e1,e2,e3,H⟩:=H
 have e2':n=xs.length:=e2
 rcases H with⟨h0,_⟩|⟨b,o,arr,lo,hi,ea,hb,hf,anX,ay,hfl,hp,H⟩
 ·omega
 have aob:ay.length=xs.length:=hfl
 obtain⟨ds,hcd,hod⟩:=H i.toNat hlt
 have hnd':(b :: ay.flatten).Nodup:=hp.nodup hnd
 have hnb:b∉ay.flatten:=(jg.1 hnd').1
 have hpk:=acJ (ay:=ay) (i:=i.toNat) (by omega)
 have jH:=hpk.nodup (jg.1 hnd').2
 obtain⟨cs1,bu,rest,dm,hn,hp1,hd1,hc1,hin1,hnone,hup⟩:=ih (xM:=some (b,o+i.toNat*k.size)) hod
  (λb' o' e'=>by
   simp only[au,bZ]at e'
   obtain⟨rfl,rfl⟩:=e'
   exact hcd) (dH.1 jH).1
  (λb' o' e' hb'=>by
   simp only[au,bZ]at e'
   obtain⟨rfl,rfl⟩:=e'
   exact hnb (wB hb'))
 have hdl:ds.length=k.size:=fU hod
 have hwn:dm≠none:=λe'=>by have:=hnone e';simp at this
 generalize hR:(ay.take i.toNat).flatten++(ay.drop (i.toNat+1)).flatten=R at *
 have hcap:i.toNat*k.size+k.size<=c*k.size:=by
  have:(i.toNat+1)*k.size<=c*k.size:=j4 _ (by omega)
  rw[iZ,nD]at this
  exact this
 refine⟨cs1,bu,b :: (rest++R),dm,?_,?_,hd1,hc1,?_,λe'=>absurd e' hwn,⟨?_⟩⟩
 ·subst e1
  subst ea
  simp only[aW]
  have:iW h b (o+i.toNat*k.size) k.size=ds:=by
   have:=yY hcd
   rwa[hdl]at this
  rw[this]
  exact hn
 ·refine(hp.trans (.cons b (hpk.trans (tQ _ hp1)))).trans ?_
  rw[gD]
  exact List.perm_middle.symm
 ·intro b' o' e'
  rcases hin1 b' o' e' with⟨hz,o0,ew,h1,h2⟩|⟨h1,gH,e'',lo',hi',g1,g2,g3,g4⟩
  ·simp only[au,bZ]at ew
   obtain⟨rfl,rfl⟩:=ew
   exact .inr ⟨jE,arr,e,lo,hi,hb,hf,by simp[az,hz],by omega⟩
  ·refine .inr ⟨by simp[h1],gH,e'',lo',hi',g1,g2,?_,g4⟩
   simp only[az,List.getLast?_cons,g3,tX]
 ·intro h' ok' t jw lT z hz hl' ht hok hrest hw hcs hb0
  simp only[dz]at hz
  rw[oP hlt]at hz
  cases hs:dz p k xs[i.toNat] t with
  |none=>rw[hs]at hz;simp at hz
  |some u=>
   rw[hs]at hz
   simp only at hz
   cases hck:b_ u.1 k u.2 with
   |none=>rw[hck]at hz;simp at hz
   |some y=>
    rw[hck]at hz
    simp only[au]at hz
    subst hz
    obtain⟨uk,ux⟩:=u
    unfold b_ at hck
    split at hck
    case isFalse=>simp at hck
    rename_i hbq
    have hk:=K.eq_of_beq hbq
    simp only at hk
    subst hk
    simp only[au]at hck
    subst hck
    have hwb:∀q,dm=some q->q.1∉R:=by
     intro q hq hqR
     rcases hin1 q.1 q.2 hq with⟨_,o0,ew,_⟩|⟨h1,_⟩
     ·simp only[au,bZ]at ew
      exact hnb (hpk.mem_iff.2 (bH _ (ew.1▸hqR)))
     ·exact(dH.1 jH).2.2 q.1 (hp1.mem_iff.2 (bH _ h1)) q.1 hqR rfl
    obtain⟨ds',hl0,ho0,hc0,_,hnk⟩:=hup.go h' ok' t jw lT ⟨uk,ux⟩ hs hl' ht hok (λb' hb'=>hrest b' (by simp[hb'])) hw hcs
     (λb' o' e' hne=>by
      simp only[au,bZ]at e'
      obtain⟨rfl,rfl⟩:=e'
      exact hrest b jE hne)
    have anv:∀b'∈R,h' b'=h b':=by
     intro b' hb'
     refine hrest b' (by simp[hb']) ?_
     intro e'
     cases iH:dm with
     |none=>exact absurd iH hwn
     |some q=>
      rw[iH]at e'
      simp only[o_,au]at e'
      exact hwb q iH (e'▸hb')
    have hblk:∃gH,h' b=some (.cells gH e (lo,hi))/\gH.size=arr.size/\∀j,¬(o+i.toNat*uk.size<=j/\j<o+i.toNat*uk.size+uk.size)->gH[j]?=arr[j]?:=by
     by_cases hbw:dm.map (·.1)=some b
     ·cases iH:dm with
      |none=>exact absurd iH hwn
      |some q=>
       rw[iH]at hbw
       simp only[o_,au]at hbw
       obtain⟨a1,a2,te,fr,g1,g2,g3,g4⟩:=(hw q.1 q.2 iH).2
       rw[hbw]at g1 g2
       rw[hb]at g1
       simp only[au,Obj.cells.injEq]at g1
       obtain⟨rfl,rfl,rfl⟩:=g1
       rcases hin1 q.1 q.2 iH with⟨_,o0,ew,h1,h2⟩|⟨h1,_⟩
       ·simp only[au,bZ]at ew
        refine⟨a2,g2,g3,λj hj=>g4 j ?_⟩
        intro hj2
        exact hj (by omega)
       ·exact absurd (hpk.mem_iff.2 (bQ _ (hp1.mem_iff.2 (bH _ (hbw▸h1))))) hnb
     ·have:=hrest b jE hbw
      exact⟨arr,this.trans hb,rfl,λ_ _=>rfl⟩
    obtain⟨gH,hb',hsz',hsame⟩:=hblk
    have hmul:∀a b:Nat,a<b->a*uk.size+uk.size<=b*uk.size:=by
     intro a b hab
     have:(a+1)*uk.size<=b*uk.size:=j4 _ (by omega)
     rwa[iZ,nD]at this
    have aa_:∀(j:Nat) (dj:List Value),j≠i.toNat->dj.length=uk.size->Cells h b (o+j*uk.size) dj->Cells h' b (o+j*uk.size) dj:=by
     intro j dj hji hjl h1 q hq
     have:=h1 q hq
     unfold cellAt at this ⊢
     rw[hb]at this
     rw[hb']
     simp only at this ⊢
     rw[hsame _ (by
      rcases Nat.lt_or_gt_of_ne hji with hlt'|aaX
      ·have:=hmul j i.toNat hlt';omega
      ·have:=hmul i.toNat j aaX;omega)]
     exact this
    have aba:∀j,j≠i.toNat->∀q∈ay.getD j [],h' q=h q:=by
     intro j hji q hq
     refine anv q ?_
     rw[<-hR]
     by_cases hjf:j<ay.length
     ·rw[iR,jl hjf]at hq
      simp only[tX]at hq
      rcases Nat.lt_or_gt_of_ne hji with hlt'|aaX
      ·exact bQ _ (BC.2 ⟨ay[j],List.mem_take_iff_getElem.2 ⟨j,by omega,rfl⟩,hq⟩)
      ·refine bH _ (BC.2 ⟨ay[j],List.mem_drop_iff_getElem.2 ⟨j-(i.toNat+1),by omega,?_⟩,hq⟩)
       congr 1
       omega
     ·rw[iR,uO (by omega)]at hq
      simp at hq
    refine⟨cs,rfl,?_,?_,λ_=>rfl,?_⟩
    ·unfold Ow
     rw[aj hmem]
     refine⟨a,n,c,e1,by rw[e2'];simp,e3,.inr ⟨b,o,gH,lo,hi,ea,hb',by rw[hsz'];exact hf,by rw[hsz'];exact anX,ay.set i.toNat (lT++rest),by simp[aob],?_,?_⟩⟩
     ·have:=aq2 (ay:=ay) (i:=i.toNat) (by omega) (lT++rest)
      rw[hR,gD]at this
      exact(List.perm_middle.trans (.cons b this.symm))
     ·intro j hj
      have hj':j<xs.length:=by simpa using hj
      by_cases hji:j=i.toNat
      ·subst hji
       refine⟨ds',hc0 b _ rfl,?_⟩
       have e1:(xs.set i.toNat ux)[i.toNat]'(by simpa using hj')=ux:=by simp
       have e2:(ay.set i.toNat (lT++rest)).getD i.toNat []=lT++rest:=by
        rw[oP (by simp;omega)];simp
       rw[e2]
       show Ow h' own ok' uk ((xs.set i.toNat ux)[i.toNat]'(by simpa using hj')) ds' _
       rw[e1]
       exact ho0
      ·obtain⟨dj,h1,h2⟩:=H j hj'
       have hjl:dj.length=uk.size:=fU h2
       refine⟨dj,aa_ j dj hji hjl h1,?_⟩
       have e1:(xs.set i.toNat ux)[j]'(by simpa using hj')=xs[j]:=by
        rw[List.getElem_set_ne (by omega)]
       have e2:(ay.set i.toNat (lT++rest)).getD j []=ay.getD j []:=by
        rw[iR,iR,List.getElem?_set_ne (by omega)]
       rw[e2]
       show Ow h' own ok' uk ((xs.set i.toNat ux)[j]'(by simpa using hj')) dj _
       rw[e1]
       exact eO (λb hb=>(hok b hb).2) (λb hb=>(hok b hb).1) (aba j hji) h2
    ·intro b' o' e'
     have hcb:=hc b' o' e'
     by_cases hbw:dm.map (·.1)=some b'
     ·cases iH:dm with
      |none=>exact absurd iH hwn
      |some q=>
       rw[iH]at hbw
       simp only[o_,au]at hbw
       have hbf:=hbase b' o' e'
       rcases hin1 q.1 q.2 iH with⟨_,o0,ew,_⟩|⟨h1,_⟩
       ·simp only[au,bZ]at ew
        exact absurd (hp.mem_iff.2 (by rw[<-hbw,<-ew.1];exact jE)) hbf
       ·exact absurd (hp.mem_iff.2 (jD _ (hpk.mem_iff.2 (bQ _ (hp1.mem_iff.2 (bH _ (hbw▸h1))))))) hbf
     ·exact hcb.congr (hb0 b' o' e' hbw)
    ·intro bad hkind og
     obtain⟨_,_,n2,n4⟩:=hnk bad hkind og
     refine⟨λ_=>rfl,rfl,?_,by
      subst e1
      subst ea
      simp only[aW]
      have hr':iW h' b (o+i.toNat*uk.size) uk.size=ds':=by
       have:=yY (hc0 b _ rfl)
       rwa[hl0,hdl]at this
      rw[hr']
      exact n4⟩
     intro q c0 w0 hq Ju oU EY
     cases q with
     |nil=>exact⟨trivial,_,by rw[<-(show(cs,wh)=(c0,w0)from by simpa[aW]using oU)];rfl⟩
     |cons sq q=>
      cases sq with
      |aY m=>simp[bX]at hq
      |idx j=>
       simp only[bX]at hq
       obtain⟨hj0,hj1,hq⟩:=hq
       have aot:j<(xs.length:Int):=hj1
       have hjl:j.toNat<xs.length:=by omega
       have ejx:(show List (El uk)from xs).getD j.toNat uk.zero=xs[j.toNat]:=oP hjl
       rw[ejx]at hq
       subst e1
       subst ea
       simp only[aW]at oU
       have abl:∀t∈az q uk,ah t own=true/\t∉bad:=λt ht=>Ju t (by simp[az,ht])
       have hln:j<((xs.set i.toNat ux).length:Int):=by simpa using aot
       by_cases hji:j.toNat=i.toNat
       ·have hr:iW h b (o+j.toNat*uk.size) uk.size=ds:=by
         rw[hji]
         have:=yY hcd
         rwa[hdl]at this
        rw[hr,hji]at oU
        have hq':bX q uk xs[i.toNat]:=by
         have:xs[j.toNat]=xs[i.toNat]:=by congr 1
         rw[<-this];exact hq
        obtain⟨r1,c1,r2⟩:=n2 q c0 w0 hq' abl oU (by
         have:(aB (.idx j :: q) (.sl e uk) (xs.set i.toNat ux)).isSome=true:=EY
         simp only[aB]at this
         have e3:(show List (El uk)from xs.set i.toNat ux).getD j.toNat uk.zero=ux:=by
          rw[hji,oP (by simpa using hlt)];simp
         rw[e3]at this
         exact this)
        refine⟨⟨hj0,hln,?_⟩,c1,?_⟩
        ·have:(show List (El uk)from xs.set i.toNat ux).getD j.toNat uk.zero=ux:=by
          rw[hji,oP (by simpa using hlt)];simp
         rw[this]
         exact r1
        ·simp only[aW]
         have hr':iW h' b (o+j.toNat*uk.size) uk.size=ds':=by
          rw[hji]
          have:=yY (hc0 b _ rfl)
          rwa[hl0,hdl]at this
         rw[hr',hji]
         exact r2
       ·obtain⟨dj,h1,h2⟩:=H j.toNat hjl
        have Tt:dj.length=uk.size:=fU h2
        have hr:iW h b (o+j.toNat*uk.size) uk.size=dj:=by
         have:=yY h1
         rwa[Tt]at this
        have hr':iW h' b (o+j.toNat*uk.size) uk.size=dj:=by
         have:=yY (aa_ j.toNat dj hji Tt h1)
         rwa[Tt]at this
        rw[hr]at oU
        refine⟨⟨hj0,hln,?_⟩,c0,?_⟩
        ·have:(show List (El uk)from xs.set i.toNat ux).getD j.toNat uk.zero=xs[j.toNat]:=by
          rw[oP (by simpa using hjl),List.getElem_set_ne (by omega)]
         rw[this]
         exact hq
        ·simp only[aW]
         rw[hr',<-oU]
         exact Uz q h2 hq (λt ht=>(abl t ht).1) (aba j.toNat hji)
theorem focus{h:Heap}{own:List TypeId}{ok:Nat->Prop}:∀(p:List Stp) {k:K} {x:El k} {cs:List Value} {fo:List Nat} {wh:Option (Nat×Nat)} {d:Dat},
  Ow h own ok k x cs fo->(∀b o,wh=some (b,o)->Cells h b o cs)->aB p k x=some d->bX p k x->(∀t∈az p k,ah t own=true)->fo.Nodup->(∀b o,wh=some (b,o)->b∉fo)->
   H7 h own ok p k x cs fo wh d:=by
 intro p
 induction p with
 |nil=>
  intro k x cs fo wh d H hc hg _ _ _ _
  simp only[aB,au]at hg
  subst hg
  refine⟨cs,fo,[],wh,rfl,by simp,H,hc,λb o e=>.inl ⟨rfl,o,e,bV _,bV _⟩,id,⟨?_⟩⟩
  intro h' ok' t jw lT z hz hl ht _ _ hw hn _
  simp only[dz,au]at hz
  subst hz
  exact⟨jw,by rw[hl,fU H],by simpa using ht,λb o e=>(hw b o e).1,hn,λbad hk og=>⟨id,hk,og,rfl⟩⟩
 |cons s p ih=>
  intro k x cs fo wh d H hc hg hin yJ hnd hbase
  cases s with
  |aY n=>
   cases k with
   |st c=>
    simp only[aB]at hg
    cases hcg:aU n c x with
    |none=>rw[hcg]at hg;simp at hg
    |some s=>
     rw[hcg]at hg
     simp only at hg
     simp only[bX,hcg]at hin
     have hpt:az (.aY n :: p) (.st c)=az p s.1:=by simp[az,kL n hcg]
     rw[hpt]at yJ
     exact am2 (show Ow h own ok c x cs fo from H) hc hcg hnd hbase (λH0 hc0 kC hb0=>ih H0 hc0 hg hin yJ kC hb0)
   |_=>simp[aB]at hg
  |idx i=>
   cases k with
   |sl e k=>
    simp only[aB]at hg
    simp only[bX]at hin
    obtain⟨hi0,hi1,hin⟩:=hin
    have aor:i<((@List.length (El k) x:Nat):Int):=hi1
    have hlt:i.toNat < @List.length (El k) x:=by omega
    have eg:(show List (El k)from x).getD i.toNat k.zero=(show List (El k)from x)[i.toNat]'hlt:=oP hlt
    rw[eg]at hin hg
    exact am3 (xs:=x) H hc hnd hbase (yJ e (by simp[az])) hlt (λH0 hc0 kC hb0=>ih H0 hc0 hg hin (λt ht=>yJ t (by simp[az,ht])) kC hb0)
   |_=>simp[aB]at hg
end
section
open Go
variable [Fr]
def Prog.ends{J:Type}:Prog J->St->J->Prop
 |.ret a,_,x=>x=a
 |.fail,_,_=>False
 |.slot n k,Z,x=>(k (Z.slots n)).ends Z x
 |.root r k,Z,x=>(k (Z.roots r)).ends Z x
 |.eY c _ k,Z,x=>c/\k.ends Z x
 |.br c t e,Z,x=>(c=true/\t.ends Z x)\/(c=false/\e.ends Z x)
 |.opt _ o k,Z,x=>∃b,o=some b/\(k b).ends Z x
theorem Az{J R:Type}(p:Prog J){Z:St}{K:J->Option R}{r:R}(h:p.run Z K=some r):∃x,p.ends Z x/\K x=some r:=by
 induction p with
 |ret a=>exact⟨a,rfl,h⟩
 |fail=>simp[Prog.run]at h
 |slot n k ih=>exact ih _ h
 |root n k ih=>exact ih _ h
 |eY c d k ih=>
  simp only[Prog.run]at h
  split at h
  ·rename_i hc
   obtain⟨x,h1,h2⟩:=ih h
   exact⟨x,⟨hc,h1⟩,h2⟩
  ·simp at h
 |br c t e rH rG=>
  simp only[Prog.run]at h
  split at h
  ·rename_i hc
   obtain⟨x,h1,h2⟩:=rH h
   exact⟨x,.inl ⟨hc,h1⟩,h2⟩
  ·rename_i hc
   obtain⟨x,h1,h2⟩:=rG h
   exact⟨x,.inr ⟨by simpa using hc,h1⟩,h2⟩
 |opt β o k ih=>
  simp only[Prog.run]at h
  cases ho:o with
  |none=>rw[ho]at h;simp at h
  |some b=>
   rw[ho]at h
   obtain⟨x,h1,h2⟩:=ih b h
   exact⟨x,⟨b,rfl,h1⟩,h2⟩
def d_:K->List Value
 |.int ik=>[.int ik 0]
 |.bool=>[.bool false]
 |.str=>[.string ByteArray.empty]
 |.sl _ _=>[.slice none 0 0]
 |.id _=>[.slice none 0 0]
 |.unit=>[]
 |.pair a b=>d_ a++d_ b
 |.st f=>d_ f
 |.gap _=>[]
def jB:K->Value
 |.st f=>.agg (d_ f).toArray
 |.int ik=>.int ik 0
 |.bool=>.bool false
 |.str=>.string ByteArray.empty
 |.sl _ _=>.slice none 0 0
 |.id _=>.slice none 0 0
 |_=>undef
def tO(P:Program)(t:TypeId)(k:K):Prop:=∃i,P.info? t=some i/\i.size=k.size/\i.zero=some (jB k)
def jK(P:Program)(T:bL):K->(TypeId->Prop)×(List Field->Nat->Prop)
 |.int ik=>(λt=>P.underlying t=some (.int ik)/\tO P t (.int ik),λ_ _=>False)
 |.bool=>(λt=>P.underlying t=some .bool/\tO P t .bool,λ_ _=>False)
 |.str=>(λt=>P.underlying t=some .string/\tO P t .str,λ_ _=>False)
 |.sl e k=>(λt=>P.underlying t=some (.slice e)/\tO P t (.sl e k)/\(jK P T k).1 e/\0<k.size/\∃i,P.info? e=some i/\i.bytes=T.bytes e/\0<i.bytes,λ_ _=>False)
 |.unit=>(λ_=>False,λfs _=>fs=[])
 |.pair a b=>(λ_=>False,λfs off=>match fs with
  | []=>False
  |f :: fs=>f.offset=off/\(jK P T a).1 f.type/\0<a.size/\(jK P T b).2 fs (off+a.size))
 |.st c=>(λt=>(∃fs,P.underlying t=some (.struct fs)/\(jK P T c).2 fs.toList 0)/\tO P t (.st c),λ_ _=>False)
 |.gap _=>(λ_=>False,λ_ _=>False)
 |.id e=>(λt=>P.underlying t=some (.slice e)/\tO P t (.id e)/\T.ids=true,λ_ _=>False)
def dO(P:Program)(T:bL)(t:TypeId)(k:K):Prop:=(jK P T k).1 t
structure fT(P:Program)(T:bL):Prop where
 ty:∀t k,T.ty t=some k->dO P T t k
 ptr:∀t,T.ptr t=true->∃e,P.underlying t=some (.pointer e)
theorem dO.info{P:Program}{T:bL}{t:TypeId}{k:K}(h:dO P T t k):tO P t k:=by
 unfold dO jK at h
 cases k with
 |int ik=>exact h.2
 |bool=>exact h.2
 |id e=>exact h.2.1
 |str=>exact h.2
 |sl e k=>exact h.2.1
 |unit=>exact h.elim
 |pair a b=>exact h.elim
 |st c=>exact h.2
 |gap n=>exact h.elim
def VC(k:K)(v:Value)(cs:List Value):Prop:=match k with
 |.st _=>v=.agg cs.toArray
 |_=>cs=[v]/\∀x,v≠.agg x
theorem VC.cells{k:K}{v:Value}{cs:List Value}(h:VC k v cs):v.cells.toList=cs:=by
 unfold VC at h
 split at h
 ·subst h;simp[Value.cells]
 ·obtain⟨rfl,hn⟩:=h
  cases v<;>first|rfl|(exact absurd rfl (hn _))
def kQ:K->Bool
 |.st _=>true
 |_=>false
theorem dO.isAgg{P:Program}{T:bL}{t:TypeId}{k:K}(h:dO P T t k)(w:World):(Go.isAgg t).run P w=.ok (kQ k) w:=by
 unfold dO jK at h
 cases k with
 |int ik=>simp[Go.isAgg,ig h.1,kQ]
 |bool=>simp[Go.isAgg,ig h.1,kQ]
 |id e=>simp[Go.isAgg,ig h.1,kQ]
 |str=>simp[Go.isAgg,ig h.1,kQ]
 |sl e k=>simp[Go.isAgg,ig h.1,kQ]
 |unit=>exact h.elim
 |pair a b=>exact h.elim
 |st c=>obtain⟨⟨fs,h1,_⟩,_⟩:=h;simp[Go.isAgg,ig h1,kQ]
 |gap n=>exact h.elim
theorem tO.sizeOf{P:Program}{t:TypeId}{k:K}(h:tO P t k)(w:World):(Go.sizeOf t).run P w=.ok k.size w:=by
 obtain⟨i,h1,h2,_⟩:=h
 simp[Go.sizeOf,run_typeInfo w h1,h2]
theorem tO.zero{P:Program}{t:TypeId}{k:K}(h:tO P t k)(w:World):(Go.zeroValue t).run P w=.ok (jB k) w:=by
 obtain⟨i,h1,_,h3⟩:=h
 simp[Go.zeroValue,run_typeInfo w h1,h3]
theorem addr_add(b o n:Nat):(⟨b,o,none⟩:Addr).add n=⟨b,o+n,none⟩:=by unfold Addr.add;split<;>simp_all
theorem FY{P:Program}{T:bL}{t:TypeId}{k:K}{w:World}{b o:Nat}{cs:List Value}{v:Value}(h:dO P T t k)(hc:Cells (hp w) b o cs)(hl:cs.length=k.size)(hv:VC k v cs) :
  (Instr.loadAt t (.pointer (some ⟨b,o,none⟩))).run P w=.ok v w:=by
 have hcell:∀j u,cs[j]?=some u->w.cell? ((⟨b,o,none⟩:Addr).add j)=some u:=by
  intro j u hj
  rw[addr_add,zU,hc j (qB.1 hj).1]
  exact hj
 unfold Instr.loadAt Instr.sureAddr loadVar
 simp only[dZ,fH,Result.andThen,h.isAgg w]
 cases k with
 |st c=>
  have e:v=.agg cs.toArray:=hv
  have h2:=run_loadCells_list (P:=P) w ⟨b,o,none⟩ cs hcell
  rw[hl]at h2
  simp[kQ,h.info.sizeOf w,h2,Result.andThen,e]
 |unit=>exact(show False from h).elim
 |pair a b=>exact(show False from h).elim
 |gap n=>exact(show False from h).elim
 |int ik=>
  obtain⟨e,_⟩:cs=[v]/\_:=hv
  have:=hcell 0 v (by rw[e];rfl)
  rw[addr_add,ry]at this
  simp[kQ,this]
 |bool=>
  obtain⟨e,_⟩:cs=[v]/\_:=hv
  have:=hcell 0 v (by rw[e];rfl)
  rw[addr_add,ry]at this
  simp[kQ,this]
 |id e=>
  obtain⟨e,_⟩:cs=[v]/\_:=hv
  have:=hcell 0 v (by rw[e];rfl)
  rw[addr_add,ry]at this
  simp[kQ,this]
 |str=>
  obtain⟨e,_⟩:cs=[v]/\_:=hv
  have:=hcell 0 v (by rw[e];rfl)
  rw[addr_add,ry]at this
  simp[kQ,this]
 |sl e k=>
  obtain⟨e,_⟩:cs=[v]/\_:=hv
  have:=hcell 0 v (by rw[e];rfl)
  rw[addr_add,ry]at this
  simp[kQ,this]
def gy:K->Bool
 |.gap _=>false
 |.pair a b=>gy a&&gy b
 |.st f=>gy f
 |_=>true
theorem jK.gy{P:Program}{T:bL}:∀{k:K},(∀t,(jK P T k).1 t->Ow.gy k=true)/\(∀fs off,(jK P T k).2 fs off->Ow.gy k=true):=by
 intro k
 induction k with
 |int ik=>exact⟨λ_ _=>rfl,λ_ _ h=>h.elim⟩
 |bool=>exact⟨λ_ _=>rfl,λ_ _ h=>h.elim⟩
 |id e=>exact⟨λ_ _=>rfl,λ_ _ h=>h.elim⟩
 |str=>exact⟨λ_ _=>rfl,λ_ _ h=>h.elim⟩
 |sl e k ih=>exact⟨λ_ _=>rfl,λ_ _ h=>h.elim⟩
 |unit=>exact⟨λ_ h=>h.elim,λ_ _ _=>rfl⟩
 |pair a b iha ihb=>
  refine⟨λ_ h=>h.elim,λfs off h=>?_⟩
  cases fs with
  |nil=>exact h.elim
  |cons f fs=>simp[Ow.gy,iha.1 _ h.2.1,ihb.2 _ _ h.2.2.2]
 |st f ih=>exact⟨λt h=>by obtain⟨⟨fs,_,h⟩,_⟩:=h;exact ih.2 _ _ h,λ_ _ h=>h.elim⟩
 |gap n=>exact⟨λ_ h=>h.elim,λ_ _ h=>h.elim⟩
theorem dO.gy{P:Program}{T:bL}{t:TypeId}{k:K}(h:dO P T t k):Ow.gy k=true:=jK.gy.1 t h
theorem M9{h:Heap}{ok:Nat->Prop}:∀{k:K} {x:El k} {cs:List Value},gy k=true->Vw h ok k x cs->∀v∈cs,v.oneCell'=true:=by
 intro k
 induction k with
 |int ik=>intro x cs _ H v hv;rw[H.1]at hv;simp at hv;subst hv;rfl
 |bool=>intro x cs _ H v hv;rw[show cs=_ from H]at hv;simp at hv;subst hv;rfl
 |id e=>intro x cs _ H v hv;rw[show cs=_ from H]at hv;simp only[iD]at hv;subst hv;obtain⟨a,n,c,h⟩:=Fr.abz x;rw[h];rfl
 |str=>intro x cs _ H v hv;obtain⟨B,rfl,_⟩:=H;simp at hv;subst hv;rfl
 |sl e k ih=>intro x cs _ H v hv;obtain⟨a,n,c,rfl,_⟩:=H;simp at hv;subst hv;rfl
 |unit=>intro x cs _ H v hv;rw[show cs=_ from H]at hv;simp at hv
 |pair a b iha ihb=>
  intro x cs hg H v hv
  simp[gy]at hg
  obtain⟨c1,c2,rfl,h1,h2⟩:=H
  rcases dD.1 hv with h|h
  ·exact iha hg.1 h1 v h
  ·exact ihb hg.2 h2 v h
 |st f ih=>intro x cs hg H;exact ih (x:=x) hg H
 |gap n=>intro x cs hg;simp[gy]at hg
theorem M5{h:Heap}{own:List TypeId}{ok:Nat->Prop}{k:K}{x:El k}{cs:List Value}{fo:List Nat}(hg:gy k=true)(H:Ow h own ok k x cs fo):∀v∈cs,v.oneCell'=true:=
 M9 hg (qE (λ_=>True) (λ_ _=>trivial) (λ_ _=>trivial) H)
theorem VC.mk{h:Heap}{ok:Nat->Prop}{k:K}{x:El k}{cs:List Value}(hk:∀a b,k≠.pair a b)(hu:k≠.unit)(hg:∀n,k≠.gap n)(H:Vw h ok k x cs):∃v,VC k v cs:=by
 cases k with
 |int ik=>exact⟨.int ik x,H.1,by simp⟩
 |bool=>exact⟨.bool x,H,by simp⟩
 |id e=>obtain⟨a,n,c,h⟩:=Fr.abz x;exact⟨Fr.bM x,H,by rw[h];simp⟩
 |str=>obtain⟨B,e,_⟩:=H;exact⟨.string B,e,by simp⟩
 |sl e k=>obtain⟨a,n,c,e,_⟩:=H;exact⟨.slice a n c,e,by simp⟩
 |unit=>exact absurd rfl hu
 |pair a b=>exact absurd rfl (hk a b)
 |st c=>exact⟨.agg cs.toArray,rfl⟩
 |gap n=>exact absurd rfl (hg n)
theorem abe(w:World)(o:Obj)(b:Nat):hp (w.alloc o) b=if b=w.heap.size then some o else hp w b:=by
 show(w.heap.push o)[b]?=_
 rw[Array.getElem?_push]
 rfl
theorem CB(w:World)(o:Obj){b:Nat}(h:b<w.heap.size):hp (w.alloc o) b=hp w b:=by
 rw[abe,aC (by omega)]
theorem EX(w:World)(o:Obj):hp (w.alloc o) w.heap.size=some o:=by
 rw[abe,aj rfl]
theorem asN(w:World)(b o:Nat)(v:Value){b':Nat}(h:b'≠b):hp (w.setCell ⟨b,o,none⟩ v) b'=hp w b':=by
 simp only[hp,World.setCell,Pd]
 rw[aC (by omega)]
theorem asO(w:World)(b o:Nat)(v:Value){arr:Array Value}{e:TypeId}{fr:Nat×Nat}(h:hp w b=some (.cells arr e fr)) :
  hp (w.setCell ⟨b,o,none⟩ v) b=some (.cells (arr.setIfInBounds o v) e fr):=by
 have h':w.heap[b]?=some (.cells arr e fr):=h
 simp[hp,World.setCell,Pd,h']
theorem FZ(b:Nat):∀(vs:List Value) (w:World) (arr:Array Value) (e:TypeId) (fr:Nat×Nat) (o:Nat),hp w b=some (.cells arr e fr)->o+vs.length<=arr.size->
  (∀b',b'≠b->hp (w.setCells b o vs) b'=hp w b')/\(w.setCells b o vs).heap.size=w.heap.size/\
  ∃gH,hp (w.setCells b o vs) b=some (.cells gH e fr)/\gH.size=arr.size/\(∀i,i<vs.length->gH[o+i]?=vs[i]?)/\∀i,¬(o<=i/\i<o+vs.length)->gH[i]?=arr[i]?:=by
 intro vs
 induction vs with
 |nil=>intro w arr e fr o hb _;exact⟨λ_ _=>rfl,rfl,arr,hb,rfl,λi hi=>by simp at hi,λ_ _=>rfl⟩
 |cons v vs ih=>
  intro w arr e fr o hb hl
  simp only[gF]at hl
  have h1:=asO w b o v hb
  obtain⟨g1,g2,gH,g3,g4,g5,g6⟩:=ih (w.setCell ⟨b,o,none⟩ v) _ e fr (o+1) h1 (by simp;omega)
  refine⟨λb' hb'=>(g1 b' hb').trans (asN w b o v hb'),by rw[World.setCells,g2];simp[World.setCell],gH,g3,by rw[g4];simp,?_,?_⟩
  ·intro i hi
   simp only[gF]at hi
   cases i with
   |zero=>
    rw[g6 _ (by omega)]
    simp only[ry,qA]
    rw[VL (by omega)]
   |succ i=>
    rw[show o+(i+1)=o+1+i from by omega,g5 i (by omega)]
    simp
  ·intro i hi
   simp only[gF]at hi
   rw[g6 i (by omega),VK (by omega)]
theorem F3(b:Nat):∀(vs:List Value) (w:World) (o:Nat),(w.setCells b o vs).os=w.os/\(w.setCells b o vs).tape=w.tape/\(w.setCells b o vs).output=w.output:=by
 intro vs
 induction vs with
 |nil=>intro w o;exact⟨rfl,rfl,rfl⟩
 |cons v vs ih=>intro w o;exact ih (w.setCell ⟨b,o,none⟩ v) (o+1)
theorem Kk{P:Program}{w:World}{b o:Nat}{arr:Array Value}{e:TypeId}{lo hi:Nat}(vs:List Value)(hb:hp w b=some (.cells arr e (lo,hi)))(hf:jq arr.size lo hi)
  (hl:o+vs.length<=arr.size) (h1:∀v∈vs,v.oneCell'=true):(storeCells ⟨b,o,none⟩ vs).run P w=.ok () (w.setCells b o vs):=by
 have:=run_storeCells_cells (P:=P) b o vs 0 w (λj hj=>by
   rw[zU]
   unfold cellAt
   rw[hb]
   simp only[ry]
   rw[Array.getElem?_eq_getElem (by omega)]
   rfl) (λj hj=>by
   unfold World.frozen?
   have hb':w.heap[b]?=some (.cells arr e (lo,hi)):=hb
   simp only[hb',ry]
   have:=hf (o+j) (by omega)
   simp
   omega) h1
 simpa using this
theorem aeb{P:Program}{T:bL}{t:TypeId}{k:K}{w:World}{b o:Nat}{cs:List Value}{v:Value}{arr:Array Value}{e:TypeId}{lo hi:Nat}(h:dO P T t k)(hb:hp w b=some (.cells arr e (lo,hi)))
  (hf:jq arr.size lo hi) (hl:cs.length=k.size) (hs:o+k.size<=arr.size) (hv:VC k v cs) (h1:∀v∈cs,v.oneCell'=true) :
  (Instr.storeAt t (.pointer (some ⟨b,o,none⟩)) v).run P w=.ok () (w.setCells b o cs):=by
 have hc:=hv.cells
 have hsz:v.cells.size=k.size:=by rw[<-hl,<-hc];simp
 unfold Instr.storeAt Instr.sureAddr storeVar
 simp only[dZ,fH,Result.andThen,h.info.sizeOf w,Sem.run_ite]
 rw[aC (by rw[hsz];simp)]
 rw[hc]
 exact Kk cs hb hf (by omega) h1
theorem aea{P:Program}(t:TypeId)(v:Value)(w:World):(newVar t v).run P w=.ok ⟨w.heap.size,0,none⟩ (w.alloc (.cells v.cells t)):=by
 simp[newVar,newRow]
theorem ad7{P:Program}(t:TypeId)(v:Value)(w:World):(Instr.box t v).run P w=.ok (.pointer (some ⟨w.heap.size,0,none⟩)) (w.alloc (.cells v.cells t)):=by
 simp[Instr.box,aea,Result.andThen]
theorem asx{P:Program}{T:bL}{t:TypeId}{k:K}(h:dO P T t k)(w:World):(Instr.alloc t true (.tuple #[])).run P w=.ok (.pointer (some ⟨w.heap.size,0,none⟩)) (w.alloc (.cells (jB k).cells t)):=by
 simp[Instr.alloc,h.info.zero w,aea,Result.andThen]
theorem aeU:∀{k:K},(∀a b,k≠.pair a b)->k≠.unit->(∀n,k≠.gap n)->VC k (jB k) (d_ k):=by
 intro k h1 h2 h3
 cases k with
 |int ik=>exact⟨rfl,by simp[jB]⟩
 |bool=>exact⟨rfl,by simp[jB]⟩
 |id e=>exact⟨rfl,by simp[jB]⟩
 |str=>exact⟨rfl,by simp[jB]⟩
 |sl e k=>exact⟨rfl,by simp[jB]⟩
 |unit=>exact absurd rfl h2
 |pair a b=>exact absurd rfl (h1 a b)
 |st c=>rfl
 |gap n=>exact absurd rfl (h3 n)
theorem KA{h:Heap}{own:List TypeId}{ok:Nat->Prop}:∀{k:K},gy k=true->(∀t∈k.tys,ah t own=true)->Ow h own ok k k.zero (d_ k) []:=by
 intro k
 induction k with
 |int ik=>intro _ _;exact⟨rfl,rfl,by cases ik<;>simp[lH,K.zero]⟩
 |bool=>intro _ _;exact⟨rfl,rfl⟩
 |id e=>intro _ _;exact⟨rfl,by show _=[Fr.bM 0];rw[Fr.TU];rfl⟩
 |str=>intro _ _;exact⟨rfl,ByteArray.empty,rfl,rfl⟩
 |sl e k ih=>
  intro _ ht
  unfold Ow
  rw[aj (ht e (by simp[K.tys]))]
  exact⟨none,0,0,rfl,rfl,bV _,.inl ⟨rfl,rfl⟩⟩
 |unit=>intro _ _;exact⟨rfl,rfl⟩
 |pair a b iha ihb=>
  intro hg ht
  simp[gy]at hg
  exact⟨d_ a,d_ b,[],[],rfl,.refl _,iha hg.1 (λt h=>ht t (by simp[K.tys,h])),ihb hg.2 (λt h=>ht t (by simp[K.tys,h]))⟩
 |st f ih=>intro hg ht;exact ih hg ht
 |gap n=>intro hg;simp[gy]at hg
end
section
open Go
variable [Fr]
structure D8 where
 base:Option (Nat×Nat×Nat)
 bl:List Nat
 kp:Bool
structure Cx where
 nt:Nat
 w0:World
 ext:Nat->Nat->Prop
 par:Nat->Option D8
 ptrs:Nat->List Stp->List TypeId->Value->Prop
 refs:Nat->Value->Prop
structure aO where
 loc:Nat->Nat×Nat
 hdr:Nat->List Value
 fo:Nat->List Nat
def aS(J:aO)(R:Root)(r:Nat):Option (Nat×Nat):=match R.kind with
 |.var _=>some (J.loc r)
 |.par=>some (J.loc r)
 |_=>none
def blk(J:aO)(R:Root)(r:Nat):List Nat:=(match aS J R r with
 |some q=>[q.1]
 |none=>[])++J.fo r
def aX(Z:St)(r:Nat)(R:Root):Prop:=Z.roots r=some R/\R.cZ=false
def oh(cx:Cx)(b:Nat):Prop:=∃j pi o n,cx.par j=some pi/\pi.base=some (b,o,n)
def bK(cx:Cx)(Z:St)(J:aO)(F:List Nat)(w:World)(T:List Tag)(b:Nat):Prop:=
 b<w.heap.size/\b∉F/\¬oh cx b/\(∀r R,aX Z r R->b∈blk J R r->∃n,(r,n)∈T)/\
 (b<cx.w0.heap.size->(∃j n,(jy j,n)∈T/\cx.ext j b)\/∃j pi,cx.par j=some pi/\b∈pi.bl)
def dF(Z:St)(R:Root):Prop:=R.cZ=false/\dG Z R.qR R.tags=true
def mH(Z:St)(J:aO)(F:List Nat)(w:World)(T:List Tag)(b:Nat):Prop:=
 b<w.heap.size/\b∉F/\∀r R,aX Z r R->b∈blk J R r->∃n,(r,n)∈T
def wJ(cx:Cx)(Z:St)(J:aO)(F:List Nat)(w:World)(bt:TypeId)(k:K)(x:El k)(T:List Tag)(v:Value):Prop:=
 (∃b o,v=.pointer (some ⟨b,o,none⟩))/\(dG Z (bt :: k.tys) T=true->∃b o cs,v=.pointer (some ⟨b,o,none⟩)/\Cells (hp w) b o cs/\Vw (hp w) (bK cx Z J F w T) k x cs/\mH Z J F w T b/\
  ((bt=SENT/\∀t∈T,gZ t.1=true)\/(mh (hp w) b bt/\¬oh cx b)))
def nJ(cx:Cx)(Z:St)(J:aO)(F:List Nat)(w:World):List (TypeId×Dat×List Tag)->List Value->Prop
 | [],[]=>True
 |c :: cs,v :: vs=>wJ cx Z J F w c.1 c.2.1.1 c.2.1.2 c.2.2 v/\nJ cx Z J F w cs vs
 |_,_=>False
def nK:List Stp->K->Option (Nat×K)
 | [],k=>some (0,k)
 |.aY n :: p,.st c=>match bR n c with
  |some q=>match nK p q.2 with
   |some r=>some (q.1+r.1,r.2)
   |none=>none
  |none=>none
 |_,_=>none
def aeY(J:aO)(h:Heap)(r:Nat)(R:Root)(p:List Stp)(q:Nat)(Q:Root)(v:Value):Prop:=
 ∃(e:TypeId) (kk:K) (xs:List (El kk)) (wh:Option (Nat×Nat)) (b:Option Addr) (n c:Nat) (ce:List Value) (hq:Value) (b1 o1 c1:Nat) (arr:Array Value) (lo hi:Nat),
  aB p R.k R.x=some ⟨.sl e kk,xs⟩/\bX p R.k R.x/\(∀t∈az p R.k,ah t R.own=true)/\aW h p R.k (J.hdr r) (aS J R r)=some ([.slice b n c],wh)/\
  (Q.k=zP e kk/\Q.kind=.anon)/\J.hdr q=ce++[hq]/\ce.length=kk.size/\v=.slice (some ⟨b1,o1,none⟩) (n+1) c1/\n+1<=c1/\
  h b1=some (.cells arr e (lo,hi))/\jq arr.size lo hi/\o1+c1*kk.size<=arr.size/\Cells h b1 (o1+n*kk.size) ce/\
  ((b=some ⟨b1,o1,none⟩/\b1∈J.fo r/\hq=.slice none 0 0/\c=c1)\/(hq=.slice (some ⟨b1,o1,none⟩) 0 c1/\b1∈J.fo q/\(0<n->∃b0 o0,b=some ⟨b0,o0,none⟩/\b0∈J.fo r/\∀i,i<n*kk.size->cellAt h b1 (o1+i)=cellAt h b0 (o0+i))))
def akk(J:aO)(h:Heap)(r:Nat)(R:Root)(p:List Stp)(q:Nat)(Q:Root)(a b:Nat)(v:Value):Prop:=
 ∃(e:TypeId) (kk:K) (xs:List (El kk)) (wh:Option (Nat×Nat)) (bb:Option Addr) (m c:Nat) (bq:Option Addr) (m1 c1:Nat),
  aB p R.k R.x=some ⟨.sl e kk,xs⟩/\bX p R.k R.x/\(∀t∈az p R.k,ah t R.own=true)/\aW h p R.k (J.hdr r) (aS J R r)=some ([.slice bb m c],wh)/\
  (Q.k=.sl e (.gap kk.size)/\Q.kind=.anon)/\J.hdr q=[v]/\v=.slice bq m1 c1/\(a<=b/\b<=m/\m=xs.length/\m1=a+(m-b))/\
  (0<m1->∃b1 o1 b0 o0,bq=some ⟨b1,o1,none⟩/\bb=some ⟨b0,o0,none⟩/\b1∈J.fo q/\b0∈J.fo r/\
   ∀j i,j<m1->i<kk.size->cellAt h b1 (o1+(j*kk.size+i))=cellAt h b0 (o0+((if j<a then j else b+(j-a))*kk.size+i)))
def a_(cx:Cx)(Z:St)(J:aO)(F:List Nat)(w:World):AV->Value->Prop
 |.undef,_=>True
 |.val k x T,v=>(k.flat=true\/dG Z k.tys T=true)->∃cs,VC k v cs/\Vw (hp w) (bK cx Z J F w T) k x cs
 |.fZ,v=>∃a,v=.slice a 0 0
 |.ref r g,v=>∀R,aX Z r R->R.g=g->R.kind=.anon/\VC R.k v (J.hdr r)
 |.eP r p n,v=>∀R,Z.roots r=some R->dF Z R->R.dY=n->∀d,aB p R.k R.x=some d->
   bX p R.k R.x/\(∀t∈az p R.k,ah t R.own=true)/\∃cs wh,aW (hp w) p R.k (J.hdr r) (aS J R r)=some (cs,wh)/\VC d.1 v cs
 |.ptr r p n,v=>(∃b o,v=.pointer (some ⟨b,o,none⟩))/\∀R,Z.roots r=some R->dF Z R->clean R.h n (iL p R.k)=true->(∀t∈az p R.k,ah t R.own=true)->(aB p R.k R.x).isSome=true->
   bX p R.k R.x/\∃cs b o,aW (hp w) p R.k (J.hdr r) (aS J R r)=some (cs,some (b,o))/\v=.pointer (some ⟨b,o,none⟩)
 |.gq bt k x T,v=>wJ cx Z J F w bt k x T v
 |.jA,v=>v=.pointer none
 |.pO e,v=>∃b,v=.bool b/\(b=true->e=true)
 |.part r g lo hi sz,v=>∃b' b n c,v=.slice b' (hi-lo) (c-lo)/\(lo=0\/c≠lo->b'=b.map (·.add (lo*sz)))/\lo<=hi/\hi<=n/\n<=c/\∀R,aX Z r R->R.g=g->R.kind=.anon/\VC R.k (.slice b n c) (J.hdr r)
 |.mg r g k p,v=>∃u b off k1,v=.pointer (some ⟨b,off,none⟩)/\mH Z J F w [] b/\Cells (hp w) b 0 u.cells.toList/\nK p k=some (off,k1)/\∀R,aX Z r R->R.g=g->R.kind=.anon/\VC R.k u (J.hdr r)
 |.nN r p n m,v=>∃b c,v=.slice b m c/\∀R,Z.roots r=some R->dF Z R->R.dY=n->∀d,aB p R.k R.x=some d->
   bX p R.k R.x/\(∀t∈az p R.k,ah t R.own=true)/\∃q wh,aW (hp w) p R.k (J.hdr r) (aS J R r)=some ([.slice b q c],wh)/\m<=q
 |.sub r p n lo hi sz,v=>∃b' b m c,v=.slice b' (hi-lo) (c-lo)/\(lo=0\/c≠lo->b'=b.map (·.add (lo*sz)))/\lo<=hi/\hi<=m/\m<=c/\∀R,Z.roots r=some R->dF Z R->R.dY=n->∀d,aB p R.k R.x=some d->
   bX p R.k R.x/\(∀t∈az p R.k,ah t R.own=true)/\∃wh,aW (hp w) p R.k (J.hdr r) (aS J R r)=some ([.slice b m c],wh)
 |.sel r p n q x y,v=>∀R,Z.roots r=some R->dF Z R->R.dY=n->∀Q,aX Z q Q->Q.dY=0->akk J (hp w) r R p q Q x y v
 |.app r p n q,v=>∀R,Z.roots r=some R->dF Z R->R.dY=n->∀Q,aX Z q Q->Q.dY=0->aeY J (hp w) r R p q Q v
 |.fn f cs,v=>∃vs:List Value,v=.func (.func f) #[] vs.toArray/\nJ cx Z J F w cs vs
def iP(cx:Cx)(Z:St)(J:aO)(F:List Nat)(w:World):List AV->List Value->Prop
 | [],[]=>True
 |a :: l,v :: vs=>a_ cx Z J F w a v/\iP cx Z J F w l vs
 |_,_=>False
def FB:K->List Value->List Value->Prop
 |.pair k r,u :: us,cs=>∃c1 c2,cs=c1++c2/\VC k u c1/\c1.length=k.size/\FB r us c2
 |.unit,[],cs=>cs=[]
 |_,_,_=>False
def jo(cx:Cx)(Z:St)(J:aO)(F:List Nat)(w:World):gU->Value->Prop
 |.one a,v=>a_ cx Z J F w a v
 |.mO l,v=>∃vs:List Value,v=.tuple vs.toArray/\iP cx Z J F w l vs
 |.lit _ c l,v=>∃vs cs:List Value,(v=.agg cs.toArray/\FB c vs cs)/\iP cx Z J F w l vs
def y8(Z:St)(t:Tag):Prop:=gZ t.1=true\/∃R,Z.roots t.1=some R/\(R.cZ=true\/t.2<=dR R.w)
def gB(Z:St)(T:List Tag):Prop:=∀t∈T,y8 Z t
def dV(Z:St):AV->Prop
 |.val _ _ T=>gB Z T
 |.ref r g=>∃R,Z.roots r=some R/\(R.cZ=true\/g<=R.g)
 |.eP r _ n=>∃R,Z.roots r=some R/\(R.cZ=true\/n<=R.dY)
 |.mg r g _ _=>∃R,Z.roots r=some R/\(R.cZ=true\/g<=R.g)
 |.part r g _ _ _=>∃R,Z.roots r=some R/\(R.cZ=true\/g<=R.g)
 |.nN r _ n _=>∃R,Z.roots r=some R/\(R.cZ=true\/n<=R.dY)
 |.sub r _ n _ _ _=>∃R,Z.roots r=some R/\(R.cZ=true\/n<=R.dY)
 |.sel r _ n q _ _=>(∃R,Z.roots r=some R/\(R.cZ=true\/n<=R.dY))/\∃R,Z.roots q=some R
 |.app r _ n q=>(∃R,Z.roots r=some R/\(R.cZ=true\/n<=R.dY))/\∃R,Z.roots q=some R
 |.ptr r _ n=>∃R,Z.roots r=some R/\(R.cZ=true\/n<=dR R.h)
 |.gq _ _ _ T=>gB Z T
 |.fn _ cs=>∀c∈cs,gB Z c.2.2
 |_=>True
def nI(Z:St):gU->Prop
 |.one a=>dV Z a
 |.mO l=>∀a∈l,dV Z a
 |.lit _ _ l=>∀a∈l,dV Z a
def ae2(cx:Cx)(w:World):Prop:=
 w.os=cx.w0.os/\w.tape=cx.w0.tape/\w.output=cx.w0.output/\cx.w0.heap.size<=w.heap.size/\
 (∀b,b<cx.w0.heap.size->(∀j pi,cx.par j=some pi->b∉pi.bl)->hp w b=hp cx.w0 b)/\
 (∀j pi b o n,cx.par j=some pi->pi.base=some (b,o,n)->mU (hp cx.w0) (hp w) b o n)
def mine(cx:Cx)(w:World)(b:Nat):Prop:=b<w.heap.size/\(cx.w0.heap.size<=b\/∃j pi,cx.par j=some pi/\b∈pi.bl)
structure uR(cx:Cx)(Z:St)(J:aO)(F:List Nat)(w:World)(r:Nat)(R:Root):Prop where
 ow:dF Z R->Ow (hp w) R.own (bK cx Z J F w R.tags) R.k R.x (J.hdr r) (J.fo r)
 len:(J.hdr r).length=R.k.size
 mem:∀b o,aS J R r=some (b,o)->Cells (hp w) b o (J.hdr r)/\∃arr e lo hi,hp w b=some (.cells arr e (lo,hi))/\jq arr.size lo hi/\o+R.k.size<=arr.size/\(∀t,R.kind=.var t->e=t)
 nd:(blk J R r).Nodup
 mine:∀b∈blk J R r,Ow.mine cx w b
structure Rel(cx:Cx)(Z:St)(J:aO)(F:List Nat)(a:Act)(w:World):Prop where
 defs:a.defers=[]
 sz:cx.nt<=a.tmps.size
 kI:∀j pi b o n,cx.par j=some pi->pi.base=some (b,o,n)->∃R,aX Z (aa j) R/\R.kind=.par/\J.loc (aa j)=(b,o)/\R.k.size=n
 sW:∀r R,aX Z r R->R.kind=.par->∃j pi n,r=aa j/\cx.par j=some pi/\pi.base=some ((J.loc r).1,(J.loc r).2,n)
 slots:∀s,jo cx Z J F w (Z.slots s) (a.tmps.getD s undef)
 tJ:∀s,nI Z (Z.slots s)
 roots:∀r R,aX Z r R->uR cx Z J F w r R
 gz:∀r R,Z.roots r=some R->gB Z R.tags/\gZ r=false/\(∀n,(r,n)∉R.tags)
 lN:∀r R r' R',aX Z r R->aX Z r' R'->r≠r'->∀b∈blk J R r,b∉blk J R' r'
 fl:∀b∈F,mine cx w b
 iw:F.Nodup
 fI:∀r R,aX Z r R->∀b∈blk J R r,b∉F
 frame:ae2 cx w
 qj:∀j pi,cx.par j=some pi->pi.kp=true->∃R,Z.roots (aa j)=some R/\(R.cZ=false->∀b∈pi.bl,¬oh cx b->
  (∃e,jM (hp cx.w0) b=some e/\(e∈R.w\/e∈R.ew))\/(hp w b=hp cx.w0 b/\b∉F/\∀q Q,aX Z q Q->b∈blk J Q q->q=aa j))
 mJ:(∀j pi,cx.par j=some pi->∀b∈pi.bl,b<cx.w0.heap.size)/\(∀b,Fr.free b->b<cx.w0.heap.size/\∀j pi,cx.par j=some pi->b∉pi.bl)/\∀b,Fr.free b->hp cx.w0 b=Fr.obj b
 rJ:∀j p ts v,cx.ptrs j p ts v->(∃b o,v=.pointer (some ⟨b,o,none⟩))/\∃R,Z.roots (aa j)=some R/\((∀t∈ts,t∉R.eh)->a_ cx Z J F w (.ptr (aa j) p 0) v)
 rM:∀j v,cx.refs j v->(∃R,Z.roots (aa j)=some R)/\a_ cx Z J F w (.ref (aa j) 0) v
theorem Rel.acn{cx:Cx}{Z:St}{J:aO}{F:List Nat}{a:Act}{w:World}(H:Rel cx Z J F a w){b:Nat}(hm:mine cx w b):¬Fr.free b:=by
 intro hf
 obtain⟨h1,h2⟩:=H.mJ.2.1 b hf
 rcases hm.2 with h|⟨j,pi,h3,h4⟩
 ·omega
 ·exact h2 j pi h3 h4
theorem Rel.fixed{cx:Cx}{Z:St}{J:aO}{F:List Nat}{a:Act}{w:World}(H:Rel cx Z J F a w){b:Nat}(hf:Fr.free b):hp w b=Fr.obj b:=by
 obtain⟨h1,h2⟩:=H.mJ.2.1 b hf
 rw[H.frame.2.2.2.2.1 b h1 h2]
 exact H.mJ.2.2 b hf
theorem Rel.C_{cx:Cx}{Z:St}{J:aO}{F:List Nat}{a:Act}{w:World}(H:Rel cx Z J F a w){b:Nat}{t:TypeId}(hm:mine cx w b)(h:mh (hp w) b t):jM (hp w) b=some t:=h.resolve_right (H.acn hm)
theorem qO{A:Type}(l:List A):dR l=l.length:=by induction l<;>simp_all[dR]
theorem dh{n:Nat}{l:List Nat}:ah n l=true↔n∈l:=by
 induction l with
 |nil=>simp[ah]
 |cons m l ih=>
  simp only[ah,bW]
  cases h:Nat.beq n m with
  |true=>simp[bD h]
  |false=>simp[ih,M0 h]
theorem gJ{n:Nat}{l:List Nat}:ah n l=false↔n∉l:=by rw[<-dh];simp
theorem asT(a l:List Nat){n:Nat}(h:n<=dR l):since (a++l) n=a++since l n:=by
 unfold since
 rw[qO]at h
 simp only[qO,dN]
 rw[List.take_append,DZ (by omega)]
 congr 2
 omega
theorem Et{a l:List Nat}{n:Nat}{tys:List Nat}(h:n<=dR l):clean (a++l) n tys=true↔(∀t∈a,t∉tys)/\clean l n tys=true:=by
 unfold clean
 rw[asT a l h,List.all_append,bB,eX]
 simp[gJ]
theorem ale{Z:St}{tys:List TypeId}{t:Tag}{T:List Tag}:dG Z tys (t :: T)=true↔(gZ t.1=true\/∃R,Z.roots t.1=some R/\R.cZ=false/\clean R.w t.2 tys=true)/\dG Z tys T=true:=by
 obtain⟨r,n⟩:=t
 simp only[dG,bB]
 cases he:gZ r with
 |true=>simp
 |false=>
  simp only[jV,bg,false_or]
  cases hr:Z.roots r with
  |none=>simp
  |some R=>simp
theorem zV{Z:St}{tys:List TypeId}{T:List Tag}:dG Z tys T=true↔∀t∈T,gZ t.1=true\/∃R,Z.roots t.1=some R/\R.cZ=false/\clean R.w t.2 tys=true:=by
 induction T with
 |nil=>simp[dG]
 |cons t T ih=>rw[ale,ih];simp
def Views(cx:Cx)(Z:St)(J:aO)(F:List Nat)(w:World)(Z':St)(J':aO)(F':List Nat)(w':World):Prop:=
 ∀T tys,gB Z T->dG Z' tys T=true->dG Z tys T=true/\
  (∀b,bK cx Z J F w T b->((∃t∈tys,mh (hp w) b t)\/∀t∈T,gZ t.1=true)->bK cx Z' J' F' w' T b/\hp w' b=hp w b)/\
  ∀b,mH Z J F w T b->((∃t∈tys,mh (hp w) b t)/\¬oh cx b\/∀t∈T,gZ t.1=true)->mH Z' J' F' w' T b/\hp w' b=hp w b
theorem Views.vw{cx:Cx}{Z Z':St}{J J':aO}{F F':List Nat}{w w':World}(H:Views cx Z J F w Z' J' F' w'){T:List Tag}{tys:List TypeId}(hw:gB Z T)(hc:dG Z' tys T=true)
  {k:K} {x:El k} {cs:List Value} (hk:∀t∈k.tys,t∈tys) (h:Vw (hp w) (bK cx Z J F w T) k x cs):Vw (hp w') (bK cx Z' J' F' w' T) k x cs:=by
 obtain⟨_,h2,_⟩:=H T tys hw hc
 exact lJ (λb hb=>(h2 b hb.1 (.inl hb.2)).2) (λb hb=>(h2 b hb.1 (.inl hb.2)).1) (IB tys hk h)
theorem Views.ro{cx:Cx}{Z Z':St}{J J':aO}{F F':List Nat}{w w':World}(H:Views cx Z J F w Z' J' F' w'){bt:TypeId}{k:K}{x:El k}{T:List Tag}{v:Value}(hw:gB Z T)
  (h:wJ cx Z J F w bt k x T v):wJ cx Z' J' F' w' bt k x T v:=by
 refine⟨h.1,λhc=>?_⟩
 obtain⟨h1,_,h2⟩:=H T _ hw hc
 obtain⟨b,o,cs,e,hcs,hv,hok,hb⟩:=h.2 h1
 have hb':mH Z' J' F' w' T b/\hp w' b=hp w b:=h2 b hok (by
  rcases hb with⟨_,hb⟩|hb
  ·exact .inr hb
  ·exact .inl ⟨⟨bt,by simp,hb.1⟩,hb.2⟩)
 exact⟨b,o,cs,e,hcs.congr hb'.2,H.vw hw hc (λt ht=>by simp[ht]) hv,hb'.1,hb.imp id (λh=>⟨ZW hb'.2 h.1,h.2⟩)⟩
theorem Views.caps{cx:Cx}{Z Z':St}{J J':aO}{F F':List Nat}{w w':World}(H:Views cx Z J F w Z' J' F' w') :
  ∀{cs:List (TypeId×Dat×List Tag)} {vs:List Value},(∀c∈cs,gB Z c.2.2)->nJ cx Z J F w cs vs->nJ cx Z' J' F' w' cs vs
 | [],[],_,h=>h
 |c :: cs,v :: vs,hw,h=>⟨H.ro (hw c (by simp)) h.1,H.caps (λc hc=>hw c (by simp[hc])) h.2⟩
 | [],_ :: _,_,h=>h.elim
 |_ :: _,[],_,h=>h.elim
theorem AQ{cx:Cx}{Z Z':St}{J J':aO}{F F':List Nat}{w w':World}(H:Views cx Z J F w Z' J' F' w'){R:Root}(hw:gB Z R.tags)(h:dF Z' R):dF Z R:=
 ⟨h.1,(H R.tags R.qR hw h.2).1⟩
end
end Go.Proofs.YtplpeegfeajkkaaGreatDoor.Ow

/- A verified reading of translated code, part A of 7. No condition. -/
import Derived.Calls
import Derived.Orders
import Derived.Laws.Cells
import Derived.Laws.IdiomCopy
import Derived.Laws.Entries
import Derived.ChangeKeysEq
import Derived.WalkKit
set_option linter.unusedSectionVars false
set_option linter.unusedVariables false
set_option linter.unusedSimpArgs false
namespace Go.Proofs.YtgppmpedglhhfaaGreatDoor.Ow
open Go
abbrev ak := @Option.some.injEq
abbrev aQ := @Option.bind_some
abbrev bG := @List.mem_append_right
abbrev bP := @Bool.false_eq_true
abbrev bu := @Nat.eq_of_beq_eq_true
abbrev bV := @List.mem_append_left
abbrev bf := @Bool.and_eq_true
abbrev dJ := @List.nodup_append
abbrev dI := @List.length_append
abbrev dh := @List.mem_append
abbrev iw := @Int.toNat_natCast
abbrev bS := @Prod.mk.injEq
abbrev bM := @List.mem_cons
abbrev eP := @List.getD_eq_getElem?_getD
abbrev fG := @List.getElem?_eq_getElem
abbrev dV := @List.all_eq_true
abbrev bZ := @Nat.le_refl
abbrev jg := @List.mem_filter
abbrev eZ := @Result.andThen_ok
abbrev gY := @List.mem_singleton
abbrev Zo := @List.length_singleton
abbrev eG := @List.append_assoc
abbrev j6 := @Classical.byContradiction
abbrev iy := @List.length_cons
abbrev jD := @List.mem_cons_of_mem
abbrev dH := @Sem.run_bind
abbrev qC := @Int.ofNat_lt
abbrev gI := @Bool.not_true
abbrev om := @List.getElem_mem
abbrev jf := @List.append_nil
abbrev eH := @Sem.run_pure
abbrev jP := @Nat.mul_le_mul_right
abbrev jE := @List.mem_cons_self
abbrev jO := @List.nodup_cons
abbrev dW := @Nat.zero_le
abbrev kJ := @Option.some.inj
abbrev d_ := @List.mem_map
abbrev mW := @List.mem_flatMap
abbrev kr := @Bool.not_false
abbrev kP := @List.flatMap_cons
abbrev rA := @List.getElem?_cons_zero
abbrev p9 := @List.mem_of_getElem?
abbrev gX := @List.cons_append
abbrev iA := @List.nil_append
abbrev jq := @Nat.zero_add
abbrev oh := @List.getElem?_eq_some_iff
abbrev fT := @cond_true
abbrev gq := @Option.map_some
abbrev zL := @Array.getD_eq_getD_getElem?
abbrev jI := @cond_false
abbrev mq := @List.nodup_nil
abbrev vH := @Nat.lt_of_lt_of_le
abbrev La := @List.mem_of_mem_take
abbrev jN := @Bool.not_eq_true'
abbrev pQ := @Addr.mk.injEq
abbrev eO := @and_true
abbrev pX := @List.flatten_cons
abbrev K7 := @List.flatten_nil
abbrev wQ := @List.mem_iff_getElem
abbrev rW := @Array.ext'
abbrev Lb := @Nat.le_of_ble_eq_true
abbrev bL := @if_true
abbrev bI := @if_false
abbrev jo := @List.map_cons
abbrev aj := @if_pos
abbrev su := @Option.getD_some
abbrev ah := @if_neg
abbrev og := @Bool.or_eq_true
abbrev rz := @List.eq_nil_of_length_eq_zero
abbrev Aa := @List.map_append
abbrev Zj := @List.Sublist.append_left
abbrev PI := @Array.length_toList
abbrev PK := @Bool.or_eq_false_iff
abbrev Kt := @Bool.false_or
abbrev vF := @List.not_mem_nil
abbrev Lc := @Nat.ne_of_beq_eq_false
abbrev vG := @Nat.le_trans
abbrev bY := @decide_true
abbrev oq := @List.length_map
abbrev Dh := @decide_eq_true
abbrev K_ := @List.mem_flatten
abbrev z_ := @List.Perm.append_left
abbrev wN := @List.Perm.append_right
abbrev QF := @List.perm_append_comm
abbrev CJ := @List.getElem?_map
abbrev Zm := @List.getElem?_range
abbrev vE := @List.getElem?_append_left
abbrev yc := @List.getElem?_append_right
abbrev ou := @Nat.add_assoc
abbrev wO := @List.drop_drop
abbrev x_ := @List.drop_eq_getElem_cons
abbrev Ab := @List.take_append_drop
abbrev iB := @Nat.add_mul
abbrev lT := @Nat.one_mul
abbrev pY := @List.getElem?_eq_none
abbrev gG := @run_underlying
abbrev mD := @Nat.add_zero
abbrev PG := @Array.getElem?_modify
abbrev XL := @Array.getElem?_setIfInBounds_self_of_lt
abbrev XK := @Array.getElem?_setIfInBounds_ne
abbrev Zp := @List.take_of_length_le
abbrev wP := @List.length_take
abbrev RY := @decide_eq_false
abbrev bF := @decide_eq_true_eq
abbrev KZ := @Int.le_refl
abbrev K9 := @List.length_drop
abbrev iF := @List.length_nil
abbrev YS := @Int.tdiv_eq_ediv_of_nonneg
abbrev YT := @Int.tmod_eq_emod_of_nonneg
abbrev KY := @Int.eq_ofNat_of_zero_le
abbrev Gn := @List.map_map
abbrev z8 := @Int.lt_irrefl
abbrev dm := @decide_false
abbrev QG := @List.take_length
abbrev vD := @List.drop_zero
abbrev Gp := @List.take_succ_eq_append_getElem
abbrev CF := @List.flatMap_nil
abbrev Gl := @List.getElem?_take_of_lt
abbrev CG := @List.getElem?_drop
abbrev Gm := @List.mapM_cons
abbrev gW := @List.cons.injEq
abbrev Ad := @Nat.sub_self
abbrev rX := @Array.getElem?_toList
abbrev Gq := @Option.bind_eq_some_iff
abbrev XJ := @Array.eq_empty_of_size_eq_zero
abbrev Zk := @List.flatten_append
abbrev QE := @List.getElem?_take
abbrev CK := @List.getElem_append_left
abbrev K8 := @List.getElem_append_right
abbrev WZ := @run_firstCells_none
abbrev BU := @run_firstCells_some
abbrev Gj := @List.ext_getElem?
abbrev CO := @List.size_toArray
abbrev PE := @Array.getElem?_append_left
abbrev u7 := @Array.toList_map
abbrev Ac := @List.zip_cons_cons
abbrev Zl := @List.getElem?_cons_succ
abbrev uA := @decide_eq_decide
abbrev Ku := @ByteArray.toList_eq
abbrev CQ := @Option.getD_none
abbrev mX := @Value.slice.injEq
abbrev CL := @List.length_pos_iff
abbrev Zn := @List.getLastD_eq_getLast?
section
open Go
inductive K where
 |int (k:IntKind)
 |bool
 |str
 |sl (e:TypeId) (k:K)
 |unit
 |pair (a b:K)
 |st (f:K)
 |gap (n:Nat)
 |id (e:TypeId)
 deriving Inhabited
abbrev El:K->Type
 |.int _=>Int
 |.bool=>Bool
 |.str=>List Int
 |.sl _ k=>List (El k)
 |.unit=>Unit
 |.pair a b=>El a×El b
 |.st f=>El f
 |.gap _=>Unit
 |.id _=>Nat
def K.size:K->Nat
 |.int _ | .bool | .str | .sl _ _ | .id _=>1
 |.unit=>0
 |.pair a b=>a.size+b.size
 |.st f=>f.size
 |.gap n=>n
def K.zero:(k:K)->El k
 |.int _=>(0:Int)
 |.bool=>false
 |.str=>([]:List Int)
 |.sl _ _=>[]
 |.unit=>()
 |.pair a b=>(a.zero,b.zero)
 |.st f=>f.zero
 |.gap _=>()
 |.id _=>(0:Nat)
def sV:IntKind->IntKind->Bool
 |.i8,.i8 | .i16,.i16 | .i32,.i32 | .i64,.i64 | .u8,.u8 | .u16,.u16 | .u32,.u32 | .u64,.u64=>true
 |_,_=>false
def K.beq:K->K->Bool
 |.int a,.int b=>sV a b
 |.bool,.bool=>true
 |.str,.str=>true
 |.sl e a,.sl f b=>Nat.beq e f&&a.beq b
 |.unit,.unit=>true
 |.pair a b,.pair c d=>a.beq c&&b.beq d
 |.st a,.st b=>a.beq b
 |.gap n,.gap m=>Nat.beq n m
 |.id e,.id f=>Nat.beq e f
 |_,_=>false
theorem Ie{a b:IntKind}(h:sV a b=true):a=b:=by cases a<;>cases b<;>simp_all[sV]
theorem K.eq_of_beq:∀{a b:K},a.beq b=true->a=b:=by
 intro a
 induction a with
 |int k=>intro b h;cases b<;>simp_all[K.beq];exact Ie h
 |sl e k ih=>intro b h;cases b<;>simp_all[K.beq];exact ih h.2
 |pair a b iha ihb=>intro c h;cases c<;>simp_all[K.beq];exact⟨iha h.1,ihb h.2⟩
 |st f ih=>intro b h;cases b<;>simp_all[K.beq];exact ih h
 |gap n=>intro b h;cases b<;>simp_all[K.beq]
 |id e=>intro b h;cases b<;>simp_all[K.beq]
 |_=>intro b h;cases b<;>simp_all[K.beq]
def K.like:K->K->Bool
 |.gap n,k=>Nat.beq n k.size
 |.pair a b,.pair c d=>a.like c&&b.like d
 |.st a,.st b=>a.like b
 |a,b=>a.beq b
def b_(a b:K)(x:El a):Option (El b):=if h:a.beq b=true then some (K.eq_of_beq h▸x)else none
def K.hole:K->K
 |.sl _ _=>.gap 1
 |.pair a b=>.pair a.hole b.hole
 |.st f=>.st f.hole
 |k=>k
def oH:(k:K)->El k->El k.hole
 |.sl _ _,_=>()
 |.pair a b,x=>(oH a x.1,oH b x.2)
 |.st f,x=>oH f x
 |.int _,x=>x
 |.bool,x=>x
 |.str,x=>x
 |.unit,_=>()
 |.gap _,_=>()
 |.id _,x=>x
def K.tys:K->List TypeId
 |.sl e k=>e :: k.tys
 |.pair a b=>a.tys++b.tys
 |.st f=>f.tys
 |_=>[]
def K.flat:K->Bool
 |.sl _ _ | .gap _=>false
 |.pair a b=>a.flat&&b.flat
 |.st f=>f.flat
 |_=>true
def Cont:List K->Type
 | []=>Unit
 |k :: ks=>El k×Cont ks
def Cont.app:(ks ls:List K)->Cont ks->Cont ls->Cont (ks++ls)
 | [],_,_,d=>d
 |_ :: ks,ls,c,d=>(c.1,Cont.app ks ls c.2 d)
inductive Stp where
 |aU (n:Nat)
 |idx (i:Int)
abbrev Dat:=(k:K)×El k
def nu(d:Dat):Dat:=⟨d.1.hole,oH d.1 d.2⟩
def aP:Nat->(c:K)->El c->Option Dat
 |0,.pair a _,x=>some ⟨a,x.1⟩
 |n+1,.pair _ b,x=>aP n b x.2
 |_,_,_=>none
def aD:List Stp->(k:K)->El k->Option Dat
 | [],k,x=>some ⟨k,x⟩
 |.aU n :: p,.st c,x=>match aP n c x with
  |some d=>aD p d.1 d.2
  |none=>none
 |.idx i :: p,.sl _ k,xs=>aD p k ((show List (El k)from xs).getD i.toNat k.zero)
 |_,_,_=>none
def dB:Nat->(c:K)->El c->Dat->Option Dat
 |0,.pair _ b,x,d=>some ⟨.pair d.1 b,(d.2,x.2)⟩
 |n+1,.pair a b,x,d=>match dB n b x.2 d with
  |some z=>some ⟨.pair a z.1,(x.1,z.2)⟩
  |none=>none
 |_,_,_,_=>none
def bO:List Stp->(k:K)->El k->Dat->Option Dat
 | [],_,_,d=>some d
 |.aU n :: p,.st c,x,d=>match aP n c x with
  |some s=>match bO p s.1 s.2 d with
   |some t=>match dB n c x t with
    |some z=>some ⟨.st z.1,z.2⟩
    |none=>none
   |none=>none
  |none=>none
 |.idx i :: p,.sl e k,xs,d=>match bO p k ((show List (El k)from xs).getD i.toNat k.zero) d with
  |some t=>match b_ t.1 k t.2 with
   |some y=>some ⟨.sl e k,(show List (El k)from xs).set i.toNat y⟩
   |none=>none
  |none=>none
 |_,_,_,_=>none
def Stp.jw:Stp->Bool
 |.aU _=>true
 |.idx _=>false
def aC:List Stp->K->List TypeId
 |.aU n :: p,.st c=>match kC n c with
  |some k=>aC p k
  |none=>[]
 |.idx _ :: p,.sl e k=>e :: aC p k
 |_,_=>[]
where kC:Nat->K->Option K
 |0,.pair a _=>some a
 |n+1,.pair _ b=>kC n b
 |_,_=>none
abbrev Tag:=Nat×Nat
inductive AV where
 |undef
 |val (k:K) (x:El k) (tags:List Tag)
 |eX
 |ref (r g:Nat)
 |dP (r:Nat) (p:List Stp) (v:Nat)
 |ptr (r:Nat) (p:List Stp) (h:Nat)
 |fC (bt:TypeId) (k:K) (x:El k) (tags:List Tag)
 |iW
 |kS (r g:Nat) (k:K) (p:List Stp)
 |nZ (e:Bool)
 |part (r g lo hi sz:Nat)
 |l9 (r:Nat) (p:List Stp) (v m:Nat)
 |app (r:Nat) (p:List Stp) (v q:Nat)
 |sub (r:Nat) (p:List Stp) (v lo hi sz:Nat)
 |sel (r:Nat) (p:List Stp) (v q a b:Nat)
 |fn (f:Nat) (caps:List (TypeId×Dat×List Tag))
inductive f_ where
 |one (a:AV)
 |mQ (l:List AV)
 |lit (t:TypeId) (c:K) (l:List AV)
inductive yl where
 |anon
 |var (t:TypeId)
 |par
 |dead
structure Root where
 k:K
 x:El k
 own:List TypeId
 tags:List Tag
 w:List TypeId
 h:List TypeId
 g:Nat
 kind:yl
 fixed:Bool
 keep:Bool
 ew:List TypeId:=[]
 eh:List TypeId:=[]
def Root.cu(R:Root):Bool:=match R.kind with
 |.dead=>true
 |_=>false
def Root.isVar(R:Root):Bool:=match R.kind with
 |.var _=>true
 |_=>false
def g_:Root:={ k:=.unit,x:=(),own:=[],tags:=[],w:=[],h:=[],g:=0,kind:=.dead,fixed:=true,keep:=true }
structure St where
 slots:Nat->f_
 roots:Nat->Option Root
inductive Loc where
 |s (n:Nat)
 |r (n:Nat)
inductive Wr where
 |s (n:Nat) (a:f_)
 |r (n:Nat) (o:Option Root)
def Loc.beq:Loc->Loc->Bool
 |.s a,.s b=>Nat.beq a b
 |.r a,.r b=>Nat.beq a b
 |_,_=>false
def Wr.loc:Wr->Loc
 |.s n _=>.s n
 |.r n _=>.r n
def upd{J:Type}(f:Nat->J)(n:Nat)(v:J):Nat->J:=λm=>bif Nat.beq m n then v else f m
def Wr.app(w:Wr)(Z:St):St:=match w with
 |.s n a=>{ Z with slots:=upd Z.slots n a }
 |.r n (some R)=>{ Z with roots:=upd Z.roots n (some R) }
 |.r n none=>{ Z with roots:=upd Z.roots n (some g_) }
def aF:List Wr->St->St
 | [],Z=>Z
 |w :: ws,Z=>aF ws (w.app Z)
inductive Prog(J:Type):Type 1 where
 |ret (a:J)
 |fail
 |slot (n:Nat) (k:f_->Prog J)
 |root (r:Nat) (k:Option Root->Prog J)
 |dX (c:Prop) (d:Decidable c) (k:Prog J)
 |br (c:Bool) (t e:Prog J)
 |opt (β:Type) (o:Option β) (k:β->Prog J)
def Prog.bind{J β:Type}:Prog J->(J->Prog β)->Prog β
 |.ret a,f=>f a
 |.fail,_=>.fail
 |.slot n k,f=>.slot n λv=>(k v).bind f
 |.root r k,f=>.root r λv=>(k v).bind f
 |.dX c d k,f=>.dX c d (k.bind f)
 |.br c t e,f=>.br c (t.bind f) (e.bind f)
 |.opt β o k,f=>.opt β o λb=>(k b).bind f
def Prog.run{J R:Type}:Prog J->St->(J->Option R)->Option R
 |.ret a,_,K=>K a
 |.fail,_,_=>none
 |.slot n k,Z,K=>(k (Z.slots n)).run Z K
 |.root r k,Z,K=>(k (Z.roots r)).run Z K
 |.dX c d k,Z,K=>@ite _ c d (k.run Z K) none
 |.br c t e,Z,K=>if c=true then t.run Z K else e.run Z K
 |.opt _ o k,Z,K=>o.bind λb=>(k b).run Z K
def Prog.tT{J R:Type}:Prog J->St->List Loc->(J->List Loc->Option R)->Option R
 |.ret a,_,l,K=>K a l
 |.fail,_,_,_=>none
 |.slot n k,Z,l,K=>(k (Z.slots n)).tT Z (.s n :: l) K
 |.root r k,Z,l,K=>(k (Z.roots r)).tT Z (.r r :: l) K
 |.dX c d k,Z,l,K=>@ite _ c d (k.tT Z l K) none
 |.br c t e,Z,l,K=>if c=true then t.tT Z l K else e.tT Z l K
 |.opt _ o k,Z,l,K=>o.bind λb=>(k b).tT Z l K
def zn:List Wr->Nat->Option f_
 | [],_=>none
 |.s m a :: ws,n=>match zn ws n with
  |some b=>some b
  |none=>bif Nat.beq n m then some a else none
 |.r _ _ :: ws,n=>zn ws n
def BJ:List Wr->Nat->Option (Option Root)
 | [],_=>none
 |.r m o :: ws,n=>match BJ ws n with
  |some b=>some b
  |none=>bif Nat.beq n m then some (some (o.getD g_))else none
 |.s _ _ :: ws,n=>BJ ws n
def Prog.over{J:Type}(ws:List Wr):Prog J->Prog J
 |.ret a=>.ret a
 |.fail=>.fail
 |.slot n k=>match zn ws n with
  |some v=>(k v).over ws
  |none=>.slot n λv=>(k v).over ws
 |.root r k=>match BJ ws r with
  |some v=>(k v).over ws
  |none=>.root r λv=>(k v).over ws
 |.dX c d k=>.dX c d (k.over ws)
 |.br c t e=>.br c (t.over ws) (e.over ws)
 |.opt β o k=>.opt β o λb=>(k b).over ws
def Pe(p q:Prog (List Wr)):Prog (List Wr):=p.bind λws=>(q.over ws).bind λvs=>.ret (ws++vs)
end
section
open Go
def ay(n:Nat):List Nat->Bool
 | []=>false
 |m :: l=>bif Nat.beq n m then true else ay n l
def mM(l m:List Nat):Bool:=l.all λn=>ay n m
def dL{J:Type}:List J->Nat
 | []=>0
 |_ :: l=>dL l+1
def aG(j:Nat):Nat:=4*j
def gK(j:Nat):Nat:=4*j+1
def aK(d c:Nat):Nat:=4*(8*d+c)+2
def fV(r:Nat):Bool:=Nat.beq (r%4) 1
def since(l:List Nat)(n:Nat):List Nat:=l.take (dL l-n)
def clean(l:List Nat)(n:Nat)(tys:List Nat):Bool:=(since l n).all λt=>!ay t tys
def bytesOf(s:ByteArray):List Int:=s.data.toList.map λb=>(b.toNat:Int)
inductive aM where
 |val (k:K) (bE:List Nat)
 |ro (k:K)
 |rw (k:K) (ow wt ht:List TypeId)
 |into (j:Nat) (p:List (Option Nat))
 |dQ (k:K) (ow wt:List TypeId)
 |own (k:K) (ow:List TypeId)
 |fn (f:Nat) (ks:List K)
inductive gJ where
 |val (k:K) (exts bE:List Nat)
 |own (k:K) (ow:List TypeId) (exts bE:List Nat)
 |ptr (t:TypeId) (k:K) (ow:List TypeId) (exts:List Nat)
 |into (j:Nat) (p:List (Option Nat))
def aM.kin:aM->List K
 |.val k _ | .ro k | .rw k _ _ _ | .dQ k _ _ | .own k _=>[k]
 |.into _ p=>p.filterMap fun|none=>some (.int .i64)|some _=>none
 |.fn _ ks=>ks
def aM.gM:aM->List K
 |.rw k _ _ _ | .dQ k _ _=>[k]
 |_=>[]
def gJ.iI:gJ->List K
 |.val k _ _ | .own k _ _ _ | .ptr _ k _ _=>[k]
 |.into _ _=>[.int .i64]
def kin:List aM->List K
 | []=>[]
 |p :: ps=>p.kin++kin ps
def gM:List aM->List K
 | []=>[]
 |p :: ps=>p.gM++gM ps
def iI:List gJ->List K
 | []=>[]
 |p :: ps=>p.iI++iI ps
structure Entry where
 f:FuncId
 ps:List aM
 rs:List gJ
 F:Nat->Cont (kin ps)->Option (Cont (iI rs++gM ps))
structure bK where
 ty:TypeId->Option K
 bytes:TypeId->Nat
 ptr:TypeId->Bool
 eq:TypeId->Bool
 ids:Bool:=false
structure Hint where
 nt:Nat
 amd:List Nat
 loops:List (Nat×List Nat×List Nat)
 less:List (Nat×List TypeId)
 calls:List (Nat×Option Nat×Entry)
 fB:List (Nat×K×List TypeId×List TypeId)
 wide:List (Nat×List Nat):=[]
 parts:List Nat:=[]
 apps:List Nat:=[]
section
variable {J:Type}
def qK:List Tag->List TypeId->Prog J->Prog J
 | [],_,k=>k
 |(r,n) :: ts,tys,k=>bif fV r then qK ts tys k else .root r fun
  |some R=>bif !R.cu&&clean R.w n tys then qK ts tys k else .fail
  |none=>.fail
def bz(own:List TypeId):K->List TypeId
 |.sl e k=>bif ay e own then bz own k else e :: k.tys
 |.pair a b=>bz own a++bz own b
 |.st f=>bz own f
 |_=>[]
def Root.pO(R:Root):List TypeId:=bz R.own R.k
def iq(r:Nat)(k:Root->Prog J):Prog J:=.root r fun
 |some R=>bif R.cu then .fail else qK R.tags R.pO (k R)
 |none=>.fail
def Root.dM(R:Root):Nat:=dL R.w+dL R.h
def Root.out(R:Root)(r:Nat)(k:K):List Tag:=bif k.flat then []else bif k.tys.any (λt=>ay t R.own)then(r,dL R.w) :: R.tags else R.tags
def jS(r:Nat)(k:Prog J):Prog J:=.root r fun
 |none=>k
 |some _=>.fail
def DZ:IntKind->Int->Bool
 |.u8,n=>Int.blt n 256&&Int.ble 0 n
 |_,_=>true
where
 Int.blt (a b:Int):Bool:=decide (a<b)
 Int.ble (a b:Int):Bool:=decide (a<=b)
def JL:Value->AV
 |.int k n=>bif DZ k n then .val (.int k) n []else .undef
 |.bool b=>.val .bool b []
 |.string s=>.val .str (bytesOf s) []
 |.slice none 0 0=>.eX
 |.pointer none=>.iW
 |_=>.undef
def sN(x:Operand)(k:f_->Prog J):Prog J:=match x with
 |.tmp t=>.slot t k
 |.const v=>k (.one (JL v))
 |.func f=>k (.one (.fn f []))
 |.global _=>.fail
def dY(x:Operand)(k:AV->Prog J):Prog J:=sN x fun
 |.one a=>k a
 |_=>.fail
def oZ(a:AV)(k:(kk:K)->El kk->List Tag->Prog J):Prog J:=match a with
 |.val kk x tags=>qK tags kk.tys (k kk x tags)
 |.ref r g=>iq r λR=>bif Nat.beq R.g g then k R.k R.x (R.out r R.k)else .fail
 |.dP r p h=>iq r λR=>bif Nat.beq R.dM h then
   match aD p R.k R.x with
   |some d=>k d.1 d.2 (R.out r d.1)
   |none=>.fail
  else .fail
 |_=>.fail
def asInt(a:AV)(k:IntKind->Int->Prog J):Prog J:=match a with
 |.val (.int ik) n _=>k ik n
 |_=>.fail
def asBool(a:AV)(k:Bool->Prog J):Prog J:=match a with
 |.val .bool b _=>k b
 |_=>.fail
def Wr.dZ:Wr->List Nat
 |.r n _=>[n]
 |.s _ _=>[]
def CW:List Nat->Bool
 | []=>true
 |n :: l=>!ay n l&&CW l
def yx(ws:List Wr)(tags:List Tag):Bool:=tags.all λt=>!ay t.1 (ws.flatMap Wr.dZ)
def qZ(ws:List Wr)(tags:List Tag):Bool:=CW (ws.flatMap Wr.dZ)&&yx ws tags
structure dS where
 k:K
 x:El k
 own:List TypeId
 tags:List Tag
 ws:List Wr
 keep:Bool
abbrev jm:Nat:=4294967294
def iR:List Stp->K->List TypeId
 | [],_=>[]
 |p,k=>jm :: aC p k
def rH(k:K):List TypeId:=match k.tys with
 | []=>[jm]
 |_=>[]
def vV(R:Root)(p:List Stp)(d:Dat):Option Root:=
 match bO p R.k R.x (nu d)with
 |some z=>some { R with k:=z.1,x:=z.2,w:=d.1.tys++R.w,h:=rH d.1++d.1.tys++R.h }
 |none=>none
def qY(want:K)(a:AV)(k:dS->Prog J):Prog J:=match a with
 |.val kk x tags=>qK tags kk.tys (k ⟨kk,x,[],tags,[],false⟩)
 |.eX=>match want with
  |.sl e kk=>k ⟨.sl e kk,[],e :: kk.tys,[],[],false⟩
  |_=>.fail
 |.ref r g=>iq r λR=>bif Nat.beq R.g g && !R.fixed then k ⟨R.k,R.x,R.own,R.tags,[.r r none],R.keep⟩else .fail
 |.dP r p h=>iq r λR=>bif Nat.beq R.dM h then
   match aD p R.k R.x with
   |some d=>bif p.all Stp.jw && !R.fixed&&(!p.isEmpty||R.isVar)then
     match vV R p d with
     |some R'=>k ⟨d.1,d.2,d.1.tys.filter (λt=>ay t R.own),R.tags,[.r r (some R')],R.keep⟩
     |none=>.fail
    else qK (R.out r d.1) d.1.tys (k ⟨d.1,d.2,[],R.out r d.1,[],false⟩)
   |none=>.fail
  else .fail
 |.part r g lo hi sz=>iq r λR=>bif Nat.beq R.g g && !R.fixed&&Nat.beq lo 0 then match R.k,R.x with
   |.sl e kk,xs=>bif kk.flat&&ay e R.own&&Nat.beq kk.size sz then k ⟨.sl e kk,(show List (El kk)from xs).take hi,R.own,R.tags,[.r r none],R.keep⟩else .fail
   |_,_=>.fail
  else .fail
 |_=>.fail
def Root.acw(R:Root):Bool:=match R.kind with
 |.anon=>true
 |_=>false
def takeC(want:K)(a:AV)(k:dS->Prog J):Prog J:=match a with
 |.dP r p h=>bif p.all Stp.jw then qY want (.dP r p h) k else iq r λR=>bif Nat.beq R.dM h && !R.fixed&&R.acw then
   match aD p R.k R.x with
   |some d=>k ⟨d.1,d.2,R.own,R.tags,[.r r none],R.keep⟩
   |none=>.fail
  else .fail
 |a=>qY want a k
def sZ:List Int->List Int->Bool
 |_,[]=>false
 | [],_ :: _=>true
 |a :: x,b :: y=>decide (a<b)||(decide (a=b)&&sZ x y)
def o8:(k:K)->El k->El k->Bool
 |.int _,x,y=>decide ((show Int from x)=y)
 |.bool,x,y=>(show Bool from x)==y
 |.str,x,y=>decide ((show List Int from x)=y)
 |.pair .unit .unit,_,_=>true
 |.pair a .unit,x,y=>o8 a x.1 y.1
 |.pair a b,x,y=>o8 a x.1 y.1&&o8 b x.2 y.2
 |.st f,x,y=>o8 f x y
 |_,_,_=>true
def v1(k:K)(x:El k):f_:=.one (.val k x [])
def MG(op:BinOp)(ik:IntKind)(x y:Int)(k:f_->Prog J):Prog J:=match op with
 |.add=>k (v1 (.int ik) (ik.wrap (x+y)))
 |.sub=>k (v1 (.int ik) (ik.wrap (x-y)))
 |.mul=>k (v1 (.int ik) (ik.wrap (x*y)))
 |.quo=>.dX (y≠0) inferInstance (k (v1 (.int ik) (ik.wrap (x.tdiv y))))
 |.rem=>.dX (y≠0) inferInstance (k (v1 (.int ik) (x.tmod y)))
 |.and=>k (v1 (.int ik) (ik.wrap (BitVec.ofInt ik.bits x &&& BitVec.ofInt ik.bits y).toNat))
 |.or=>k (v1 (.int ik) (ik.wrap (BitVec.ofInt ik.bits x ||| BitVec.ofInt ik.bits y).toNat))
 |.xor=>k (v1 (.int ik) (ik.wrap (BitVec.ofInt ik.bits x ^^^ BitVec.ofInt ik.bits y).toNat))
 |.andNot=>k (v1 (.int ik) (ik.wrap (BitVec.ofInt ik.bits x &&& ~~~ BitVec.ofInt ik.bits y).toNat))
 |.eql=>k (v1 .bool (decide (x=y)))
 |.neq=>k (v1 .bool (!decide (x=y)))
 |.lss=>k (v1 .bool (decide (x<y)))
 |.leq=>k (v1 .bool (decide (x<=y)))
 |.gtr=>k (v1 .bool (decide (x>y)))
 |.geq=>k (v1 .bool (decide (x>=y)))
 |_=>.fail
def Xp(op:BinOp)(x y:List Int)(k:f_->Prog J):Prog J:=match op with
 |.add=>.dX (x.length+y.length<=9223372036854775807) inferInstance (k (v1 .str (x++y)))
 |.eql=>k (v1 .bool (decide (x=y)))
 |.neq=>k (v1 .bool (!decide (x=y)))
 |.lss=>k (v1 .bool (sZ x y))
 |.leq=>k (v1 .bool (sZ x y||decide (x=y)))
 |.gtr=>k (v1 .bool (!(sZ x y||decide (x=y))))
 |.geq=>k (v1 .bool (!sZ x y))
 |_=>.fail
def JW(a b:AV):Option Bool:=match a,b with
 |.iW,.iW=>some true
 |.iW,.ptr _ _ _ | .ptr _ _ _,.iW=>some false
 |.iW,.fC _ _ _ _ | .fC _ _ _ _,.iW=>some false
 |_,_=>none
def yB(T:bK)(t:TypeId)(op:BinOp)(a b:AV)(k:f_->Prog J):Prog J:=match a,b with
 |.val (.int ik) x _,.val (.int jk) y _=>match op with
  |.shl=>.dX (0<=y) inferInstance (k (v1 (.int ik) (ik.wrap (x*2 ^ min y.toNat ik.bits))))
  |.shr=>.dX (0<=y) inferInstance (k (v1 (.int ik) (x.fdiv (2 ^ min y.toNat ik.bits))))
  |_=>bif sV ik jk then MG op ik x y k else .fail
 |.val .bool x _,.val .bool y _=>match T.ty t,op with
  |some .bool,.eql=>k (v1 .bool (x==y))
  |some .bool,.neq=>k (v1 .bool (!(x==y)))
  |_,_=>.fail
 |.val .str x _,.val .str y _=>Xp op x y k
 |.val (.st c) x _,.val (.st d) y _=>match b_ (.st d) (.st c) y with
  |some y'=>bif (c.flat&&T.eq t)&&(match T.ty t with|some kk=>kk.beq (.st c)|none=>false)then match op with
    |.eql=>k (v1 .bool (o8 c x y'))
    |.neq=>k (v1 .bool (!o8 c x y'))
    |_=>.fail
   else .fail
  |none=>.fail
 |a,b=>bif T.ptr t then match JW a b,op with
  |some t,.eql=>k (v1 .bool t)
  |some t,.neq=>k (v1 .bool (!t))
  |_,_=>.fail
  else .fail
def acA:Operand->Bool
 |.const (.slice none 0 0)=>true
 |_=>false
def acz:BinOp->Bool
 |.eql=>true
 |_=>false
def ag5(T:bK)(t:TypeId)(a:AV)(k:AV->Prog J):Prog J:=match T.ty t with
 |some (.sl _ _)=>oZ a λkk x _=>match kk,x with
  |.sl _ kk,xs=>k (.nZ (show List (El kk)from xs).isEmpty)
  |_,_=>.fail
 |_=>.fail
def Rl(T:bK)(t:TypeId)(op:BinOp)(x y:Operand)(k:f_->Prog J):Prog J:=
 bif acA y&&acz op then dY x λa=>ag5 T t a λv=>k (.one v)else dY x λa=>dY y λb=>yB T t op a b k
def Xu(op:UnOp)(a:AV)(k:f_->Prog J):Prog J:=match op,a with
 |.neg,.val (.int ik) x _=>k (v1 (.int ik) (ik.wrap (0-x)))
 |.xor,.val (.int ik) x _=>k (v1 (.int ik) (ik.wrap (BitVec.ofInt ik.bits (if ik.signed then -1 else ik.max) ^^^ BitVec.ofInt ik.bits x).toNat))
 |.not,.val .bool b _=>k (v1 .bool (!b))
 |_,_=>.fail
def bU(k:K)(x:El k)(ow:List TypeId)(tags:List Tag)(kind:yl)(keep:Bool:=false):Root:={ k,x,own:=ow,tags,w:=[],h:=[],g:=0,kind,fixed:=false,keep }
def Root.bt(R:Root):TypeId:=match R.kind with
 |.var t=>t
 |_=>4294967295
def gy(R:Root)(p:List Stp):TypeId:=(aC p R.k).getLastD R.bt
def E9(p:List Stp)(R:Root):Bool:=(aC p R.k).all λt=>ay t R.own
def addrOf(a:AV)(rd:Root->Nat->List Stp->Dat->Prog J)(ro:TypeId->Dat->List Tag->Prog J):Prog J:=match a with
 |.ptr r p h=>iq r λR=>bif clean R.h h (iR p R.k)&&E9 p R then
   match aD p R.k R.x with
   |some d=>rd R r p d
   |none=>.fail
  else .fail
 |.fC bt k x tags=>qK tags (bt :: k.tys) (ro bt ⟨k,x⟩ tags)
 |_=>.fail
def xD(T:bK)(dP:Bool)(t:TypeId)(a:AV)(k:AV->Prog J):Prog J:=
 match T.ty t with
 |none=>.fail
 |some kk=>match a with
  |.kS r g k0 p=>iq r λR=>bif Nat.beq R.g g&&R.k.beq k0&&p.all Stp.jw then
    match aD p R.k R.x with
    |some d=>bif d.1.beq kk then(bif d.1.flat then k (.val d.1 d.2 [])else k (.dP r p R.dM))else .fail
    |none=>.fail
   else .fail
  |a=>addrOf a
   (λR r p d=>bif d.1.beq kk then(bif dP && !d.1.flat then k (.dP r p R.dM)else k (.val d.1 d.2 (R.out r d.1)))else .fail)
   (λ_ d tags=>bif d.1.beq kk then k (.val d.1 d.2 (bif d.1.flat then []else tags))else .fail)
def eF(own bad:List TypeId):List TypeId:=own.filter λt=>!ay t bad
def kF:List Tag->List Tag->List Tag
 | [],m=>m
 |(r,n) :: l,m=>bif m.any λt=>Nat.beq t.1 r&&Nat.beq t.2 n then kF l m else(r,n) :: kF l m
def qN(r:Nat)(l:List Tag):List Tag:=l.filter λt=>!Nat.beq t.1 r
def dS.bad(tk:dS):List TypeId:=bz tk.own tk.k
def Pd(R:Root)(r:Nat)(tags:List Tag)(bad:List TypeId):Bool:=tags.all (λt=>!Nat.beq t.1 r)||match R.kind with
 |.par=>false
 |.var t=>!ay t bad
 |_=>true
def O9(R:Root)(r:Nat)(p:List Stp)(d:Dat)(tk:dS):Option (Root×Dat):=
 bif !d.1.flat&&p.all Stp.jw && !R.keep&&(!p.isEmpty||R.isVar)&&tk.tags.all (λt=>!Nat.beq t.1 r)then
  match vV R p d with
  |some Rg=>match tk.own.filter (λt=>!ay t R.own&&ay t d.1.tys && !ay t Rg.k.tys)with
   | []=>none
   |l=>some ({ Rg with own:=l++R.own },nu d)
  |none=>none
 else none
def storeAt(kk:K)(r:Nat)(p:List Stp)(tk:dS)(R:Root)(d:Dat)(k:List Wr->Prog J):Prog J:=
 bif (d.1.beq kk||(d.1.beq kk.hole&&p.all Stp.jw))&&(kk.flat||Pd R r tk.tags tk.bad)&&(aC p R.k).all (λt=>!ay t tk.bad)then
  match bO p R.k R.x ⟨tk.k,tk.x⟩with
  |some z=>bif R.keep && !kk.tys.all (λt=>!ay t R.own||ay t tk.own)then .fail else
   k (tk.ws++[.r r (some { R with
    keep:=R.keep||tk.keep
    k:=z.1,x:=z.2
    own:=eF R.own tk.bad
    tags:=bif kk.flat then R.tags else kF (qN r tk.tags) R.tags
    w:=gy R p :: R.w
    h:=(bif d.1.beq kk then []else rH kk)++kk.tys++R.h })])
  |none=>.fail
 else .fail
def Xn(T:bK)(t:TypeId)(a v:AV)(k:List Wr->Prog J):Prog J:=
 match T.ty t,a with
 |some kk,.ptr r p h=>qY kk v λtk=>bif tk.k.beq kk&&tk.ws.all (λw=>!w.loc.beq (.r r))then
   iq r λR=>bif clean R.h h (iR p R.k)&&E9 p R&&yx tk.ws R.tags then
    match aD p R.k R.x with
    |some d=>match O9 R r p d tk with
     |some q=>qK q.1.tags q.1.pO (storeAt kk r p tk q.1 q.2 k)
     |none=>storeAt kk r p tk R d k
    |none=>.fail
   else .fail
  else .fail
 |_,_=>.fail
def G5(kk:K)(a:AV)(n:Nat)(k:AV->Prog J):Prog J:=match a with
 |.val (.st c) x tags=>bif (K.st c).beq kk then match aP n c x with
  |some d=>qK tags c.tys (k (.val d.1 d.2 (bif d.1.flat then []else tags)))
  |none=>.fail
  else .fail
 |.ref r g=>iq r λR=>bif Nat.beq R.g g&&R.k.beq kk then
   match aD [.aU n] R.k R.x with
   |some d=>bif d.1.flat then k (.val d.1 d.2 [])else k (.dP r [.aU n] R.dM)
   |none=>.fail
  else .fail
 |.dP r p h=>iq r λR=>bif Nat.beq R.dM h then
   match aD p R.k R.x,aD (p++[.aU n]) R.k R.x with
   |some d0,some d=>bif !d0.1.beq kk then .fail else bif d.1.flat then k (.val d.1 d.2 [])else k (.dP r (p++[.aU n]) R.dM)
   |_,_=>.fail
  else .fail
 |_=>.fail
def Mf(kk:K)(n:Nat):Bool:=match kk with
 |.st c=>(aC.kC n c).isSome
 |_=>false
def ER:List Stp->K->Option K
 | [],k=>some k
 |.aU n :: p,.st c=>match aC.kC n c with
  |some k=>ER p k
  |none=>none
 |_,_=>none
def LM(a:AV)(kk:K)(yes:Nat->Nat->Prog J)(no:Prog J):Prog J:=match a with
 |.ref r g=>.root r fun
  |some R=>bif R.fixed then(iq r λR=>bif Nat.beq R.g g&&R.k.beq kk then yes r g else .fail)else no
  |none=>no
 |_=>no
def GZ(kk:K)(a:AV)(n:Nat)(k:AV->Prog J):Prog J:=match a with
 |.ptr r p h=>.root r fun
  |some R=>match aD p R.k R.x with
   |some d=>bif d.1.like kk&&Mf kk n then k (.ptr r (p++[.aU n]) h)else .fail
   |none=>.fail
  |none=>.fail
 |.fC bt (.st c) x tags=>bif (K.st c).beq kk then match aP n c x with
  |some d=>qK tags (bt :: c.tys) (k (.fC bt d.1 d.2 tags))
  |none=>.fail
  else .fail
 |.kS r g k0 p=>match ER p k0 with
  |some k1=>bif k1.beq kk&&Mf kk n then k (.kS r g k0 (p++[.aU n]))else .fail
  |none=>.fail
 |_=>.fail
def aZ(i:Int)(n:Nat):Prop:=0<=i/\i<(n:Int)
instance (i:Int)(n:Nat):Decidable (aZ i n):=inferInstanceAs (Decidable (_/\_))
def Ih(k0:K)(a:AV)(i:Int)(k:AV->Prog J):Prog J:=match a with
 |.val (.sl e kk) xs tags=>bif (K.sl e kk).beq k0 then qK tags (e :: kk.tys) (.dX (aZ i (show List (El kk)from xs).length) inferInstance
   (k (.fC e kk ((show List (El kk)from xs).getD i.toNat kk.zero) tags)))else .fail
 |.ref r g=>iq r λR=>bif Nat.beq R.g g then
   match R.k,R.x with
   |.sl e kk,xs=>bif ay e R.own&&(K.sl e kk).beq k0 then .dX (aZ i (show List (El kk)from xs).length) inferInstance (k (.ptr r [.idx i] (dL R.h)))else .fail
   |_,_=>.fail
  else .fail
 |.dP r p h=>iq r λR=>bif Nat.beq R.dM h then
   match aD p R.k R.x with
   |some ⟨.sl e kk,xs⟩=>bif !(K.sl e kk).beq k0 then .fail else bif ay e R.own then .dX (aZ i (show List (El kk)from xs).length) inferInstance (k (.ptr r (p++[.idx i]) (dL R.h)))
     else .dX (aZ i (show List (El kk)from xs).length) inferInstance (k (.fC e kk ((show List (El kk)from xs).getD i.toNat kk.zero) (R.out r (.sl e kk))))
   |_=>.fail
  else .fail
 |_=>.fail
structure wH where
 k:K
 x:El k
 bad:List TypeId
 tags:List Tag
 ws:List Wr
 keep:Bool
 all:List Tag
def dS.ig(tk:dS):List Tag:=match tk.bad with
 | []=>[]
 |_=>tk.tags
def Ao:List (Nat×AV)->wH->(wH->Prog J)->Prog J
 | [],b,k=>k b
 |(n,a) :: l,b,k=>match b.k,b.x with
  |.st c,x=>match aP n c x with
   |some d=>qY d.1 a λtk=>bif tk.k.beq d.1 then
     match dB n c x ⟨tk.k,tk.x⟩with
     |some z=>Ao l { k:=.st z.1,x:=z.2,bad:=tk.bad++b.bad,tags:=kF (tk.ig) b.tags,ws:=b.ws++tk.ws,keep:=tk.keep||b.keep,all:=tk.tags++b.all } k
     |none=>.fail
    else .fail
   |none=>.fail
  |_,_=>.fail
def vS:List (Nat×Operand)->(List (Nat×AV)->Prog J)->Prog J
 | [],k=>k []
 |(n,x) :: l,k=>dY x λa=>vS l λr=>k ((n,a) :: r)
def nS:List Operand->(List AV->Prog J)->Prog J
 | [],k=>k []
 |x :: l,k=>dY x λa=>nS l λr=>k (a :: r)
structure pV(kk:K) where
 xs:List (El kk)
 bad:List TypeId
 tags:List Tag
 ws:List Wr
 keep:Bool
 all:List Tag
def GQ(kk:K):List (Nat×AV)->pV kk->(pV kk->Prog J)->Prog J
 | [],b,k=>k b
 |(n,a) :: l,b,k=>qY kk a λtk=>match b_ tk.k kk tk.x with
  |some y=>bif Nat.beq n (dL b.xs)then GQ kk l { xs:=b.xs++[y],bad:=tk.bad++b.bad,tags:=kF (tk.ig) b.tags,ws:=b.ws++tk.ws,keep:=tk.keep||b.keep,all:=tk.tags++b.all } k else .fail
  |none=>.fail
def Kg(e:TypeId)(kk:K)(a:AV)(k:pV kk->Prog J):Prog J:=match a with
 |.val .str s _=>match b_ (.int .u8) kk (0:Int)with
  |some _=>match b_ (.sl e (.int .u8)) (.sl e kk) (show List Int from s)with
   |some xs=>k ⟨xs,[],[],[],false,[]⟩
   |none=>.fail
  |none=>.fail
 |.eX=>k ⟨[],[],[],[],false,[]⟩
 |.ref r g=>iq r λR=>bif Nat.beq R.g g then
   match b_ R.k (.sl e kk) R.x with
   |some xs=>bif kk.flat then k ⟨xs,[],[],[],false,[]⟩else bif R.fixed then .fail else k ⟨xs,bif ay e R.own then bz R.own kk else kk.tys,bif ay e R.own&&kk.tys.all (λt=>ay t R.own)then []else R.tags,[.r r none],R.keep,R.tags⟩
   |none=>.fail
  else .fail
 |a=>oZ a λk' x tags=>match b_ k' (.sl e kk) x with
   |some xs=>k ⟨xs,kk.tys,bif kk.flat then []else tags,[],false,[]⟩
   |none=>.fail
def CY(T:bK)(d:Nat)(t:TypeId)(a b:AV)(k:List Wr->Prog J):Prog J:=
 match T.ty t with
 |some (.sl e kk)=>Kg e kk b λs=>bif ay e s.bad then .fail else match a with
  |.eX=>.dX (s.xs.length*T.bytes e<=140737488355328) inferInstance (jS (aK d 0)
    (k (s.ws++[.r (aK d 0) (some (bU (.sl e kk) s.xs (e :: eF kk.tys s.bad) s.tags .anon s.keep)),.s d (.one (.ref (aK d 0) 0))])))
  |.ref r g=>iq r λR=>bif Nat.beq R.g g && !R.fixed&&ay e R.own && !(R.keep && !kk.tys.all (λt=>!ay t R.own || !ay t s.bad))&&s.ws.all (λw=>!w.loc.beq (.r r))&&yx s.ws R.tags then
    match b_ R.k (.sl e kk) R.x with
    |some xs=>.dX (((show List (El kk)from xs).length+s.xs.length)*T.bytes e<=140737488355328) inferInstance
      (k (s.ws++[.r r (some { R with
        k:=.sl e kk,x:=(show List (El kk)from xs)++s.xs
        own:=eF R.own s.bad
        tags:=kF (qN r s.tags) R.tags
        w:=e :: R.w,h:=jm :: e :: R.h,g:=R.g+1,keep:=R.keep||s.keep }),.s d (.one (.ref r (R.g+1)))]))
    |none=>.fail
   else .fail
  |.dP r p h=>iq r λR=>bif Nat.beq R.dM h&&p.all Stp.jw&&(!p.isEmpty||R.isVar) && !R.fixed&&ay e R.own && !(R.keep && !kk.tys.all (λt=>!ay t R.own || !ay t s.bad))&&s.ws.all (λw=>!w.loc.beq (.r r))&&yx s.ws R.tags then
    match aD p R.k R.x with
    |some dd=>match b_ dd.1 (.sl e kk) dd.2,vV R p dd with
     |some xs,some R'=>.dX (((show List (El kk)from xs).length+s.xs.length)*T.bytes e<=140737488355328) inferInstance (jS (aK d 0)
       (k (s.ws++[.r r (some R'),.r (aK d 0) (some (bU (.sl e kk) ((show List (El kk)from xs)++s.xs)
          (eF ((e :: kk.tys).filter λt=>ay t R.own) s.bad) (kF s.tags R.tags) .anon (R.keep||s.keep))),.s d (.one (.ref (aK d 0) 0))])))
     |_,_=>.fail
    |none=>.fail
   else .fail
  |_=>.fail
 |_=>.fail
def ownRow(r g:Nat)(k:Root->(e:TypeId)->(kk:K)->List (El kk)->Prog J):Prog J:=iq r λR=>bif Nat.beq R.g g then match R.k,R.x with
  |.sl e kk,xs=>bif kk.flat&&ay e R.own then k R e kk (show List (El kk)from xs)else .fail
  |_,_=>.fail
 else .fail
def aiB(k0:K)(r:Nat)(p:List Stp)(n:Nat)(lo hi:Option Int)(k:AV->Prog J):Prog J:=match k0 with
 |.sl e kk=>iq r λR=>bif Nat.beq R.dM n then match aD p R.k R.x with
   |some dd=>match b_ dd.1 (.sl e kk) dd.2 with
    |some xs=>.dX (0<=lo.getD 0/\lo.getD 0<=hi.getD ((show List (El kk)from xs).length:Int)/\hi.getD ((show List (El kk)from xs).length:Int)<=((show List (El kk)from xs).length:Int)) inferInstance
      (k (.sub r p n (lo.getD 0).toNat (hi.getD ((show List (El kk)from xs).length:Int)).toNat kk.size))
    |none=>.fail
   |none=>.fail
  else .fail
 |_=>.fail
def J5(k0:K)(a:AV)(lo hi mx:Option Int)(k:AV->Prog J):Prog J:=match a with
 |.ref r g=>ownRow r g λ_ e kk xs=>bif (K.sl e kk).beq k0 then
   match mx with
   |none=>.dX (0<=lo.getD 0/\lo.getD 0<=hi.getD (xs.length:Int)/\hi.getD (xs.length:Int)<=(xs.length:Int)) inferInstance (k (.part r g (lo.getD 0).toNat (hi.getD (xs.length:Int)).toNat kk.size))
   |some m=>bif hi.isSome then .dX (0<=lo.getD 0/\lo.getD 0<=hi.getD 0/\hi.getD 0<=m/\m<=(xs.length:Int)) inferInstance (k .undef)else .fail
  else .fail
 |.part r g l0 h0 sz=>ownRow r g λ_ e kk xs=>bif (K.sl e kk).beq k0&&Nat.beq kk.size sz&&mx.isNone then
   .dX (0<=lo.getD 0/\lo.getD 0<=hi.getD ((h0-l0:Nat):Int)/\(l0:Int)+hi.getD ((h0-l0:Nat):Int)<=(xs.length:Int)) inferInstance
    (k (.part r g (l0+(lo.getD 0).toNat) (l0+(hi.getD ((h0-l0:Nat):Int)).toNat) sz))
  else .fail
 |.dP r p n=>bif mx.isNone then aiB k0 r p n lo hi k else .fail
 |_=>.fail
def RG(k0:K)(a:AV)(k:List Wr->Prog J):Prog J:=match a with
 |.part r g lo hi sz=>ownRow r g λR e kk xs=>bif (K.sl e kk).beq k0&&Nat.beq kk.size sz then
   k [.r r (some { R with k:=.sl e kk,x:=xs.take lo++List.replicate (hi-lo) kk.zero++xs.drop hi,w:=e :: R.w })]
  else .fail
 |_=>.fail
def RH(k0:K)(d:Nat)(a b:AV)(k:List Wr->Prog J):Prog J:=match a,b with
 |.part r g l0 h0 sz,.part r' g' l1 h1 sz'=>ownRow r g λR e kk xs=>bif (K.sl e kk).beq k0&&Nat.beq r r'&&Nat.beq g g'&&Nat.beq sz sz'&&Nat.beq l0 0&&Nat.beq kk.size sz then
   .dX (h0<=l1) inferInstance (k [.r r (some { R with k:=.sl e kk,x:=xs.take h0++(xs.take h1).drop l1++xs.drop (h0+(h1-l1)),w:=e :: R.w }),.s d (.one (.part r g 0 (h0+(h1-l1)) sz))])
  else .fail
 |_,_=>.fail
def RN(k0:K)(d:Nat)(a b:AV)(k:List Wr->Prog J):Prog J:=match a with
 |.ref r g=>ownRow r g λR e kk xs=>bif (K.sl e kk).beq k0 then Kg e kk b λs=>
   .dX (s.xs.length<=xs.length) inferInstance (k [.r r (some { R with k:=.sl e kk,x:=s.xs++xs.drop s.xs.length,w:=e :: R.w }),.s d (.one (.val (.int .i64) (s.xs.length:Int) []))])
  else .fail
 |_=>.fail
abbrev yz(e:TypeId)(kk:K):K:=.st (.pair kk (.pair (.sl e (.gap kk.size)) .unit))
def yV:List Stp->List Int
 | []=>[]
 |.aU _ :: p=>yV p
 |.idx i :: p=>i :: yV p
def nX:List Stp->List Stp->Bool
 | [],[]=>true
 |.aU n :: p,.aU m :: q=>Nat.beq n m&&nX p q
 |.idx _ :: p,.idx _ :: q=>nX p q
 |_,_=>false
def Q6(T:bK)(d:Nat)(t:TypeId)(a b:AV)(k:List Wr->Prog J):Prog J:=match T.ty t,a,b with
 |some (.sl e kk),.dP r p h,.ref rb gb=>iq rb λB=>bif Nat.beq B.g gb && !B.fixed && !Nat.beq r rb&&p.all Stp.jw && !ay jm (K.sl e kk).tys&&(K.sl e kk).tys.all (λt=>ay t B.own)then
   match b_ B.k (.sl e kk) B.x with
   |some ys=>iq r λR=>bif Nat.beq R.dM h && !R.fixed&&(K.sl e kk).tys.all (λt=>ay t R.own)&&R.tags.all (λt=>!Nat.beq t.1 rb)then
     match aD p R.k R.x with
     |some dd=>match b_ dd.1 (.sl e kk) dd.2 with
      |some xs=>match bO p R.k R.x dd with
       |some z=>.dX ((show List (El kk)from ys).length=1/\((show List (El kk)from xs).length+1)*T.bytes e<=140737488355328) inferInstance (jS (aK d 0)
         (k [.r rb none,.r r (some { R with k:=z.1,x:=z.2,w:=e :: R.w,h:=(K.sl e kk).tys++R.h }),.r (aK d 0) (some (bU (yz e kk) ((show List (El kk)from ys).getD 0 kk.zero,(([]:List Unit),())) (e :: kk.tys) [] .anon)),
          .s d (.one (.app r p (dL (e :: R.w)+dL ((K.sl e kk).tys++R.h)) (aK d 0)))]))
       |none=>.fail
      |none=>.fail
     |none=>.fail
    else .fail
   |none=>.fail
  else .fail
 |_,_,_=>.fail
def Q7(k0:K)(a:AV)(r:Nat)(p:List Stp)(n q:Nat)(k:List Wr->Prog J):Prog J:=match k0,a with
 |.sl e kk,.ptr r' p' h=>bif Nat.beq r r'&&nX p p'&&p.all Stp.jw && !Nat.beq r q then iq q λQ=>bif Nat.beq Q.dM 0&&(e :: kk.tys).all (λt=>ay t Q.own)then
    match b_ Q.k (yz e kk) Q.x with
    |some y=>iq r λR=>bif Nat.beq R.dM n && !R.fixed&&clean R.h h (iR p' R.k)&&(K.sl e kk).tys.all (λt=>ay t R.own)&&R.tags.all (λt=>!Nat.beq t.1 q)then
      match aD p R.k R.x with
      |some dd=>match b_ dd.1 (.sl e kk) dd.2 with
       |some xs=>match bO p R.k R.x ⟨.sl e kk,(show List (El kk)from xs)++[(show El kk from y.1)]⟩with
        |some z=>k [.r q none,.r r (some { R with k:=z.1,x:=z.2,w:=gy R p :: e :: R.w,h:=(K.sl e kk).tys++R.h })]
        |none=>.fail
       |none=>.fail
      |none=>.fail
     else .fail
    |none=>.fail
   else .fail
  else .fail
 |_,_=>.fail
def RU(k0:K)(a:AV)(r:Nat)(p:List Stp)(n m:Nat)(k:List Wr->Prog J):Prog J:=match k0,a with
 |.sl e kk,.ptr r' p' h=>bif Nat.beq r r'&&nX p p' then .dX (yV p=yV p') inferInstance (iq r λR=>bif Nat.beq R.dM n && !R.fixed&&clean R.h h (iR p' R.k)&&(K.sl e kk).tys.all (λt=>ay t R.own)then
      match aD p R.k R.x with
      |some dd=>match b_ dd.1 (.sl e kk) dd.2 with
       |some xs=>match bO p R.k R.x ⟨.sl e kk,(show List (El kk)from xs).take m⟩with
        |some z=>k [.r r (some { R with k:=z.1,x:=z.2,w:=gy R p :: (K.sl e kk).tys++R.w,h:=(K.sl e kk).tys++R.h })]
        |none=>.fail
       |none=>.fail
      |none=>.fail
     else .fail)
  else .fail
 |_,_=>.fail
def Xa(T:bK)(d:Nat)(t:TypeId)(a:AV)(r:Nat)(p:List Stp)(n lo hi sz:Nat)(k:List Wr->Prog J):Prog J:=match T.ty t with
 |some (.sl e kk)=>iq r λR=>bif Nat.beq kk.size sz&&Nat.beq R.dM n&&p.all Stp.jw&&(K.sl e kk).tys.all (λt=>ay t R.own)then
   match aD p R.k R.x with
   |some dd=>match b_ dd.1 (.sl e kk) dd.2 with
    |some xs=>match a with
     |.ref q g=>iq q λQ=>bif Nat.beq Q.g g && !Q.fixed && !Nat.beq r q&&ay e Q.own then match b_ Q.k (.sl e kk) Q.x with
       |some ys=>.dX ((show List (El kk)from ys).length=0/\lo=0/\hi*T.bytes e<=140737488355328) inferInstance (jS (aK d 0)
         (k [.r q none,.r (aK d 0) (some (bU (.sl e (.gap kk.size)) (List.replicate hi ()) [e] [] .anon)),.s d (.one (.sel r p n (aK d 0) hi (show List (El kk)from xs).length))]))
       |none=>.fail
      else .fail
     |.sel r' p' n' q a' b'=>iq q λQ=>bif Nat.beq r r'&&Nat.beq n n'&&nX p p'&&Nat.beq Q.dM 0 && !Q.fixed && !Nat.beq r q&&ay e Q.own then match b_ Q.k (.sl e (.gap kk.size)) Q.x with
       |some _=>.dX (a'<=lo/\lo<=hi/\hi=(show List (El kk)from xs).length/\b'=(show List (El kk)from xs).length/\(a'+(hi-lo))*T.bytes e<=140737488355328) inferInstance (jS (aK d 0)
         (k [.r q none,.r (aK d 0) (some (bU (.sl e (.gap kk.size)) (List.replicate (a'+(hi-lo)) ()) [e] [] .anon)),.s d (.one (.sel r p n (aK d 0) a' lo))]))
       |none=>.fail
      else .fail
     |_=>.fail
    |none=>.fail
   |none=>.fail
  else .fail
 |_=>.fail
def Xb(k0:K)(a:AV)(r:Nat)(p:List Stp)(n q a' b':Nat)(k:List Wr->Prog J):Prog J:=match k0,a with
 |.sl e kk,.ptr r' p' h=>bif Nat.beq r r'&&nX p p'&&p.all Stp.jw && !Nat.beq r q then iq q λQ=>bif Nat.beq Q.dM 0&&ay e Q.own then
    match b_ Q.k (.sl e (.gap kk.size)) Q.x with
    |some _=>iq r λR=>bif Nat.beq R.dM n && !R.fixed&&clean R.h h (iR p' R.k)&&(K.sl e kk).tys.all (λt=>ay t R.own)&&R.tags.all (λt=>!Nat.beq t.1 q)then
      match aD p R.k R.x with
      |some dd=>match b_ dd.1 (.sl e kk) dd.2 with
       |some xs=>match bO p R.k R.x ⟨.sl e kk,(show List (El kk)from xs).take a'++(show List (El kk)from xs).drop b'⟩with
        |some z=>k [.r q none,.r r (some { R with k:=z.1,x:=z.2,w:=gy R p :: (K.sl e kk).tys++R.w,h:=(K.sl e kk).tys++R.h })]
        |none=>.fail
       |none=>.fail
      |none=>.fail
     else .fail
    |none=>.fail
   else .fail
  else .fail
 |_,_=>.fail
end
end
section
open Go
def Cont.fst:(ks ls:List K)->Cont (ks++ls)->Cont ks
 | [],_,_=>()
 |_ :: ks,ls,c=>(c.1,Cont.fst ks ls c.2)
def Cont.snd:(ks ls:List K)->Cont (ks++ls)->Cont ls
 | [],_,c=>c
 |_ :: ks,ls,c=>Cont.snd ks ls c.2
abbrev SENT:Nat:=4294967295
structure aV where
 ids:List Tag
 wb:Option (Nat×List Stp×List TypeId×List TypeId)
 ws:List Wr
 bt:List TypeId:=[]
 lie:Option (Nat×List Stp):=none
def idxOf:(p:List (Option Nat))->List Stp->Option (Cont (aM.into 0 p).kin)
 | [],[]=>some ()
 |some n :: p,.aU m :: q=>bif Nat.beq n m then idxOf p q else none
 |none :: p,.idx i :: q=>match idxOf p q with
  |some c=>some (i,c)
  |none=>none
 |_,_=>none
def pathOf:(p:List (Option Nat))->Cont (aM.into 0 p).kin->List Stp
 | [],_=>[]
 |some n :: p,c=>.aU n :: pathOf p c
 |none :: p,c=>.idx c.1 :: pathOf p c.2
def qU:(p:List (Option Nat))->Int->List Stp
 | [],_=>[]
 |some n :: p,m=>.aU n :: qU p m
 |none :: p,m=>.idx m :: qU p m
def mO:(p:List (Option Nat))->List Stp->Option (Option Int)
 | [],[]=>some none
 |some n :: p,.aU m :: q=>bif Nat.beq n m then mO p q else none
 |none :: p,.idx i :: q=>match mO p q with
  |some none=>some (some i)
  |_=>none
 |_,_=>none
section
variable {J:Type}
def uS(k:K)(own ow:List TypeId):Bool:=k.tys.all λt=>ay t own==ay t ow
def LG:(ks:List K)->List (TypeId×Dat×List Tag)->(Cont ks->List Tag->Prog J)->Prog J
 | [],[],k=>k () []
 |kk :: ks,(t,d,tags) :: l,k=>qK tags (t :: d.1.tys) (match b_ d.1 kk d.2 with
  |some x=>LG ks l λc ts=>k (x,c) (kF tags ts)
  |none=>.fail)
 |_,_,_=>.fail
def mJ:(ps:List aM)->List AV->(Cont (kin ps)->List aV->Prog J)->Prog J
 | [],[],k=>k () []
 |.val kk _ :: ps,a :: l,k=>
  let go (x:El kk) (tags:List Tag):Prog J:=mJ ps l λc is=>k (x,c) (⟨tags,none,[],[],none⟩ :: is)
  match a with
  |.eX=>match kk,go with
   |.sl _ _,go=>go [] []
   |_,_=>.fail
  |a=>oZ a λk' x tags=>match b_ k' kk x with
   |some y=>go y (bif kk.flat then []else tags)
   |none=>.fail
 |.ro kk :: ps,a :: l,k=>
  let go (d:Dat) (tags:List Tag):Prog J:=match b_ d.1 kk d.2 with
   |some y=>mJ ps l λc is=>k (y,c) (⟨tags,none,[],[],none⟩ :: is)
   |none=>.fail
  addrOf a (λR r _ d=>go d ((r,dL R.w) :: R.tags)) (λ_ d tags=>go d tags)
 |.rw kk ow wt ht :: ps,a :: l,k=>match a with
  |.ptr r p h=>iq r λR=>bif clean R.h h (iR p R.k)&&E9 p R then
    match aD p R.k R.x with
    |some d=>match b_ d.1 kk d.2 with
     |some y=>bif uS kk R.own ow then mJ ps l λc is=>k (y,c) (⟨R.tags,some (r,p,wt,ht),[],[gy R p],none⟩ :: is)else .fail
     |none=>.fail
    |none=>.fail
   else .fail
  |_=>.fail
 |.dQ kk ow wt :: ps,a :: l,k=>
  let go (R:Root) (r:Nat) (p:List Stp) (d:Dat):Prog J:=match b_ d.1 kk d.2 with
   |some y=>bif uS kk R.own ow then mJ ps l λc is=>k (y,c) (⟨R.tags,some (r,p,wt,kk.tys),[],[],none⟩ :: is)else .fail
   |none=>.fail
  match a with
  |.dP r p h=>iq r λR=>bif Nat.beq R.dM h then
    match aD p R.k R.x with
    |some d=>go R r p d
    |none=>.fail
   else .fail
  |.ref r g=>iq r λR=>bif Nat.beq R.g g then go R r [] ⟨R.k,R.x⟩else .fail
  |_=>.fail
 |.own kk ow :: ps,a :: l,k=>qY kk a λtk=>match b_ tk.k kk tk.x with
  |some y=>bif uS kk tk.own ow then mJ ps l λc is=>k (y,c) (⟨tk.tags,none,tk.ws,[],none⟩ :: is)else .fail
  |none=>.fail
 |.fn f ks :: ps,a :: l,k=>match a with
  |.fn f' caps=>bif Nat.beq f f' then LG ks caps λc tags=>mJ ps l λc' is=>k (Cont.app ks (kin ps) c c') (⟨tags,none,[],[],none⟩ :: is)else .fail
  |_=>.fail
 |.into _ [] :: ps,a :: l,k=>match a with
  |.eX=>mJ ps l λc is=>k c (⟨[],none,[],[],none⟩ :: is)
  |_=>.fail
 |.into _ (t :: p) :: ps,a :: l,k=>match a with
  |.ptr r q h=>iq r λR=>bif clean R.h h (iR q R.k)&&E9 q R&&(aD q R.k R.x).isSome then
    match idxOf (t :: p) (q.drop (q.length-(t :: p).length))with
    |some c=>mJ ps l λc' is=>k (Cont.app (aM.into 0 (t :: p)).kin (kin ps) c c') (⟨[],none,[],[],some (r,q)⟩ :: is)
    |none=>.fail
   else .fail
  |_=>.fail
 |_,_,_=>.fail
def aV.touched(i:aV):List Nat:=(match i.wb with|some (r,_)=>[r] | none=>[])++i.ws.flatMap Wr.dZ
def uR:List aV->Bool
 | []=>true
 |i :: l=>match i.wb with
  |some _=>l.all λj=>j.wb.isNone
  |none=>uR l
def XC(is:List aV):Bool:=is.all λi=>match i.wb with
 |some (_,p,_)=>p.isEmpty
 |none=>true
def JY:aM->Bool
 |.dQ _ _ _=>false
 |_=>true
def OM:gJ->Bool
 |.into _ _=>false
 |_=>true
def fH(r:Nat):List aV->Nat->Option Nat
 | [],_=>none
 |i :: is,n=>match i.wb with
  |some (r',_)=>bif Nat.beq r r' then some n else fH r is (n+1)
  |none=>fH r is (n+1)
def zJ(is:List aV):List aM->List aV->Bool
 |.val k bE :: ps,i :: l=>(bE.all λj=>match is[j]? with|some q=>q.wb.isSome|none=>false)&&i.ids.all (λt=>match fH t.1 is 0 with
   |some n=>ay n bE&&(match is[n]? with
     |some j=>j.bt.all λb=>!ay b k.tys
     |none=>false)
   |none=>!ay t.1 (is.flatMap λj=>j.ws.flatMap Wr.dZ))&&zJ is ps l
 |_ :: ps,i :: l=>i.ids.all (λt=>!ay t.1 (is.flatMap aV.touched))&&zJ is ps l
 | [],[]=>true
 |_,_=>false
def agL(wD:List aM)(all:List aV)(j:Nat)(p:List (Option Nat))(i:aV):Bool:=match i.lie with
 |none=>true
 |some (r,q)=>match wD[j]?,all[j]? with
  |some (.rw _ _ _ _),some b=>match b.wb with
   |some (r',q',_,_)=>Nat.beq r r'&&Nat.beq q.length (q'.length+p.length)&&nX q' (q.take q'.length)&&q'.all Stp.jw
   |none=>false
  |_,_=>false
def BH(wD:List aM)(all:List aV):List aM->List aV->Bool
 |.into j p :: ps,i :: l=>agL wD all j p i&&BH wD all ps l
 |_ :: ps,_ :: l=>BH wD all ps l
 |_,_=>true
def Am(gp:Bool):(ps:List aM)->List aV->Cont (gM ps)->(List Wr->Prog J)->Prog J
 | [],[],_,k=>k []
 |.rw kk _ _ _ :: ps,⟨_,some (r,p,wt,ht),_,_,_⟩ :: is,c,k=>.root r fun
  |some R=>match bO p R.k R.x ⟨kk,c.1⟩with
   |some z=>Am gp ps is c.2 λws=>k (.r r (some { R with k:=z.1,x:=z.2,w:=(gy R p :: wt)++R.w,h:=(bif gp then kk.tys else [])++(ht++R.h) }) :: ws)
   |none=>.fail
  |none=>.fail
 |.dQ kk _ _ :: ps,⟨_,some (r,p,wt,ht),_,_,_⟩ :: is,c,k=>.root r fun
  |some R=>match bO p R.k R.x ⟨kk,c.1⟩with
   |some z=>Am gp ps is c.2 λws=>k (.r r (some { R with k:=z.1,x:=z.2,w:=(SENT :: (kk.tys++wt))++R.w,h:=(bif gp then kk.tys else [])++(ht++R.h) }) :: ws)
   |none=>.fail
  |none=>.fail
 |.val _ _ :: ps,_ :: is,c,k | .ro _ :: ps,_ :: is,c,k | .own _ _ :: ps,_ :: is,c,k | .fn _ _ :: ps,_ :: is,c,k | .into _ _ :: ps,_ :: is,c,k=>Am gp ps is c k
 |_,_,_,_=>.fail
def zu(ws:List Wr):List Nat->(List Tag->Prog J)->Prog J
 | [],k=>k []
 |r :: l,k=>bif fV r then zu ws l λts=>k ((r,0) :: ts)else
  match ws.find? (λw=>w.loc.beq (.r r))with
  |some (.r _ (some R))=>zu ws l λts=>k ((r,dL R.w) :: ts)
  |some _=>.fail
  |none=>.root r fun
   |some R=>zu ws l λts=>k ((r,dL R.w) :: ts)
   |none=>.fail
def xw(is:List aV)(exts bE:List Nat):List Nat:=
 exts.flatMap (λj=>match is[j]? with|some i=>i.ids.map (·.1)|none=>[])++
 bE.flatMap (λj=>match is[j]? with
  |some i=>match i.wb with
   |some q=>[q.1]
   |none=>[]
  |none=>[])
def vP:List Nat->List Nat
 | []=>[]
 |n :: l=>bif ay n l then vP l else n :: vP l
def xL(d:Nat)(is:List aV)(ws:List Wr):(rs:List gJ)->(c:Nat)->Cont (iI rs)->(List AV->List Wr->Prog J)->Prog J
 | [],_,_,k=>k [] []
 |.val kk exts bE :: rs,c,x,k=>zu ws (bif kk.flat then []else vP (xw is exts bE)) λtags=>
   xL d is ws rs (c+1) x.2 λas ws'=>k (.val kk x.1 tags :: as) ws'
 |.own kk ow exts bE :: rs,c,x,k=>zu ws (bif kk.tys.all (λt=>ay t ow)then []else vP (xw is exts bE)) λtags=>
   jS (aK d c) (xL d is ws rs (c+1) x.2 λas ws'=>k (.ref (aK d c) 0 :: as) (.r (aK d c) (some (bU kk x.1 ow tags .anon)) :: ws'))
 |.ptr t kk ow exts :: rs,c,x,k=>zu ws (bif kk.tys.all (λt=>ay t ow)then []else vP (xw is exts [])) λtags=>
   jS (aK d c) (xL d is ws rs (c+1) x.2 λas ws'=>k (.ptr (aK d c) [] 0 :: as) (.r (aK d c) (some (bU kk x.1 ow tags (.var t))) :: ws'))
 |.into j p :: rs,c,x,k=>bif Nat.beq c 0&&rs.isEmpty then match is[j]? with
   |some i=>match i.wb with
    |some (r,q,_,ht)=>match ws.find? (λw=>w.loc.beq (.r r))with
     |some (.r _ (some R))=>bif ay jm ht then .fail else match p with
      | []=>k [.l9 r q (dL R.w+dL R.h) (show Int from x.1).toNat] []
      |t :: p=>.br (decide ((show Int from x.1)<0)) (k [.iW] []) (k [.ptr r (q++qU (t :: p) (show Int from x.1)) (dL R.h)] [])
     |_=>.fail
    |none=>.fail
   |none=>.fail
  else .fail
def Q9:List AV->f_
 | [a]=>.one a
 |l=>.mQ l
def Ry(n:Nat)(E:Entry)(dst:Option Nat)(mF:List AV)(k:List Wr->Prog J):Prog J:=
 mJ E.ps mF λc is=>bif CW (is.flatMap aV.touched)&&(uR is||(XC is&&E.ps.all JY&&E.rs.all OM))&&zJ is E.ps is&&BH E.ps is E.ps is then
  .opt _ (E.F n c) λout=>Am (!uR is) E.ps is (Cont.snd (iI E.rs) (gM E.ps) out) λws=>
   match dst with
   |some d=>xL d is ws E.rs 0 (Cont.fst (iI E.rs) (gM E.ps) out) λas ws'=>k (is.flatMap aV.ws++ws++ws'++[.s d (Q9 as)])
   |none=>k (is.flatMap aV.ws++ws)
 else .fail
def yM(f d:Nat):List (Nat×Option Nat×Entry)->Option Entry
 | []=>none
 |(g,none,E) :: l=>bif Nat.beq f g then some E else yM f d l
 |(g,some e,E) :: l=>bif Nat.beq f g&&Nat.beq d e then some E else yM f d l
def EY(mx:Bool):IntKind->Int->List AV->(Int->Prog J)->Prog J
 |_,x,[],k=>k x
 |ik,x,.val (.int jk) y _ :: l,k=>bif sV ik jk then EY mx ik (if mx then(if y>x then y else x)else(if y<x then y else x)) l k else .fail
 |_,_,_,_=>.fail
def RL(T:bK)(d:Nat)(src dst:TypeId)(a:AV)(k:List Wr->Prog J):Prog J:=match T.ty src,T.ty dst with
 |some _,some (.int ik)=>match a with
  |.val (.int _) n _=>k [.s d (v1 (.int ik) (ik.wrap n))]
  |_=>.fail
 |some .str,some .str=>match a with
  |.val .str s _=>k [.s d (v1 .str s)]
  |_=>.fail
 |some (.sl _ (.int .u8)),some .str=>match a with
  |.eX=>k [.s d (v1 .str [])]
  |a=>oZ a λkk x _=>match kk,x with
   |.sl _ (.int .u8),xs=>k [.s d (v1 .str xs)]
   |_,_=>.fail
 |some .str,some (.sl e (.int .u8))=>match a with
  |.val .str s _=>jS (aK d 0) (k [.r (aK d 0) (some (bU (.sl e (.int .u8)) s [e] [] .anon)),.s d (.one (.ref (aK d 0) 0))])
  |_=>.fail
 |_,_=>.fail
def Da:List AV->(List (TypeId×Dat×List Tag)->Prog J)->Prog J
 | [],k=>k []
 |a :: l,k=>addrOf a
   (λR r p d=>bif Nat.beq (gy R p) SENT then .fail else Da l λcs=>k ((gy R p,d,(r,dL R.w) :: R.tags) :: cs))
   (λbt d tags=>Da l λcs=>k ((bt,d,tags) :: cs))
def Xh(k0:K)(a:AV)(lo hi:Option Int)(k:AV->Prog J):Prog J:=match a with
 |.val .str s _=>bif !k0.beq .str then .fail else
  let n:=(show List Int from s).length
  match lo,hi with
  |none,none=>k (.val .str s [])
  |some l,none=>.dX (0<=l/\l<=(n:Int)) inferInstance (k (.val .str ((show List Int from s).drop l.toNat) []))
  |none,some h=>.dX (0<=h/\h<=(n:Int)) inferInstance (k (.val .str ((show List Int from s).take h.toNat) []))
  |some l,some h=>.dX (0<=l/\l<=h/\h<=(n:Int)) inferInstance (k (.val .str (((show List Int from s).take h.toNat).drop l.toNat) []))
 |a=>oZ a λkk x tags=>match kk,x with
  |.sl e kk,xs=>bif !k0.beq (.sl e kk)then .fail else
   let xs:=(show List (El kk)from xs)
   match lo,hi with
   |none,none=>k (.val (.sl e kk) xs tags)
   |some l,none=>.dX (0<=l/\l<=(xs.length:Int)) inferInstance (k (.val (.sl e kk) (xs.drop l.toNat) tags))
   |none,some h=>.dX (0<=h/\h<=(xs.length:Int)) inferInstance (k (.val (.sl e kk) (xs.take h.toNat) tags))
   |some l,some h=>.dX (0<=l/\l<=h/\h<=(xs.length:Int)) inferInstance (k (.val (.sl e kk) ((xs.take h.toNat).drop l.toNat) tags))
  |_,_=>.fail
def tH(x:Option Operand)(k:Option Int->Prog J):Prog J:=match x with
 |none=>k none
 |some y=>dY y λa=>asInt a λ_ i=>k (some i)
def isZero:Option Operand->Bool
 |some (.const (.int _ 0))=>true
 |_=>false
def LF(hi:Hint)(n:Nat)(dst:Option Nat)(c:Call)(k:List Wr->Prog J):Prog J:=match c.callee with
 |.value f=>dY f fun
  |.fn f caps=>nS c.args.toList λl=>match yM f (dst.getD 0) hi.calls with
   |some E=>bif Nat.beq E.f f then Ry n E dst (l++caps.map λ(t,dd,tags)=>.fC t dd.1 dd.2 tags) k else .fail
   |none=>.fail
  |_=>.fail
 |_=>.fail
def AJ(d:Nat):List (Nat×List TypeId)->List TypeId
 | []=>[]
 |(e,l) :: m=>bif Nat.beq d e then l else AJ d m
def OH(hi:Hint)(d:Nat)(k:K):List TypeId:=match AJ d hi.less with
 | []=>k.tys
 |l=>eF k.tys l
def qz{A:Type}:Nat->List A->List (Nat×A)
 |_,[]=>[]
 |i,a :: l=>(i,a) :: qz (i+1) l
def JM:K->List (Nat×AV)->Nat->Prog J->Prog J
 |.pair kk r,(n,a) :: l,i,p=>bif Nat.beq n i then qY kk a λtk=>bif tk.k.beq kk then JM r l (i+1) p else .fail else .fail
 |.unit,[],_,p=>p
 |_,_,_,_=>.fail
def Rs(e:TypeId)(d:Nat)(a:AV)(k:List Wr->Prog J):Prog J:=match a with
 |.ref r g=>ownRow r g λR e' kk xs=>bif (K.sl e' kk).beq (.sl e (.int .u8))then .dX (0<xs.length) inferInstance (k [.r r (some { R with k:=.sl e' kk,x:=xs,w:=e' :: R.w }),.s d (.one (.ref r g))])else .fail
 |_=>.fail
def Xm(T:bK)(o:Oper)(d:Nat)(k:List Wr->Prog J):Prog J:=match o.op with
 |.slice t x lo hi mx=>match T.ty t with
  |some kk=>dY x λa=>tH lo λlo=>tH hi λhi=>tH mx λmx=>J5 kk a lo hi mx λu=>k [.s d (.one u)]
  |none=>.fail
 |.call c=>match c.callee with
  |.builtin .len=>nS c.args.toList fun
   | [.part _ _ lo hi _]=>match (c.argTypes[0]?).bind T.ty with
    |some (.sl _ _)=>k [.s d (.one (.val (.int .i64) ((hi-lo:Nat):Int) []))]
    |_=>.fail
   |_=>.fail
  |.builtin .append=>nS c.args.toList fun
   | [a,b]=>match (c.argTypes[0]?).bind T.ty,(c.argTypes[1]?).bind T.ty with
    |some (.sl e0 k0),some (.sl _ _)=>RH (.sl e0 k0) d a b k
    |_,_=>.fail
   |_=>.fail
  |.builtin .copy=>nS c.args.toList fun
   | [a,b]=>match (c.argTypes[0]?).bind T.ty,(c.argTypes[1]?).bind T.ty with
    |some (.sl e0 k0),some (.sl _ _)=>RN (.sl e0 k0) d a b k
    |_,_=>.fail
   |_=>.fail
  |_=>.fail
 |.build t ps=>match T.ty t with
  |some (.st c)=>vS ps.toList λl=>JM c l 0 (k [.s d (.lit t c (l.map (·.2)))])
  |_=>.fail
 |.convert s t x=>match T.ty t with
  |some (.sl e (.int .u8))=>bif Nat.beq s t then dY x λa=>Rs e d a k else .fail
  |_=>.fail
 |_=>.fail
def Wu(T:bK)(s:Nat)(k:List Wr->Prog J):Prog J:=.slot s fun
 |.lit t c l=>bif (match T.ty t with|some kk=>kk.beq (.st c)|none=>false)then Ao (qz 0 l) ⟨.st c,(K.st c).zero,[],[],[],false,[]⟩ λb=>
   bif !qZ b.ws b.all then .fail else jS (aK s 1) (k (b.ws++[.r (aK s 1) (some (bU b.k b.x (eF b.k.tys b.bad) b.tags .anon b.keep)),.s s (.one (.ref (aK s 1) 0))]))
  else .fail
 |_=>.fail
def J4:List Stp->List Stp->Bool
 | [.aU i],[.aU j]=>!Nat.beq i j
 |_,_=>false
def freshen(r:Nat)(p:List Stp)(v v':Nat):AV->AV
 |.dP q p' n=>bif Nat.beq r q&&Nat.beq n v&&J4 p p' then .dP q p' v' else .dP q p' n
 |a=>a
def Si(r:Nat)(p:List Stp)(v:Nat):List Wr->AV->AV
 | [.r _ (some R)]=>freshen r p v R.dM
 |_=>λa=>a
def Xj(s s2:Nat)(k:List Wr->Prog J):Prog J:=.slot s fun
 |.one (.dP r p v)=>qY .unit (.dP r p v) λtk=>bif Nat.beq s s2||tk.ws.isEmpty then .fail else jS (aK s 1) (.slot s2 fun
  |.lit t c l=>k (tk.ws++[.r (aK s 1) (some (bU tk.k tk.x tk.own tk.ig .anon tk.keep)),.s s (.one (.ref (aK s 1) 0)),.s s2 (.lit t c (l.map (Si r p v tk.ws)))])
  |_=>.fail)
 |_=>.fail
def shares(r:Nat)(l:List AV):Bool:=l.any fun
 |.dP q _ _=>Nat.beq r q
 |_=>false
def splits(s2:Nat):List (Nat×Operand)->Prog (List Wr)
 | []=>.ret []
 |(_,.tmp s) :: l=>.slot s fun
  |.one (.dP r _ _)=>.slot s2 fun
   |.lit _ _ m=>bif shares r m then Pe (Xj s s2 .ret) (splits s2 l)else splits s2 l
   |_=>.fail
  |_=>splits s2 l
 |_ :: l=>splits s2 l
def Dl:List (Nat×Operand)->(Nat->Prog J)->Prog J
 | [],_=>.fail
 |(_,.tmp s) :: l,k=>.slot s fun
  |.lit _ _ _=>k s
  |_=>Dl l k
 |_ :: l,k=>Dl l k
def amj(T:bK)(d:Nat)(t:TypeId)(ps:Array (Nat×Operand)):Prog (List Wr):=match T.ty t with
 |some (.st c)=>vS ps.toList λl=>Ao l ⟨.st c,(K.st c).zero,[],[],[],false,[]⟩ λb=>bif !qZ b.ws b.all then .fail else bif b.k.tys.all λt=>ay t b.bad then
   .ret (b.ws++[.s d (.one (.val b.k b.x b.tags))])
  else jS (aK d 0) (.ret (b.ws++[.r (aK d 0) (some (bU b.k b.x (eF b.k.tys b.bad) b.tags .anon b.keep)),.s d (.one (.ref (aK d 0) 0))]))
 |_=>.fail
def aiw(T:bK)(d:Nat)(t:TypeId)(ps:Array (Nat×Operand)):Prog (List Wr):=
 Dl ps.toList λs=>Pe (splits s ps.toList) (Pe (Wu T s .ret) (amj T d t ps))
def Xl(T:bK)(o:Oper)(d:Nat)(k:List Wr->Prog J):Prog J:=match o.op with
 |.build t ps=>(aiw T d t ps).bind k
 |.call c=>match c.callee with
  |.builtin .append=>nS c.args.toList fun
   | [a,b]=>match c.argTypes[0]?,(c.argTypes[1]?).bind T.ty with
    |some t,some (.sl _ _)=>match b with
     |.sub r p n lo hi sz=>Xa T d t a r p n lo hi sz k
     |b=>Q6 T d t a b k
    |_,_=>.fail
   |_=>.fail
  |_=>.fail
 |.load t x=>dY x λa=>xD T true t a λu=>match T.ty t with
  |some kk=>takeC kk u λtk=>jS (aK d 0) (k (tk.ws++[Wr.r (aK d 0) (some (bU tk.k tk.x tk.own tk.ig .anon tk.keep)),Wr.s d (.one (.ref (aK d 0) 0))]))
  |none=>.fail
 |_=>.fail
def Xo(T:bK)(t:TypeId)(a v:AV)(k:List Wr->Prog J):Prog J:=match v with
 |.l9 r p n m=>match T.ty t with
  |some k0=>RU k0 a r p n m k
  |none=>.fail
 |.app r p n q=>match T.ty t with
  |some k0=>Q7 k0 a r p n q k
  |none=>.fail
 |.sel r p n q a' b'=>match T.ty t with
  |some k0=>Xb k0 a r p n q a' b' k
  |none=>.fail
 |v=>Xn T t a v k
def aiy(T:bK)(hi:Hint)(n:Nat)(o:Oper)(k:List Wr->Prog J):Prog J:=match o.op with
 |.store t x v=>dY x λa=>dY v λv=>Xo T t a v k
 |.call c=>match c.callee with
  |.builtin .clear=>nS c.args.toList fun
   | [a]=>match (c.argTypes[0]?).bind T.ty with
    |some (.sl e0 k0)=>RG (.sl e0 k0) a k
    |_=>.fail
   |_=>.fail
  |_=>LF hi n none c k
 |_=>.fail
def aix(T:bK)(hi:Hint)(n:Nat)(o:Oper)(d:Nat)(k:List Wr->Prog J):Prog J:=
 let put (a:AV):Prog J:=k [.s d (.one a)]
 match o.op with
 |.move x=>sN x λa=>k [.s d a]
 |.assign x=>sN x fun
  |.one .eX=>match T.ty o.type with
   |some (.sl e kk)=>.root (aK d 0) fun
    |none=>k [.r (aK d 0) (some (bU (.sl e kk) [] (e :: OH hi d kk) [] .anon)),.s d (.one (.ref (aK d 0) 0))]
    |some _=>k [.s d (.one .eX)]
   |_=>.fail
  |a=>k [.s d a]
 |.pick c a b=>dY c λc=>asBool c λc=>sN a λa=>sN b λb=>.br c (k [.s d a]) (k [.s d b])
 |.alloc t=>match T.ty t with
  |some kk=>jS (aK d 0) (k [.r (aK d 0) (some (bU kk kk.zero kk.tys [] (.var t))),.s d (.one (.ptr (aK d 0) [] 0))])
  |none=>.fail
 |.box t x=>match T.ty t with
  |some kk=>dY x λa=>LM a kk (λr g=>put (.kS r g kk [])) <| qY kk a λtk=>bif tk.k.beq kk && !ay t tk.bad then
    jS (aK d 0) (k (tk.ws++[.r (aK d 0) (some (bU tk.k tk.x tk.own tk.ig (.var t) tk.keep)),.s d (.one (.ptr (aK d 0) [] 0))]))
   else .fail
  |none=>.fail
 |.load t x=>dY x λa=>xD T (ay d hi.amd) t a put
 |.nilCheck x=>dY x fun
  |.ptr r p h=>put (.ptr r p h)
  |.fC bt kk y tags=>put (.fC bt kk y tags)
  |_=>.fail
 |.binOp op t x y _=>Rl T t op x y λv=>k [.s d v]
 |.unOp op _ x=>dY x λa=>Xu op a λv=>k [.s d v]
 |.convert s t x=>dY x λa=>RL T d s t a k
 |.field t x f=>match T.ty t with
  |some kk=>dY x λa=>G5 kk a f put
  |none=>.fail
 |.fieldAddr t x f=>match T.ty t with
  |some kk=>dY x λa=>GZ kk a f put
  |none=>.fail
 |.indexAddr t x i=>match T.ty t with
  |some kk=>dY x λa=>dY i λi=>asInt i λ_ i=>Ih kk a i put
  |none=>.fail
 |.index t x i=>dY x λa=>dY i λi=>asInt i λ_ i=>match T.ty t,a with
  |some .str,.val .str s _=>.dX (aZ i (show List Int from s).length) inferInstance (put (.val (.int .u8) ((show List Int from s).getD i.toNat 0) []))
  |_,_=>.fail
 |.extract x i=>sN x fun
  |.mQ l=>match l[i]? with
   |some a=>put a
   |none=>.fail
  |_=>.fail
 |.build t ps=>match T.ty t with
  |some (.st c)=>vS ps.toList λl=>Ao l ⟨.st c,(K.st c).zero,[],[],[],false,[]⟩ λb=>bif !qZ b.ws b.all then .fail else bif b.k.tys.all λt=>ay t b.bad then
    k (b.ws++[.s d (.one (.val b.k b.x b.tags))])
   else jS (aK d 0) (k (b.ws++[.r (aK d 0) (some (bU b.k b.x (eF b.k.tys b.bad) b.tags .anon b.keep)),.s d (.one (.ref (aK d 0) 0))]))
  |_=>.fail
 |.buildSlice t len ps=>match T.ty t with
  |some (.sl e kk)=>vS ps.toList λl=>GQ kk l ⟨[],[],[],[],false,[]⟩ λb=>bif !(qZ b.ws b.all&&Nat.ble (len*kk.size) 16777216)then .fail else bif Nat.beq (dL b.xs) len && !ay e b.bad then
    jS (aK d 0) (k (b.ws++[.r (aK d 0) (some (bU (.sl e kk) b.xs (e :: eF (OH hi d kk) b.bad) b.tags .anon b.keep)),.s d (.one (.ref (aK d 0) 0))]))
   else bif Nat.beq (dL b.xs) 0 then
    jS (aK d 0) (k [.r (aK d 0) (some (bU (.sl e kk) (List.replicate len kk.zero) (e :: kk.tys) [] .anon)),.s d (.one (.ref (aK d 0) 0))])
   else .fail
  |_=>.fail
 |.makeSlice t x y=>match T.ty t with
  |some (.sl e kk)=>dY x λa=>dY y λb=>asInt a λik i=>asInt b λjk j=>bif sV ik .i64&&sV jk .i64 then
    .dX (i=j/\0<=i/\i*T.bytes e<=140737488355328) inferInstance (jS (aK d 0)
     (k [.r (aK d 0) (some (bU (.sl e kk) (List.replicate i.toNat kk.zero) (e :: kk.tys) [] .anon)),.s d (.one (.ref (aK d 0) 0))]))
   else .fail
  |_=>.fail
 |.makeFunc (.func f) first caps=>bif first.isEmpty then nS caps.toList λl=>Da l λcs=>put (.fn f cs)else .fail
 |.slice t x lo hi mx=>match T.ty t with
  |some kk=>bif isZero lo&&isZero hi&&isZero mx then match kk with
    |.sl _ _=>dY x fun
     |.eX=>put .eX
     |a=>oZ a λk' _ _=>bif k'.beq kk then put .eX else .fail
    |_=>.fail
   else match mx with
    |none=>dY x λa=>tH lo λlo=>tH hi λhi=>Xh kk a lo hi put
    |some _=>.fail
  |none=>.fail
 |.call c=>match c.callee with
  |.builtin .len=>nS c.args.toList fun
   | [.eX]=>match (c.argTypes[0]?).bind T.ty with
    |some (.sl _ _)=>put (.val (.int .i64) 0 [])
    |_=>.fail
   | [.val .str s _]=>match (c.argTypes[0]?).bind T.ty with
    |some .str=>put (.val (.int .i64) ((show List Int from s).length:Int) [])
    |_=>.fail
   | [a]=>match (c.argTypes[0]?).bind T.ty with
    |some (.sl _ _)=>oZ a λkk x _=>match kk,x with
     |.sl _ kk,xs=>put (.val (.int .i64) ((show List (El kk)from xs).length:Int) [])
     |_,_=>.fail
    |_=>.fail
   |_=>.fail
  |.builtin .append=>nS c.args.toList fun
   | [a,b]=>match c.argTypes[0]?,(c.argTypes[1]?).bind T.ty with
    |some t,some (.sl _ _)=>CY T d t a b k
    |some t,some .str=>CY T d t a b k
    |_,_=>.fail
   |_=>.fail
  |.builtin .min=>nS c.args.toList fun
   |.val (.int ik) x _ :: l=>EY false ik x l λz=>put (.val (.int ik) z [])
   |_=>.fail
  |.builtin .max=>nS c.args.toList fun
   |.val (.int ik) x _ :: l=>EY true ik x l λz=>put (.val (.int ik) z [])
   |_=>.fail
  |.value _=>LF hi n (some d) c k
  |_=>.fail
 |_=>.fail
def zC(T:bK)(hi:Hint)(n:Nat)(o:Oper)(k:List Wr->Prog J):Prog J:=match o.dst with
 |some d=>bif Nat.blt d hi.nt then(bif ay d hi.parts then Xm T o d k else bif ay d hi.apps then Xl T o d k else aix T hi n o d k)else .fail
 |none=>aiy T hi n o k
end
variable {R:Type}
def refine(Z:St)(s:Nat)(b:Bool)(T:List Tag):St:={ Z with slots:=upd Z.slots s (.one (.val .bool b T)) }
def guardOf(ops:Array Oper)(o:Oper):Option (Option Nat×Bool):=match o.guard with
 |none=>none
 |some (g,want)=>some ((ops[g]?).bind (·.dst),want)
def guarded(Z:St)(ops:Array Oper)(o:Oper)(go:List Loc->St->Option R)(skip:List Loc->St->Option R):Option R:=match guardOf ops o with
 |none=>go [] Z
 |some (some s,want)=>match Z.slots s with
  |.one (.val .bool b T)=>if b=true then(bif want then go [.s s] (refine Z s true T)else skip [.s s] (refine Z s true T))
    else(bif want then skip [.s s] (refine Z s false T)else go [.s s] (refine Z s false T))
  |.mQ []=>skip [.s s] Z
  |_=>none
 |some (none,_)=>none
def Av(hi:Hint)(o:Oper):Bool:=match o.dst with
 |some d=>Nat.blt d hi.nt
 |none=>true
def zB(o:Oper):List Wr:=match o.dst with
 |some d=>[.s d (.mQ [])]
 |none=>[]
def GY(T:bK)(hi:Hint)(n:Nat)(ops:Array Oper):List Oper->St->(St->Option R)->Option R
 | [],Z,K=>K Z
 |o :: l,Z,K=>guarded Z ops o
   (λ_ Z=>(zC T hi n o .ret).run Z λws=>GY T hi n ops l (aF ws Z) K)
   (λ_ Z=>bif Av hi o then GY T hi n ops l (aF (zB o) Z) K else none)
structure Eff where
 i:Nat
 rd:List Loc
 wr:List Loc
def EW(x:Loc):List Loc->Bool
 | []=>false
 |y :: l=>bif x.beq y then true else EW x l
def LB(a b:List Loc):Bool:=a.all λx=>!EW x b
def binders(ops:Array Oper)(i:Nat):List Nat:=((((ops[i]?).getD default).after.toList.filter (Region.binds .any)).map (·.on))
def leads(ops:Array Oper):Nat->Nat->Nat->Bool
 |0,_,_=>false
 |f+1,j,i=>ay j (binders ops i)||(binders ops i).any λb=>Nat.blt j b&&leads ops f j b
def yI(ops:Array Oper)(e:Eff)(l:List Eff):Bool:=
 (binders ops e.i).all (λb=>Nat.blt b e.i)&&l.all λb=>ay b.i (binders ops e.i)||((LB b.wr (e.rd++e.wr)&&LB b.rd e.wr)||leads ops 6 b.i e.i)
def AA(T:bK)(hi:Hint)(n:Nat)(ops:Array Oper):List Oper->Nat->List Eff->St->(St->Option R)->Option R
 | [],_,_,Z,K=>K Z
 |o :: l,i,es,Z,K=>guarded Z ops o
   (λg Z=>(zC T hi n o .ret).tT Z g λws rd=>
    bif yI ops ⟨i,rd,ws.map Wr.loc⟩ es then AA T hi n ops l (i+1) (⟨i,rd,ws.map Wr.loc⟩ :: es) (aF ws Z) K else none)
   (λg Z=>bif Av hi o&&yI ops ⟨i,g,(zB o).map Wr.loc⟩ es then AA T hi n ops l (i+1) (⟨i,g,(zB o).map Wr.loc⟩ :: es) (aF (zB o) Z) K else none)
inductive nH where
 |undef
 |val (k:K) (ids:List Nat)
 |eX
 |ref (r:Nat)
 |ptr (r:Nat) (p:List (Option Nat))
 |fC (bt:TypeId) (k:K) (ids:List Nat)
 |iW
 |fn (f:Nat) (caps:List (TypeId×K×List Nat))
def Ap:List (TypeId×K×List Nat)->List K
 | []=>[]
 |c :: l=>c.2.1 :: Ap l
def nH.ks:nH->List K
 |.val k _ | .fC _ k _=>[k]
 |.ptr _ p=>(aM.into 0 p).kin
 |.fn _ caps=>Ap caps
 |_=>[]
structure yt where
 k:K
 own:List TypeId
 ids:List Nat
 kind:yl
 fixed:Bool
 keep:Bool
 log:Option (K×List TypeId×List TypeId)
def cO(Z:St)(tys:List TypeId):List Tag->Bool
 | []=>true
 |(r,n) :: l=>(bif fV r then true else match Z.roots r with
  |some R=>!R.cu&&clean R.w n tys
  |none=>false)&&cO Z tys l
def kW(rs:List Nat):List Tag->List Nat
 | []=>[]
 |(r,_) :: l=>bif (fV r||ay r rs) && !ay r (kW rs l)then r :: kW rs l else kW rs l
def Xf:List Stp->List (Option Nat)
 | []=>[]
 |.aU n :: p=>some n :: Xf p
 |.idx _ :: p=>none :: Xf p
def J_(rs:List Nat):List (TypeId×Dat×List Tag)->List (TypeId×K×List Nat)
 | []=>[]
 |(t,d,tags) :: l=>(t,d.1,kW rs tags) :: J_ rs l
def GX(rs ex:List Nat):List Nat:=ex.filter λi=>fV i||ay i rs
def Xe(rs ex:List Nat):AV->nH
 |.undef=>.undef
 |.val k _ tags=>.val k (kW rs tags++GX rs ex)
 |.eX=>.eX
 |.ref r _=>.ref r
 |.dP _ _ _=>.undef
 |.ptr r p _=>.ptr r (Xf p)
 |.fC bt k _ tags=>.fC bt k (kW rs tags)
 |.iW=>.iW
 |.kS _ _ _ _=>.undef
 |.nZ _=>.undef
 |.part _ _ _ _ _=>.undef
 |.l9 _ _ _ _=>.undef
 |.sub _ _ _ _ _ _=>.undef
 |.sel _ _ _ _ _ _=>.undef
 |.app _ _ _ _=>.undef
 |.fn f caps=>.fn f (J_ rs caps)
def Dj(t:TypeId)(ids:List Nat):Bool:=!Nat.beq t SENT||ids.all fV
def wY(Z:St)(rs:List Nat):(cs:List (TypeId×K×List Nat))->List (TypeId×Dat×List Tag)->Option (Cont (Ap cs))
 | [],[]=>some ()
 |(t,k,ids) :: cs,(t',d,tags) :: l=>bif Nat.beq t t'&&cO Z (t :: k.tys) tags&&mM (kW rs tags) ids&&Dj t ids then
   match b_ d.1 k d.2,wY Z rs cs l with
   |some x,some c=>some (x,c)
   |_,_=>none
  else none
 |_,_=>none
def rG(Z:St)(rs:List Nat):(sh:nH)->AV->Option (Cont sh.ks)
 |.undef,_=>some ()
 |.val k ids,.val k' x tags=>bif cO Z k.tys tags&&mM (kW rs tags) ids then
   match b_ k' k x with
   |some y=>some (y,())
   |none=>none
  else none
 |.eX,.eX=>some ()
 |.ref r,.ref r' g=>bif Nat.beq r r'&&ay r rs&&(match Z.roots r with|some R=>Nat.beq R.g g|none=>false)then some ()else none
 |.ptr r p,.ptr r' q h=>bif Nat.beq r r'&&ay r rs&&(match Z.roots r with|some R=>clean R.h h (iR q R.k)|none=>false)then idxOf p q else none
 |.fC bt k ids,.fC Rp k' x tags=>bif Nat.beq bt Rp&&cO Z (bt :: k.tys) tags&&mM (kW rs tags) ids&&Dj bt ids then
   match b_ k' k x with
   |some y=>some (y,())
   |none=>none
  else none
 |.iW,.iW=>some ()
 |.fn f cs,.fn f' caps=>bif Nat.beq f f' then wY Z rs cs caps else none
 |_,_=>none
def JQ:(cs:List (TypeId×K×List Nat))->Cont (Ap cs)->List (TypeId×Dat×List Tag)
 | [],_=>[]
 |(t,k,ids) :: cs,c=>(t,⟨k,c.1⟩,ids.map λr=>(r,0)) :: JQ cs c.2
def JP:(sh:nH)->Cont sh.ks->AV
 |.undef,_=>.undef
 |.val k ids,c=>.val k c.1 (ids.map λr=>(r,0))
 |.eX,_=>.eX
 |.ref r,_=>.ref r 0
 |.ptr r p,c=>.ptr r (pathOf p c) 0
 |.fC bt k ids,c=>.fC bt k c.1 (ids.map λr=>(r,0))
 |.iW,_=>.iW
 |.fn f cs,c=>.fn f (JQ cs c)
def Kb(wd:List (Nat×List Nat))(rs:List Nat)(Z:St):List Nat->List (Nat×nH)
 | []=>[]
 |s :: l=>(match Z.slots s with
  |.one a=>(s,Xe rs (AJ (2*s) wd) a)
  |_=>(s,.undef)) :: Kb wd rs Z l
def rQ:List (Nat×nH)->List K
 | []=>[]
 |(_,sh) :: l=>sh.ks++rQ l
def ng(r:Nat):List (Nat×K×List TypeId×List TypeId)->Option (K×List TypeId×List TypeId)
 | []=>none
 |(q,l) :: ls=>bif Nat.beq r q then some l else ng r ls
def Ka(wd:List (Nat×List Nat))(fB:List (Nat×K×List TypeId×List TypeId))(rs:List Nat)(Z:St):List Nat->Option (List (Nat×yt))
 | []=>some []
 |r :: l=>match Z.roots r,Ka wd fB rs Z l with
  |some R,some q=>some ((r,⟨R.k,R.own,kW rs R.tags++(GX rs (AJ (2*r+1) wd)).filter (λq=>!Nat.beq q r),R.kind,R.fixed,R.keep,ng r fB⟩) :: q)
  |_,_=>none
def wo:List (Nat×yt)->List K
 | []=>[]
 |(_,sh) :: l=>sh.k :: wo l
def GK(Z:St)(rs:List Nat):(l:List (Nat×nH))->Option (Cont (rQ l))
 | []=>some ()
 |(s,sh) :: l=>match Z.slots s with
  |.one a=>match rG Z rs sh a,GK Z rs l with
   |some c,some d=>some (Cont.app sh.ks (rQ l) c d)
   |_,_=>none
  |_=>match sh with
   |.undef=>match GK Z rs l with
    |some d=>some d
    |none=>none
   |_=>none
def WS:yl->yl->Bool
 |.anon,.anon | .par,.par | .dead,.dead=>true
 |.var a,.var b=>Nat.beq a b
 |_,_=>false
def BI(R:Root):Option (List TypeId×List TypeId)->Bool
 |some (wt,ht)=>mM R.w wt&&mM R.ew wt&&mM R.h ht&&mM R.eh ht&&Nat.beq R.g 0
 |none=>true
def Wo(R:Root):Option (K×List TypeId×List TypeId)->Bool
 |some (k,l)=>R.k.beq k&&BI R (some l)
 |none=>true
def BG(R:Root)(l:List TypeId):Root:={ R with own:=eF R.own l,w:=l++R.w }
def Ws(l:List TypeId)(r:Nat)(Z:St):St:=match l with
 | []=>Z
 |l=>match Z.roots r with
  |some R=>bif R.cu || !cO Z R.pO R.tags || !R.own.any (λt=>ay t l)then Z else { Z with roots:=upd Z.roots r (some (BG R l)) }
  |none=>Z
def BK(hi:Hint):List Nat->St->St
 | [],Z=>Z
 |r :: rs,Z=>BK hi rs (Ws (AJ (1000000+r) hi.less) r Z)
def LQ(Z:St)(rs:List Nat):(l:List (Nat×yt))->Option (Cont (wo l))
 | []=>some ()
 |(r,sh) :: l=>match Z.roots r with
  |some R=>bif cO Z R.pO R.tags&&mM (kW rs R.tags) sh.ids&&uS sh.k R.own sh.own&&WS R.kind sh.kind&&(R.fixed==sh.fixed)&&(R.keep==sh.keep) && !R.cu&&Wo R sh.log then
    match b_ R.k sh.k R.x,LQ Z rs l with
    |some x,some d=>some (x,d)
    |_,_=>none
   else none
  |none=>none
def mkS:(l:List (Nat×nH))->Cont (rQ l)->Nat->f_
 | [],_,_=>.one .undef
 |(s,sh) :: l,c,n=>bif Nat.beq n s then .one (JP sh (Cont.fst sh.ks (rQ l) c))else mkS l (Cont.snd sh.ks (rQ l) c) n
def agR:Option (K×List TypeId×List TypeId)->List TypeId
 |some (_,l,_)=>l
 |none=>[]
def agQ:Option (K×List TypeId×List TypeId)->List TypeId
 |some (_,_,l)=>l
 |none=>[]
def zo:(l:List (Nat×yt))->Cont (wo l)->Nat->Option Root
 | [],_,_=>none
 |(r,sh) :: l,c,n=>bif Nat.beq n r then some { k:=sh.k,x:=c.1,own:=sh.own,tags:=sh.ids.map λr=>(r,0),w:=[],h:=[],g:=0,kind:=sh.kind,fixed:=sh.fixed,keep:=sh.keep,ew:=agR sh.log,eh:=agQ sh.log }else zo l c.2 n
structure yg where
 ss:List (Nat×nH)
 rs:List (Nat×yt)
abbrev yg.V(s:yg):Type:=Cont (rQ s.ss++wo s.rs)
def Xg(wd:List (Nat×List Nat))(fB:List (Nat×K×List TypeId×List TypeId))(ss rs:List Nat)(Z:St):Option yg:=match Ka wd fB rs Z rs with
 |some q=>bif fB.all (λp=>ay p.1 rs)then some ⟨Kb wd rs Z ss,q⟩else none
 |none=>none
def Dc(rs:List Nat)(s:yg)(Z:St):Option s.V:=match GK Z rs s.ss,LQ Z rs s.rs with
 |some a,some b=>some (Cont.app (rQ s.ss) (wo s.rs) a b)
 |_,_=>none
def xH(s:yg)(c:s.V):St:=⟨mkS s.ss (Cont.fst _ _ c),zo s.rs (Cont.snd _ _ c)⟩
inductive Ex where
 |normal
 |exit (id:Nat)
 |ret
def rounds{V:Type}(B:(V->Option R)->V->Option R):Nat->V->Option R
 |0=>λ_=>none
 |n+1=>B (rounds B n)
def aaX(b:Nat):List (Nat×List Nat×List Nat)->Option (List Nat×List Nat)
 | []=>none
 |(c,h) :: l=>bif Nat.beq b c then some h else aaX b l
def EU{A:Type}(f:A->A->Bool):List A->List A->Bool
 | [],[]=>true
 |a :: l,b :: m=>f a b&&EU f l m
 |_,_=>false
def Aw:(k:K)->El k->El k->Bool
 |.int _,x,y=>decide ((show Int from x)=y)
 |.bool,x,y=>(show Bool from x)==y
 |.str,x,y=>decide ((show List Int from x)=y)
 |.sl _ k,xs,ys=>EU (Aw k) xs ys
 |.unit,_,_=>true
 |.pair a b,x,y=>Aw a x.1 y.1&&Aw b x.2 y.2
 |.st f,x,y=>Aw f x y
 |.gap _,_,_=>true
 |.id _,x,y=>Nat.beq x y
def GJ:(ks:List K)->Cont ks->Cont ks->Bool
 | [],_,_=>true
 |k :: ks,c,d=>Aw k c.1 d.1&&GJ ks c.2 d.2
def Gx(ks:List K):Option (Cont ks)->Option (Cont ks)->Option (Cont ks)
 |some a,some b=>bif GJ ks a b then some a else none
 |_,_=>none
theorem agW{A:Type}{f:A->A->Bool}(hf:∀x y,f x y=true->x=y):∀{l m:List A},EU f l m=true->l=m
 | [],[],_=>rfl
 |a :: l,b :: m,h=>by
  simp only[EU,bf]at h
  rw[hf a b h.1,agW hf h.2]
 | [],_ :: _,h=>by simp[EU]at h
 |_ :: _,[],h=>by simp[EU]at h
theorem anN:∀{k:K} {x y:El k},Aw k x y=true->x=y:=by
 intro k
 induction k with
 |int ik=>intro x y h;exact of_decide_eq_true h
 |bool=>intro x y h;exact eq_of_beq h
 |str=>intro x y h;exact of_decide_eq_true h
 |sl e k ih=>intro x y h;exact agW (λx y h=>ih h) h
 |unit=>intro x y _;rfl
 |pair a b iha ihb=>
  intro x y h
  simp only[Aw,bf]at h
  exact Prod.ext (iha h.1) (ihb h.2)
 |st f ih=>intro x y h;exact ih (x:=x) (y:=y) h
 |gap n=>intro x y _;rfl
 |id e=>intro x y h;exact bu h
theorem aan:∀{ks:List K} {c d:Cont ks},GJ ks c d=true->c=d
 | [],_,_,_=>rfl
 |k :: ks,c,d,h=>by
  simp only[GJ,bf]at h
  exact Prod.ext (anN h.1) (aan h.2)
theorem alQ{ks:List K}{a b:Option (Cont ks)}{z:Cont ks}(h:Gx ks a b=some z):a=some z/\b=some z:=by
 cases a with
 |none=>simp[Gx]at h
 |some a=>
  cases b with
  |none=>simp[Gx]at h
  |some b=>
   simp only[Gx]at h
   cases hb:GJ ks a b with
   |false=>rw[hb]at h;simp at h
   |true=>
    rw[hb]at h
    simp only[fT,ak]at h
    have:=aan hb
    subst h
    exact⟨rfl,by rw[this]⟩
def den(T:bK)(hi:Hint)(n:Nat)(ag:Option R->Option R->Option R):Nat->Code->St->(Ex->St->Option R)->Option R
 |_,.skip,Z,K=>K .normal Z
 |_,.region _ ops draw,Z,K=>bif draw then AA T hi n ops ops.toList 0 [] Z (K .normal)else GY T hi n ops ops.toList Z (K .normal)
 |b,.seq x y,Z,K=>den T hi n ag b x Z fun
  |.normal,Z'=>den T hi n ag b y Z' K
  |e,Z'=>K e Z'
 |b,.cond c x y,Z,K=>(dY c λa=>.ret a).run Z fun
  |.nZ e=>if e=true then ag (den T hi n ag b x Z K) (den T hi n ag b y Z K)else den T hi n ag b y Z K
  |a=>(asBool a .ret).run Z λt=>if t=true then den T hi n ag b x Z K else den T hi n ag b y Z K
 |_,.block id x,Z,K=>den T hi n ag id x Z fun
  |.exit i,Z'=>bif Nat.beq i id then K .normal Z' else K (.exit i) Z'
  |e,Z'=>K e Z'
 |b,.loop x,Z,K=>match aaX b hi.loops with
  |some (ss,rs)=>match Xg hi.wide hi.fB ss rs (BK hi rs Z)with
   |some s=>match Dc rs s (BK hi rs Z)with
    |some c=>rounds (λL v=>den T hi n ag b x (xH s v) fun
     |.normal,Z'=>match Dc rs s (BK hi rs Z')with
      |some v'=>L v'
      |none=>none
     |e,Z'=>K e Z') n c
    |none=>none
   |none=>none
  |none=>none
 |_,.exit id,Z,K=>K (.exit id) Z
 |_,.ret,Z,K=>K .ret Z
 |_,_,_,_=>none
def acu(j:Nat):(p:List (Option Nat))->Cont (aM.into 0 p).kin->AV
 | [],_=>.eX
 |t :: p,c=>.ptr (aG j) (pathOf (t :: p) c) 0
def fA:(ps:List aM)->(i:Nat)->Cont (kin ps)->List (Nat×AV)
 | [],_,_=>[]
 |.val k bE :: ps,i,c=>(i,.val k c.1 (bif k.flat then []else(gK i,0) :: bE.map λj=>(aG j,0))) :: fA ps (i+1) c.2
 |.ro k :: ps,i,c=>(i,.fC SENT k c.1 [(gK i,0)]) :: fA ps (i+1) c.2
 |.rw _ _ _ _ :: ps,i,c=>(i,.ptr (aG i) [] 0) :: fA ps (i+1) c.2
 |.dQ _ _ _ :: ps,i,c=>(i,.ref (aG i) 0) :: fA ps (i+1) c.2
 |.own _ _ :: ps,i,c=>(i,.ref (aG i) 0) :: fA ps (i+1) c.2
 |.fn f ks :: ps,i,c=>(i,.fn f (Db i ks (Cont.fst ks (kin ps) c))) :: fA ps (i+1) (Cont.snd ks (kin ps) c)
 |.into j p :: ps,i,c=>(i,acu j p (Cont.fst (aM.into 0 p).kin (kin ps) c)) :: fA ps (i+1) (Cont.snd (aM.into 0 p).kin (kin ps) c)
where Db (i:Nat):(ks:List K)->Cont ks->List (TypeId×Dat×List Tag)
 | [],_=>[]
 |k :: ks,c=>(SENT,⟨k,c.1⟩,[(gK i,0)]) :: Db i ks c.2
def jv:(ps:List aM)->(i:Nat)->Cont (kin ps)->List (Nat×Root)
 | [],_,_=>[]
 |.val _ _ :: ps,i,c=>jv ps (i+1) c.2
 |.ro _ :: ps,i,c=>jv ps (i+1) c.2
 |.rw k ow _ _ :: ps,i,c=>(aG i,bU k c.1 ow (bif k.tys.all (λt=>ay t ow)then []else [(gK i,0)]) .par true) :: jv ps (i+1) c.2
 |.dQ k ow _ :: ps,i,c=>(aG i,{ bU k c.1 ow (bif k.tys.all (λt=>ay t ow)then []else [(gK i,0)]) .anon true with fixed:=true }) :: jv ps (i+1) c.2
 |.own k ow :: ps,i,c=>(aG i,bU k c.1 ow (bif k.tys.all (λt=>ay t ow)then []else [(gK i,0)]) .anon) :: jv ps (i+1) c.2
 |.fn _ ks :: ps,i,c=>jv ps (i+1) (Cont.snd ks (kin ps) c)
 |.into _ p :: ps,i,c=>jv ps (i+1) (Cont.snd (aM.into 0 p).kin (kin ps) c)
def gN:List (Nat×AV)->Nat->f_
 | [],_=>.one .undef
 |(s,a) :: l,n=>bif Nat.beq n s then .one a else gN l n
def jl:List (Nat×Root)->Nat->Option Root
 | [],_=>none
 |(s,a) :: l,n=>bif Nat.beq n s then some a else jl l n
def gD(ps:List aM)(c:Cont (kin ps)):St:=⟨gN (fA ps 0 c),jl (jv ps 0 c)⟩
def pK(exts bE:List Nat)(tags:List Tag):Bool:=tags.all λt=>
 bif fV t.1 then ay (t.1 / 4) exts else bif Nat.beq (t.1%4) 0 then ay (t.1 / 4) bE else true
def xM{J:Type}(T:bK)(own:Bool)(rv:ResultVar)(k:AV->Prog J):Prog J:=match rv with
 |.tmp t=>dY (.tmp t) k
 |.cell t ty=>dY (.tmp t) λa=>xD T own ty a k
def yL{J:Type}(T:bK):(rs:List gJ)->List ResultVar->(Cont (iI rs)->List dS->List (List Tag)->Prog J)->Prog J
 | [],[],k=>k () [] []
 |.val kk exts bE :: rs,v :: vs,k=>
  let go (x:El kk) (tags:List Tag):Prog J:=bif kk.flat||pK exts bE tags then yL T rs vs λc ts tg=>k (x,c) ts (tags :: tg)else .fail
  xM T false v λa=>match a with
  |.eX=>match kk,go with
   |.sl _ _,go=>go [] []
   |_,_=>.fail
  |a=>oZ a λk' x tags=>match b_ k' kk x with
   |some y=>go y (bif kk.flat then []else tags)
   |none=>.fail
 |.own kk ow exts bE :: rs,v :: vs,k=>xM T true v λa=>qY kk a λtk=>match b_ tk.k kk tk.x with
  |some y=>bif mM (kk.tys.filter λt=>ay t ow) tk.own&&(kk.tys.all (λt=>ay t ow)||pK exts bE tk.tags)then yL T rs vs λc ts tg=>k (y,c) (tk :: ts) tg else .fail
  |none=>.fail
 |_,_,_=>.fail
def L6(Z:St)(i:Nat):Option Root:=match Z.roots (aG i)with
 |some R=>bif R.cu || !cO Z R.pO R.tags then none else some R
 |none=>none
def lG(Z:St):(ps:List aM)->Nat->Option (Cont (gM ps))
 | [],_=>some ()
 |.rw k ow wt ht :: ps,i=>match L6 Z i,lG Z ps (i+1)with
  |some R,some d=>bif uS k R.own ow&&BI R (some (wt,ht))&&(k.tys.all (λt=>ay t ow)||pK [i] [] R.tags)then
    match b_ R.k k R.x with
    |some x=>some (x,d)
    |none=>none
   else none
  |_,_=>none
 |.dQ k ow wt :: ps,i=>match L6 Z i,lG Z ps (i+1)with
  |some R,some d=>bif uS k R.own ow&&BI R (some (wt,k.tys))&&(k.tys.all (λt=>ay t ow)||pK [i] [] R.tags)then
    match b_ R.k k R.x with
    |some x=>some (x,d)
    |none=>none
   else none
  |_,_=>none
 |.val _ _ :: ps,i=>lG Z ps (i+1)
 |.ro _ :: ps,i=>lG Z ps (i+1)
 |.own _ _ :: ps,i=>lG Z ps (i+1)
 |.fn _ _ :: ps,i=>lG Z ps (i+1)
 |.into _ _ :: ps,i=>lG Z ps (i+1)
def fin(T:bK)(ps:List aM)(rs:List gJ)(rv:List ResultVar)(Z:St):Option (Cont (iI rs++gM ps)):=
 (yL T rs rv λc ts tg=>bif qZ (ts.flatMap (·.ws)) (ts.flatMap (·.tags)++tg.flatten)then .ret (c,ts.flatMap (·.ws))else .fail:Prog (Cont (iI rs)×List Wr)).run Z λq=>
  match lG (aF q.2 Z) ps 0 with
  |some d=>some (Cont.app (iI rs) (gM ps) q.1 d)
  |none=>none
def Root.acB(R:Root)(t:TypeId):Bool:=match R.kind with
 |.var u=>Nat.beq t u
 |_=>false
def O6{J:Type}(t:TypeId)(kk:K)(ow:List TypeId)(exts:List Nat)(a:AV)(k:El kk->Nat->Prog J):Prog J:=match a with
 |.ptr r [] _=>iq r λR=>bif R.acB t&&mM (kk.tys.filter λt=>ay t ow) R.own&&(kk.tys.all (λt=>ay t ow)||pK exts [] R.tags)then
   match b_ R.k kk R.x with
   |some y=>k y r
   |none=>.fail
  else .fail
 |_=>.fail
def cutV{J:Type}(j:Nat)(a:AV)(k:Int->Prog J):Prog J:=match a with
 |.ref r g=>bif Nat.beq r (aG j)&&Nat.beq g 0 then iq r λR=>bif Nat.beq R.g 0 then match R.k,R.x with
   |.sl _ kk,xs=>k ((show List (El kk)from xs).length:Int)
   |_,_=>.fail
  else .fail
  else .fail
 |.part r g lo hi _=>bif Nat.beq r (aG j)&&Nat.beq g 0&&Nat.beq lo 0 then k (hi:Int)else .fail
 |_=>.fail
def MI{J:Type}(j:Nat)(p:List (Option Nat))(a:AV)(k:Int->Prog J):Prog J:=match a with
 |.iW=>k (-1)
 |.ptr r q h=>bif Nat.beq r (aG j)then iq r λR=>bif clean R.h h (iR q R.k)&&E9 q R&&(aD q R.k R.x).isSome then
   match mO p q with
   |some (some i)=>.dX (0<=i) inferInstance (k i)
   |_=>.fail
  else .fail
  else .fail
 |_=>.fail
def LY(T:bK)(ps:List aM):(rs:List gJ)->List ResultVar->St->Option (Cont (iI rs++gM ps))
 | [.ptr t kk ow exts],[rv],Z=>(xM T false rv λa=>O6 t kk ow exts a λy r=>.ret (y,r):Prog (El kk×Nat)).run Z λq=>
   match lG (aF [.r q.2 none] Z) ps 0 with
   |some d=>some (q.1,d)
   |none=>none
 | [.into j []],[rv],Z=>(xM T false rv λa=>cutV j a λm=>.ret m:Prog Int).run Z λm=>
   match lG Z ps 0 with
   |some d=>some (m,d)
   |none=>none
 | [.into j (t :: p)],[rv],Z=>(xM T false rv λa=>MI j (t :: p) a λm=>.ret m:Prog Int).run Z λm=>
   match lG Z ps 0 with
   |some d=>some (m,d)
   |none=>none
 |rs,fO,Z=>fin T ps rs fO Z
def uT:List aM->Nat->List (Nat×K×List TypeId×List TypeId)
 | [],_=>[]
 |.rw k _ wt ht :: ps,i=>(aG i,k,wt,ht) :: uT ps (i+1)
 |.dQ k _ wt :: ps,i=>(aG i,k,wt,k.tys) :: uT ps (i+1)
 |_ :: ps,i=>uT ps (i+1)
def sJ(T:bK)(hi:Hint)(fn:Func)(ps:List aM)(rs:List gJ)(n:Nat)(c:Cont (kin ps)):Option (Cont (iI rs++gM ps)):=
 match fn.body with
 |some code=>den T { hi with nt:=fn.ntmps,fB:=uT ps 0 } n (Gx (iI rs++gM ps)) 0 code (gD ps c) fun
  |.ret,Z=>LY T ps rs fn.results.toList Z
  |.normal,Z=>LY T ps rs fn.results.toList Z
  |_,_=>none
 |none=>none
end
section
open Go
class Fr where
 free:Nat->Prop
 obj:Nat->Option Obj
 DX:Nat->Value
 acm:DX 0=.slice none 0 0
 acn:∀i,∃a n c,DX i=.slice a n c
abbrev aw3:Fr:=⟨λ_=>False,λ_=>none,λ_=>.slice none 0 0,rfl,λ_=>⟨none,0,0,rfl⟩⟩
variable [Fr]
structure iU(n lo hi:Nat):Prop where
 le:lo<=hi
 out:∀i,i<n->¬(lo<=i/\i<hi)
instance {n lo hi:Nat}:CoeFun (iU n lo hi) (λ_=>∀i,i<n->¬(lo<=i/\i<hi)):=⟨iU.out⟩
theorem iU.zero{n:Nat}:iU n 0 0:=⟨bZ _,λ_ _=>by omega⟩
abbrev Heap:=Nat->Option Obj
def hp(w:World):Heap:=λb=>w.heap[b]?
def cellAt(h:Heap)(b o:Nat):Option Value:=match h b with
 |some (.cells c _ _)=>c[o]?
 |_=>none
def iH(h:Heap)(b:Nat):Option TypeId:=match h b with
 |some (.cells _ e _)=>some e
 |_=>none
def Cells(h:Heap)(b o:Nat)(cs:List Value):Prop:=∀i,i<cs.length->cellAt h b (o+i)=cs[i]?
theorem vN(w:World)(b o:Nat):w.cell? ⟨b,o,none⟩=cellAt (hp w) b o:=by
 unfold World.cell? cellAt hp
 cases w.heap[b]? with
 |none=>rfl
 |some x=>cases x<;>rfl
theorem yG{h h':Heap}{b:Nat}(e:h' b=h b)(o:Nat):cellAt h' b o=cellAt h b o:=by unfold cellAt;rw[e]
def kT(h:Heap)(b:Nat)(e:TypeId):Prop:=iH h b=some e\/Fr.free b
theorem aaJ{h h':Heap}{b:Nat}(e:h' b=h b):iH h' b=iH h b:=by unfold iH;rw[e]
theorem aaI{h h':Heap}{b:Nat}{t:TypeId}(e:h' b=h b)(H:kT h b t):kT h' b t:=H.imp (λH=>(aaJ e).trans H) id
theorem Cells.congr{h h':Heap}{b o:Nat}{cs:List Value}(e:h' b=h b)(H:Cells h b o cs):Cells h' b o cs:=λi hi=>(yG e _).trans (H i hi)
def lq:IntKind->Int->Prop
 |.u8,n=>0<=n/\n<256
 |_,_=>True
def Vw(h:Heap)(ok:Nat->Prop):(k:K)->El k->List Value->Prop
 |.int ik,n,cs=>cs=[.int ik n]/\lq ik n
 |.bool,b,cs=>cs=[.bool b]
 |.str,s,cs=>∃B:ByteArray,cs=[.string B]/\(show List Int from s)=bytesOf B
 |.sl e k,xs,cs=>∃a n c,cs=[.slice a n c]/\n=(show List (El k)from xs).length/\n<=c/\
   (0<n->∃b o,a=some ⟨b,o,none⟩/\ok b/\kT h b e/\
    ∀(i:Nat) (hi:i<(show List (El k)from xs).length),∃ds,Cells h b (o+i*k.size) ds/\Vw h ok k ((show List (El k)from xs)[i]) ds)
 |.unit,_,cs=>cs=[]
 |.pair a b,x,cs=>∃c1 c2,cs=c1++c2/\Vw h ok a x.1 c1/\Vw h ok b x.2 c2
 |.st f,x,cs=>Vw h ok f x cs
 |.gap n,_,cs=>cs.length=n
 |.id _,i,cs=>cs=[Fr.DX (show Nat from i)]
def Ow(h:Heap)(own:List TypeId)(ok:Nat->Prop):(k:K)->El k->List Value->List Nat->Prop
 |.sl e k,xs,cs,fo=>if ay e own=true then
   ∃a n c,cs=[.slice a n c]/\n=(show List (El k)from xs).length/\n<=c/\
    ((c=0/\fo=[])\/∃b o arr lo hi,a=some ⟨b,o,none⟩/\h b=some (.cells arr e (lo,hi))/\iU arr.size lo hi/\o+c*k.size<=arr.size/\
     ∃az:List (List Nat),az.length=(show List (El k)from xs).length/\fo.Perm (b :: az.flatten)/\
      ∀(i:Nat) (hi:i<(show List (El k)from xs).length),∃ds,Cells h b (o+i*k.size) ds/\Ow h own ok k ((show List (El k)from xs)[i]) ds (az.getD i []))
  else fo=[]/\Vw h ok (.sl e k) xs cs
 |.pair a b,x,cs,fo=>∃c1 c2 f1 f2,cs=c1++c2/\fo.Perm (f1++f2)/\Ow h own ok a x.1 c1 f1/\Ow h own ok b x.2 c2 f2
 |.st f,x,cs,fo=>Ow h own ok f x cs fo
 |.int ik,n,cs,fo=>fo=[]/\Vw h ok (.int ik) n cs
 |.bool,n,cs,fo=>fo=[]/\Vw h ok .bool n cs
 |.str,n,cs,fo=>fo=[]/\Vw h ok .str n cs
 |.unit,_,cs,fo=>fo=[]/\cs=[]
 |.gap n,_,cs,fo=>fo=[]/\cs.length=n
 |.id e,i,cs,fo=>fo=[]/\Vw h ok (.id e) i cs
theorem lD{h:Heap}{ok:Nat->Prop}:∀{k:K} {x:El k} {cs:List Value},Vw h ok k x cs->cs.length=k.size:=by
 intro k
 induction k with
 |int ik=>intro x cs H;rw[H.1];rfl
 |bool=>intro x cs H;rw[show cs=_ from H];rfl
 |id e=>intro x cs H;rw[show cs=_ from H];rfl
 |str=>intro x cs H;obtain⟨B,rfl,_⟩:=H;rfl
 |sl e k ih=>intro x cs H;obtain⟨a,n,c,rfl,_⟩:=H;rfl
 |unit=>intro x cs H;rw[show cs=_ from H];rfl
 |pair a b iha ihb=>intro x cs H;obtain⟨c1,c2,rfl,h1,h2⟩:=H;simp[K.size,iha h1,ihb h2]
 |st f ih=>intro x cs H;exact ih (x:=x) H
 |gap n=>intro x cs H;exact H
theorem ku{h h':Heap}{ok ok':Nat->Prop}(hh:∀b,ok b->h' b=h b)(hk:∀b,ok b->ok' b):∀{k:K} {x:El k} {cs:List Value},Vw h ok k x cs->Vw h' ok' k x cs:=by
 intro k
 induction k with
 |int ik=>intro x cs H;exact H
 |bool=>intro x cs H;exact H
 |id e=>intro x cs H;exact H
 |str=>intro x cs H;exact H
 |sl e k ih=>
  intro x cs H
  obtain⟨a,n,c,e1,e2,e3,H⟩:=H
  refine⟨a,n,c,e1,e2,e3,λhn=>?_⟩
  obtain⟨b,o,ea,hb,ht,H⟩:=H hn
  refine⟨b,o,ea,hk b hb,aaI (hh b hb) ht,λi hi=>?_⟩
  obtain⟨ds,h1,h2⟩:=H i hi
  exact⟨ds,h1.congr (hh b hb),ih h2⟩
 |unit=>intro x cs H;exact H
 |pair a b iha ihb=>intro x cs H;obtain⟨c1,c2,e,h1,h2⟩:=H;exact⟨c1,c2,e,iha h1,ihb h2⟩
 |st f ih=>intro x cs H;exact ih (x:=x) H
 |gap n=>intro x cs H;exact H
theorem lC{h h':Heap}{ok ok':Nat->Prop}:∀{k:K} {x:El k} {cs:List Value},k.flat=true->Vw h ok k x cs->Vw h' ok' k x cs:=by
 intro k
 induction k with
 |sl e k ih=>intro x cs h;simp[K.flat]at h
 |gap n=>intro x cs h;simp[K.flat]at h
 |pair a b iha ihb=>
  intro x cs h H
  simp only[K.flat,bf]at h
  obtain⟨c1,c2,e,h1,h2⟩:=H
  exact⟨c1,c2,e,iha h.1 h1,ihb h.2 h2⟩
 |st f ih=>intro x cs h H;exact ih (x:=x) h H
 |_=>intro x cs _ H;exact H
theorem Gu{h:Heap}{ok:Nat->Prop}:∀{k:K} {x:El k} {cs:List Value} (ts:List TypeId),(∀t∈k.tys,t∈ts)->Vw h ok k x cs->Vw h (λb=>ok b/\∃t∈ts,kT h b t) k x cs:=by
 intro k
 induction k with
 |int ik=>intro x cs ts _ H;exact H
 |bool=>intro x cs ts _ H;exact H
 |id e=>intro x cs ts _ H;exact H
 |str=>intro x cs ts _ H;exact H
 |sl e k ih=>
  intro x cs ts hts H
  obtain⟨a,n,c,e1,e2,e3,H⟩:=H
  refine⟨a,n,c,e1,e2,e3,λhn=>?_⟩
  obtain⟨b,o,ea,hb,ht,H⟩:=H hn
  refine⟨b,o,ea,⟨hb,e,hts e (by simp[K.tys]),ht⟩,ht,λi hi=>?_⟩
  obtain⟨ds,h1,h2⟩:=H i hi
  exact⟨ds,h1,ih ts (λt h=>hts t (by simp[K.tys,h])) h2⟩
 |unit=>intro x cs ts _ H;exact H
 |pair a b iha ihb=>
  intro x cs ts hts H
  obtain⟨c1,c2,e,h1,h2⟩:=H
  exact⟨c1,c2,e,iha ts (λt h=>hts t (by simp[K.tys,h])) h1,ihb ts (λt h=>hts t (by simp[K.tys,h])) h2⟩
 |st f ih=>intro x cs ts hts H;exact ih (x:=x) ts hts H
 |gap n=>intro x cs ts _ H;exact H
theorem eY{h:Heap}{own:List TypeId}{ok:Nat->Prop}:∀{k:K} {x:El k} {cs:List Value} {fo:List Nat},Ow h own ok k x cs fo->cs.length=k.size:=by
 intro k
 induction k with
 |int ik=>intro x cs fo H;exact lD H.2
 |bool=>intro x cs fo H;exact lD H.2
 |id e=>intro x cs fo H;exact lD H.2
 |str=>intro x cs fo H;exact lD H.2
 |sl e k ih=>
  intro x cs fo H
  unfold Ow at H
  split at H
  ·obtain⟨a,n,c,rfl,_⟩:=H;rfl
  ·exact lD H.2
 |unit=>intro x cs fo H;rw[H.2];rfl
 |pair a b iha ihb=>intro x cs fo H;obtain⟨c1,c2,f1,f2,rfl,_,h1,h2⟩:=H;simp[K.size,iha h1,ihb h2]
 |st f ih=>intro x cs fo H;exact ih (x:=x) H
 |gap n=>intro x cs fo H;exact H.2
theorem uN{az:List (List Nat)}{i:Nat}{b:Nat}(h:b∈az.getD i []):b∈az.flatten:=by
 rw[eP]at h
 cases hi:az[i]? with
 |none=>rw[hi]at h;simp at h
 |some l=>rw[hi]at h;exact K_.2 ⟨l,p9 hi,by simpa using h⟩
theorem dR{h h':Heap}{own:List TypeId}{ok ok':Nat->Prop}(hh:∀b,ok b->h' b=h b)(hk:∀b,ok b->ok' b) :
  ∀{k:K} {x:El k} {cs:List Value} {fo:List Nat},(∀b∈fo,h' b=h b)->Ow h own ok k x cs fo->Ow h' own ok' k x cs fo:=by
 intro k
 induction k with
 |int ik=>intro x cs fo _ H;exact⟨H.1,ku hh hk H.2⟩
 |bool=>intro x cs fo _ H;exact⟨H.1,ku hh hk H.2⟩
 |id e=>intro x cs fo _ H;exact⟨H.1,ku hh hk H.2⟩
 |str=>intro x cs fo _ H;exact⟨H.1,ku hh hk H.2⟩
 |sl e k ih=>
  intro x cs fo hfo H
  unfold Ow at H ⊢
  split
  ·rename_i hm
   rw[aj hm]at H
   obtain⟨a,n,c,e1,e2,e3,H⟩:=H
   refine⟨a,n,c,e1,e2,e3,?_⟩
   rcases H with H|⟨b,o,arr,lo,hi,ea,hb,hf,hs,az,hl,hp,H⟩
   ·exact .inl H
   ·have hbb:h' b=h b:=hfo b (hp.mem_iff.2 (by simp))
    refine .inr ⟨b,o,arr,lo,hi,ea,hbb.trans hb,hf,hs,az,hl,hp,λi hi=>?_⟩
    obtain⟨ds,h1,h2⟩:=H i hi
    exact⟨ds,h1.congr hbb,ih (λb' hb'=>hfo b' (hp.mem_iff.2 (by simp[uN hb']))) h2⟩
  ·rename_i hm
   rw[ah hm]at H
   exact⟨H.1,ku hh hk H.2⟩
 |unit=>intro x cs fo _ H;exact H
 |pair a b iha ihb=>
  intro x cs fo hfo H
  obtain⟨c1,c2,f1,f2,e,hp,h1,h2⟩:=H
  exact⟨c1,c2,f1,f2,e,hp,iha (λb hb=>hfo b (hp.mem_iff.2 (by simp[hb]))) h1,ihb (λb hb=>hfo b (hp.mem_iff.2 (by simp[hb]))) h2⟩
 |st f ih=>intro x cs fo hfo H;exact ih (x:=x) hfo H
 |gap n=>intro x cs fo _ H;exact H
theorem rC{h:Heap}{own:List TypeId}{ok:Nat->Prop}:∀{k:K} {x:El k} {cs:List Value} {fo:List Nat} (ts:List TypeId),(∀t∈bz own k,t∈ts)->Ow h own ok k x cs fo->Ow h own (λb=>ok b/\∃t∈ts,kT h b t) k x cs fo:=by
 intro k
 induction k with
 |int ik=>intro x cs fo ts _ H;exact H
 |bool=>intro x cs fo ts _ H;exact H
 |id e=>intro x cs fo ts _ H;exact H
 |str=>intro x cs fo ts _ H;exact H
 |sl e k ih=>
  intro x cs fo ts hts H
  unfold Ow at H ⊢
  split
  ·rename_i hm
   rw[aj hm]at H
   obtain⟨a,n,c,e1,e2,e3,H⟩:=H
   refine⟨a,n,c,e1,e2,e3,?_⟩
   rcases H with H|⟨b,o,arr,lo,hi,ea,hb,hf,hs,az,hl,hp,H⟩
   ·exact .inl H
   ·refine .inr ⟨b,o,arr,lo,hi,ea,hb,hf,hs,az,hl,hp,λi hi=>?_⟩
    obtain⟨ds,h1,h2⟩:=H i hi
    exact⟨ds,h1,ih ts (λt ht=>hts t (by simp[bz,hm,ht])) h2⟩
  ·rename_i hm
   rw[ah hm]at H
   exact⟨H.1,Gu ts (λt ht=>hts t (by simpa[bz,hm,K.tys]using ht)) H.2⟩
 |unit=>intro x cs fo ts _ H;exact H
 |pair a b iha ihb=>
  intro x cs fo ts hts H
  obtain⟨c1,c2,f1,f2,e,hp,h1,h2⟩:=H
  exact⟨c1,c2,f1,f2,e,hp,iha ts (λt h=>hts t (by simp[bz,h])) h1,ihb ts (λt h=>hts t (by simp[bz,h])) h2⟩
 |st f ih=>intro x cs fo ts hts H;exact ih (x:=x) ts hts H
 |gap n=>intro x cs fo ts _ H;exact H
theorem oV{h:Heap}{own:List TypeId}{ok:Nat->Prop}(ok':Nat->Prop)(hk:∀b,ok b->ok' b) :
  ∀{k:K} {x:El k} {cs:List Value} {fo:List Nat},(∀b∈fo,ok' b)->Ow h own ok k x cs fo->Vw h ok' k x cs:=by
 intro k
 induction k with
 |int ik=>intro x cs fo _ H;exact ku (λ_ _=>rfl) hk H.2
 |bool=>intro x cs fo _ H;exact ku (λ_ _=>rfl) hk H.2
 |id e=>intro x cs fo _ H;exact ku (λ_ _=>rfl) hk H.2
 |str=>intro x cs fo _ H;exact ku (λ_ _=>rfl) hk H.2
 |sl e k ih=>
  intro x cs fo hfo H
  unfold Ow at H
  split at H
  ·obtain⟨a,n,c,e1,e2,e3,H⟩:=H
   refine⟨a,n,c,e1,e2,e3,λhn=>?_⟩
   rcases H with H|⟨b,o,arr,lo,hi,ea,hb,hf,hs,az,hl,hp,H⟩
   ·omega
   ·refine⟨b,o,ea,hfo b (hp.mem_iff.2 (by simp)),by refine .inl ?_;unfold iH;rw[hb],λi hi=>?_⟩
    obtain⟨ds,h1,h2⟩:=H i hi
    exact⟨ds,h1,ih (λb' hb'=>hfo b' (hp.mem_iff.2 (by simp[uN hb']))) h2⟩
  ·exact ku (λ_ _=>rfl) hk H.2
 |unit=>intro x cs fo _ H;exact H.2
 |pair a b iha ihb=>
  intro x cs fo hfo H
  obtain⟨c1,c2,f1,f2,e,hp,h1,h2⟩:=H
  exact⟨c1,c2,e,iha (λb hb=>hfo b (hp.mem_iff.2 (by simp[hb]))) h1,ihb (λb hb=>hfo b (hp.mem_iff.2 (by simp[hb]))) h2⟩
 |st f ih=>intro x cs fo hfo H;exact ih (x:=x) hfo H
 |gap n=>intro x cs fo _ H;exact H.2
theorem wS{h:Heap}{own own':List TypeId}{ok:Nat->Prop} :
  ∀{k:K} {x:El k} {cs:List Value} {fo:List Nat},(∀t∈k.tys,ay t own'=true->ay t own=true)->Ow h own ok k x cs fo->
   ∃bH fd,fo.Perm (bH++fd)/\Ow h own' (λb=>ok b\/b∈fd) k x cs bH:=by
 intro k
 induction k with
 |int ik=>intro x cs fo _ H;exact⟨[],[],by rw[H.1];exact .refl _,rfl,ku (λ_ _=>rfl) (λ_ h=>.inl h) H.2⟩
 |bool=>intro x cs fo _ H;exact⟨[],[],by rw[H.1];exact .refl _,rfl,ku (λ_ _=>rfl) (λ_ h=>.inl h) H.2⟩
 |id e=>intro x cs fo _ H;exact⟨[],[],by rw[H.1];exact .refl _,rfl,ku (λ_ _=>rfl) (λ_ h=>.inl h) H.2⟩
 |str=>intro x cs fo _ H;exact⟨[],[],by rw[H.1];exact .refl _,rfl,ku (λ_ _=>rfl) (λ_ h=>.inl h) H.2⟩
 |sl e k ih=>
  intro x cs fo ht H
  by_cases hm':ay e own'=true
  ·have hm:=ht e (by simp[K.tys]) hm'
   unfold Ow at H
   rw[aj hm]at H
   obtain⟨a,n,c,e1,e2,e3,H⟩:=H
   rcases H with⟨h0,h1⟩|⟨b,o,arr,lo,hi,ea,hb,hf,hs,az,hl,hp,H⟩
   ·refine⟨[],[],by rw[h1];exact .refl _,?_⟩
    unfold Ow
    rw[aj hm']
    exact⟨a,n,c,e1,e2,e3,.inl ⟨h0,rfl⟩⟩
   ·
    have step:∀i:Nat,∃p:List Nat×List Nat,(hi:i<(show List (El k)from x).length)->((az.getD i []).Perm (p.1++p.2)/\∃ds,Cells h b (o+i*k.size) ds/\Ow h own' (λb=>ok b\/b∈p.2) k ((show List (El k)from x)[i]) ds p.1):=by
     intro i
     by_cases hi:i<(show List (El k)from x).length
     ·obtain⟨ds,h1,h2⟩:=H i hi
      obtain⟨bH,fd,hp',h3⟩:=ih (λt ht'=>ht t (by simp[K.tys,ht'])) h2
      exact⟨(bH,fd),λ_=>⟨hp',ds,h1,h3⟩⟩
     ·exact⟨([],[]),λh=>absurd h hi⟩
    have⟨q,hq⟩:∃q:Nat->List Nat×List Nat,∀i,(hi:i<(show List (El k)from x).length)->((az.getD i []).Perm ((q i).1++(q i).2)/\∃ds,Cells h b (o+i*k.size) ds/\Ow h own' (λb=>ok b\/b∈(q i).2) k ((show List (El k)from x)[i]) ds (q i).1):=
     ⟨λi=>Classical.choose (step i),λi=>Classical.choose_spec (step i)⟩
    let N:=(show List (El k)from x).length
    refine⟨b :: (List.range N).flatMap (λi=>(q i).1),(List.range N).flatMap (λi=>(q i).2),?_,?_⟩
    ·refine hp.trans ?_
     rw[gX]
     refine .cons b ?_
     have apn:az.flatten=(List.range N).flatMap (λi=>az.getD i []):=by
      rw[List.flatMap_def]
      congr 1
      apply List.ext_getElem
      ·simp[N,hl]
      ·intro i h1 h2
       simp[eP,fG h1]
     rw[apn]
     have gen:∀l:List Nat,(∀i∈l,i<N)->(l.flatMap (λi=>az.getD i [])).Perm (l.flatMap (λi=>(q i).1)++l.flatMap (λi=>(q i).2)):=by
      intro l
      induction l with
      |nil=>intro _;exact .refl _
      |cons i l ihl=>
       intro hl'
       simp only[kP]
       have h1:=(hq i (hl' i (by simp))).1
       have h2:=ihl (λj hj=>hl' j (by simp[hj]))
       refine(h1.append h2).trans ?_
       simp only[eG]
       refine z_ _ ?_
       rw[<-eG,<-eG]
       exact wN _ QF
     exact gen _ (λi hi=>List.mem_range.1 hi)
    ·unfold Ow
     rw[aj hm']
     refine⟨a,n,c,e1,e2,e3,.inr ⟨b,o,arr,lo,hi,ea,hb,hf,hs,(List.range N).map (λi=>(q i).1),by simp[N],by rw[List.flatMap_def],λi hi=>?_⟩⟩
     obtain⟨ds,h1,h2⟩:=(hq i hi).2
     refine⟨ds,h1,?_⟩
     have:(List.map (λi=>(q i).1) (List.range N)).getD i []=(q i).1:=by
      rw[eP,CJ,Zm hi];rfl
     rw[this]
     exact dR (λ_ _=>rfl) (λb' hb'=>hb'.imp id (λh=>mW.2 ⟨i,List.mem_range.2 hi,h⟩)) (λ_ _=>rfl) h2
  ·refine⟨[],fo,by simp,?_⟩
   unfold Ow
   rw[ah hm']
   exact⟨rfl,oV _ (λ_ h=>.inl h) (λ_ h=>.inr h) H⟩
 |unit=>intro x cs fo _ H;exact⟨[],[],by rw[H.1];exact .refl _,rfl,H.2⟩
 |pair a b iha ihb=>
  intro x cs fo ht H
  obtain⟨c1,c2,f1,f2,e,hp,h1,h2⟩:=H
  obtain⟨g1,d1,p1,r1⟩:=iha (λt h=>ht t (by simp[K.tys,h])) h1
  obtain⟨g2,d2,p2,r2⟩:=ihb (λt h=>ht t (by simp[K.tys,h])) h2
  refine⟨g1++g2,d1++d2,(hp.trans (p1.append p2)).trans ?_,c1,c2,g1,g2,e,.refl _,?_,?_⟩
  ·simp only[eG]
   refine z_ _ ?_
   rw[<-eG,<-eG]
   exact wN _ QF
  ·exact dR (λ_ _=>rfl) (λb' hb'=>hb'.imp id (λh=>by simp[h])) (λ_ _=>rfl) r1
  ·exact dR (λ_ _=>rfl) (λb' hb'=>hb'.imp id (λh=>by simp[h])) (λ_ _=>rfl) r2
 |st f ih=>intro x cs fo ht H;exact ih (x:=x) ht H
 |gap n=>intro x cs fo _ H;exact⟨[],[],by rw[H.1];exact .refl _,rfl,H.2⟩
theorem sw{h:Heap}{own own':List TypeId}{ok:Nat->Prop} :
  ∀{k:K} {x:El k} {cs:List Value} {fo:List Nat},(∀t∈k.tys,ay t own'=ay t own)->Ow h own ok k x cs fo->Ow h own' ok k x cs fo:=by
 intro k
 induction k with
 |int ik=>intro x cs fo _ H;exact H
 |bool=>intro x cs fo _ H;exact H
 |id e=>intro x cs fo _ H;exact H
 |str=>intro x cs fo _ H;exact H
 |sl e k ih=>
  intro x cs fo ht H
  unfold Ow at H ⊢
  rw[ht e (by simp[K.tys])]
  split
  ·rename_i hm
   rw[aj hm]at H
   obtain⟨a,n,c,e1,e2,e3,H⟩:=H
   refine⟨a,n,c,e1,e2,e3,?_⟩
   rcases H with H|⟨b,o,arr,lo,hi,ea,hb,hf,hs,az,hl,hp,H⟩
   ·exact .inl H
   ·refine .inr ⟨b,o,arr,lo,hi,ea,hb,hf,hs,az,hl,hp,λi hi=>?_⟩
    obtain⟨ds,h1,h2⟩:=H i hi
    exact⟨ds,h1,ih (λt ht'=>ht t (by simp[K.tys,ht'])) h2⟩
  ·rename_i hm
   rw[ah hm]at H
   exact H
 |unit=>intro x cs fo _ H;exact H
 |pair a b iha ihb=>
  intro x cs fo ht H
  obtain⟨c1,c2,f1,f2,e,hp,h1,h2⟩:=H
  exact⟨c1,c2,f1,f2,e,hp,iha (λt h=>ht t (by simp[K.tys,h])) h1,ihb (λt h=>ht t (by simp[K.tys,h])) h2⟩
 |st f ih=>intro x cs fo ht H;exact ih (x:=x) ht H
 |gap n=>intro x cs fo _ H;exact H
theorem Af{h:Heap}{own:List TypeId}{ok:Nat->Prop}:∀{k:K} {x:El k} {cs:List Value},(∀t∈k.tys,ay t own=false)->Vw h ok k x cs->Ow h own ok k x cs []:=by
 intro k
 induction k with
 |int ik=>intro x cs _ H;exact⟨rfl,H⟩
 |bool=>intro x cs _ H;exact⟨rfl,H⟩
 |id e=>intro x cs _ H;exact⟨rfl,H⟩
 |str=>intro x cs _ H;exact⟨rfl,H⟩
 |sl e k ih=>
  intro x cs ht H
  unfold Ow
  rw[ah (by rw[ht e (by simp[K.tys])];simp)]
  exact⟨rfl,H⟩
 |unit=>intro x cs _ H;exact⟨rfl,H⟩
 |pair a b iha ihb=>
  intro x cs ht H
  obtain⟨c1,c2,e,h1,h2⟩:=H
  exact⟨c1,c2,[],[],e,.refl _,iha (λt h=>ht t (by simp[K.tys,h])) h1,ihb (λt h=>ht t (by simp[K.tys,h])) h2⟩
 |st f ih=>intro x cs ht H;exact ih (x:=x) ht H
 |gap n=>intro x cs _ H;exact⟨rfl,H⟩
end
section
open Go
variable [Fr]
def bQ:Nat->K->Option (Nat×K)
 |0,.pair a _=>some (0,a)
 |n+1,.pair a b=>match bQ n b with
  |some (o,k)=>some (a.size+o,k)
  |none=>none
 |_,_=>none
def iE(h:Heap)(b o n:Nat):List Value:=(List.range n).map λj=>(cellAt h b (o+j)).getD undef
theorem xN{h:Heap}{b o:Nat}{cs:List Value}(H:Cells h b o cs):iE h b o cs.length=cs:=by
 unfold iE
 apply List.ext_getElem
 ·simp
 ·intro i h1 h2
  simp[H i h2,fG h2]
def aR(h:Heap):List Stp->(k:K)->List Value->Option (Nat×Nat)->Option (List Value×Option (Nat×Nat))
 | [],_,cs,wh=>some (cs,wh)
 |.aU n :: p,.st c,cs,wh=>match bQ n c with
  |some (off,k')=>aR h p k' ((cs.drop off).take k'.size) (wh.map λq=>(q.1,q.2+off))
  |none=>none
 |.idx i :: p,.sl _ k,cs,_=>match cs with
  | [.slice (some a) _ _]=>aR h p k (iE h a.block (a.off+i.toNat*k.size) k.size) (some (a.block,a.off+i.toNat*k.size))
  |_=>none
 |_,_,_,_=>none
def bW:List Stp->(k:K)->El k->Prop
 | [],_,_=>True
 |.aU n :: p,.st c,x=>match aP n c x with
  |some d=>bW p d.1 d.2
  |none=>False
 |.idx i :: p,.sl _ k,xs=>0<=i/\i<((show List (El k)from xs).length:Int)/\bW p k ((show List (El k)from xs).getD i.toNat k.zero)
 |_,_,_=>False
def kQ(h h':Heap)(b o n:Nat):Prop:=
 ∃arr fK e fr,h b=some (.cells arr e fr)/\h' b=some (.cells fK e fr)/\fK.size=arr.size/\∀i,¬(o<=i/\i<o+n)->fK[i]?=arr[i]?
theorem kQ.of_same{h h':Heap}{b:Nat}(o n:Nat){arr:Array Value}{e:TypeId}{fr:Nat×Nat}(e1:h b=some (.cells arr e fr))(e2:h' b=h b):kQ h h' b o n:=
 ⟨arr,arr,e,fr,e1,e2.trans e1,rfl,λ_ _=>rfl⟩
theorem kQ.cells{h h':Heap}{b o n o':Nat}{cs:List Value}(H:kQ h h' b o n)(hc:Cells h b o' cs)(hd:o'+cs.length<=o\/o+n<=o'):Cells h' b o' cs:=by
 obtain⟨arr,fK,e,fr,h1,h2,_,h3⟩:=H
 intro i hi
 have:=hc i hi
 unfold cellAt at this ⊢
 rw[h1]at this
 rw[h2]
 simp only at this ⊢
 rw[h3 _ (by omega)]
 exact this
theorem kQ.cellAt{h h':Heap}{b o n:Nat}(H:kQ h h' b o n){i:Nat}(hi:¬(o<=i/\i<o+n)):cellAt h' b i=cellAt h b i:=by
 obtain⟨arr,fK,e,fr,h1,h2,_,h3⟩:=H
 unfold Ow.cellAt
 rw[h1,h2]
 exact h3 i hi
theorem Cells.append{h:Heap}{b o:Nat}{c1 c2:List Value}:Cells h b o (c1++c2)↔Cells h b o c1/\Cells h b (o+c1.length) c2:=by
 constructor
 ·intro H
  refine⟨λi hi=>?_,λi hi=>?_⟩
  ·rw[H i (by simp;omega),vE hi]
  ·have:=H (c1.length+i) (by simp;omega)
   rw[yc (by omega)]at this
   rw[ou,this]
   congr 1
   omega
 ·rintro⟨H1,H2⟩ i hi
  by_cases h1:i<c1.length
  ·rw[H1 i h1,vE h1]
  ·have:=H2 (i-c1.length) (by simp at hi;omega)
   rw[yc (by omega),<-this]
   congr 1
   omega
theorem Fa{a b c:List Nat}:(a++(b++c)).Perm (b++(a++c)):=by
 rw[<-eG,<-eG]
 exact wN _ QF
theorem GH:∀(n:Nat) {c:K} {x:El c} {t z:Dat},dB n c x t=some z->aP n z.1 z.2=some t:=by
 intro n
 induction n with
 |zero=>
  intro c x t z h
  cases c with
  |pair a b=>simp only[dB,ak]at h;subst h;rfl
  |_=>simp[dB]at h
 |succ n ih=>
  intro c x t z h
  cases c with
  |pair a b=>
   simp only[dB]at h
   cases h2:dB n b x.2 t with
   |none=>rw[h2]at h;simp at h
   |some y=>rw[h2]at h;simp only[ak]at h;subst h;exact ih h2
  |_=>simp[dB]at h
theorem aak:∀(n:Nat) {c:K} {x:El c} {s t z:Dat},aP n c x=some s->dB n c x t=some z->t.1=s.1->z.1=c:=by
 intro n
 induction n with
 |zero=>
  intro c x s t z hg h e
  cases c with
  |pair a b=>
   simp only[aP,ak]at hg
   simp only[dB,ak]at h
   subst hg;subst h
   simp only at e
   simp[e]
  |_=>simp[dB]at h
 |succ n ih=>
  intro c x s t z hg h e
  cases c with
  |pair a b=>
   simp only[aP]at hg
   simp only[dB]at h
   cases h2:dB n b x.2 t with
   |none=>rw[h2]at h;simp at h
   |some y=>rw[h2]at h;simp only[ak]at h;subst h;simp[ih hg h2 e]
  |_=>simp[dB]at h
theorem RF:∀(n:Nat) {c:K} {x:El c} {t z:Dat} {off:Nat} {k':K},bQ n c=some (off,k')->dB n c x t=some z->bQ n z.1=some (off,t.1):=by
 intro n
 induction n with
 |zero=>
  intro c x t z off k' ho h
  cases c with
  |pair a b=>
   simp only[dB,ak]at h
   subst h
   simp only[bQ,ak,bS]at ho ⊢
   exact⟨ho.1,trivial⟩
  |_=>simp[dB]at h
 |succ n ih=>
  intro c x t z off k' ho h
  cases c with
  |pair a b=>
   simp only[dB]at h
   cases h2:dB n b x.2 t with
   |none=>rw[h2]at h;simp at h
   |some y=>
    rw[h2]at h
    simp only[ak]at h
    subst h
    simp only[bQ]at ho ⊢
    cases h3:bQ n b with
    |none=>rw[h3]at ho;simp at ho
    |some q=>
     rw[h3]at ho
     simp only[gq,ak,bS]at ho
     rw[ih (k':=q.2) (off:=q.1) (by rw[h3]) h2]
     simp[<-ho.1]
  |_=>simp[dB]at h
theorem LH{h:Heap}{own:List TypeId}{ok:Nat->Prop}:∀(n:Nat) {c:K} {x:El c} {cs:List Value} {fo:List Nat} {d:Dat},
  Ow h own ok c x cs fo->aP n c x=some d->
   ∃off pre cs1 post aT fr,bQ n c=some (off,d.1)/\cs=pre++(cs1++post)/\pre.length=off/\fo.Perm (aT++fr)/\Ow h own ok d.1 d.2 cs1 aT/\
    (∀(h':Heap) (ok':Nat->Prop) (t:Dat) (iO:List Value) (kL:List Nat) (z:Dat),dB n c x t=some z->Ow h' own ok' t.1 t.2 iO kL->
     (∀b,ok b->ok' b/\h' b=h b)->(∀b∈fr,h' b=h b)->Ow h' own ok' z.1 z.2 (pre++(iO++post)) (kL++fr))/\
    ∀m s2,m≠n->aP m c x=some s2->∃off2 cs2 vT,bQ m c=some (off2,s2.1)/\(cs.drop off2).take s2.1.size=cs2/\Ow h own ok s2.1 s2.2 cs2 vT/\(∀b∈vT,b∈fr)/\
     (∀iO:List Value,iO.length=d.1.size->((pre++(iO++post)).drop off2).take s2.1.size=cs2)/\∀t z,dB n c x t=some z->aP m z.1 z.2=some s2:=by
 intro n
 induction n with
 |zero=>
  intro c x cs fo d H hg
  cases c with
  |pair a b=>
   simp only[aP,ak]at hg
   subst hg
   obtain⟨c1,c2,f1,f2,e,hp,h1,h2⟩:=H
   refine⟨0,[],c1,c2,f1,f2,rfl,by simpa using e,rfl,hp,h1,?_,?_⟩
   ·intro h' ok' t iO kL z hz ht hok hfr
    simp only[dB,ak]at hz
    subst hz
    exact⟨iO,c2,kL,f2,by simp,.refl _,ht,dR (λb hb=>(hok b hb).2) (λb hb=>(hok b hb).1) hfr h2⟩
   ·intro m s2 hm hg2
    cases m with
    |zero=>exact absurd rfl hm
    |succ m=>
     simp only[aP]at hg2
     have key:∀(m:Nat) {c:K} {x:El c} {cs:List Value} {fo:List Nat} {d:Dat},Ow h own ok c x cs fo->aP m c x=some d->
       ∃off cs1 aT,bQ m c=some (off,d.1)/\(cs.drop off).take d.1.size=cs1/\(∀b∈aT,b∈fo)/\Ow h own ok d.1 d.2 cs1 aT:=by
      intro m
      induction m with
      |zero=>
       intro c x cs fo d H hg
       cases c with
       |pair a b=>
        simp only[aP,ak]at hg
        subst hg
        obtain⟨c1,c2,f1,f2,rfl,hp,h1,h2⟩:=H
        exact⟨0,c1,f1,rfl,by simp[<-eY h1],λb hb=>hp.mem_iff.2 (by simp[hb]),h1⟩
       |_=>simp[aP]at hg
      |succ m ih=>
       intro c x cs fo d H hg
       cases c with
       |pair a b=>
        simp only[aP]at hg
        obtain⟨c1,c2,f1,f2,rfl,hp,h1,h2⟩:=H
        obtain⟨off,cs1,aT,g1,g2,g3,g4⟩:=ih h2 hg
        refine⟨a.size+off,cs1,aT,by simp[bQ,g1],?_,λb hb=>hp.mem_iff.2 (by simp[g3 b hb]),g4⟩
        rw[<-g2,<-eY h1,<-wO]
        simp
       |_=>simp[aP]at hg
     obtain⟨off2,cs2,vT,g1,g2,g3,g4⟩:=key m h2 hg2
     refine⟨a.size+off2,cs2,vT,by simp[bQ,g1],?_,g4,g3,?_,?_⟩
     ·rw[e,<-g2,<-eY h1,<-wO];simp
     ·intro iO hl
      simp only at hl
      rw[<-g2,<-hl,<-wO];simp
     ·intro t z hz
      simp only[dB,ak]at hz
      subst hz
      exact hg2
  |_=>simp[aP]at hg
 |succ n ih=>
  intro c x cs fo d H hg
  cases c with
  |pair a b=>
   simp only[aP]at hg
   obtain⟨c1,c2,f1,f2,e,hp,h1,h2⟩:=H
   obtain⟨off,pre,cs1,post,aT,fr,ho,ec,hl,hp',hd,hu,hoth⟩:=ih h2 hg
   refine⟨a.size+off,c1++pre,cs1,post,aT,f1++fr,?_,by rw[e,ec];simp,by simp[eY h1,hl],?_,hd,?_,?_⟩
   ·simp[bQ,ho]
   ·exact(hp.trans (z_ _ hp')).trans Fa
   ·intro h' ok' t iO kL z hz ht hok hfr
    simp only[dB]at hz
    cases hz2:dB n b x.2 t with
    |none=>rw[hz2]at hz;simp at hz
    |some z2=>
     rw[hz2]at hz
     simp only[ak]at hz
     subst hz
     have r2:=hu h' ok' t iO kL z2 hz2 ht hok (λb hb=>hfr b (by simp[hb]))
     exact⟨c1,pre++(iO++post),f1,kL++fr,by simp,Fa,dR (λb hb=>(hok b hb).2) (λb hb=>(hok b hb).1) (λb hb=>hfr b (by simp[hb])) h1,r2⟩
   ·intro m s2 hm hg2
    cases m with
    |zero=>
     simp only[aP,ak]at hg2
     subst hg2
     refine⟨0,c1,f1,rfl,by rw[e,<-eY h1];simp,h1,λb hb=>by simp[hb],λiO _=>by rw[<-eY h1];simp,?_⟩
     intro t z hz
     simp only[dB]at hz
     cases hz2:dB n b x.2 t with
     |none=>rw[hz2]at hz;simp at hz
     |some z2=>rw[hz2]at hz;simp only[ak]at hz;subst hz;rfl
    |succ m=>
     simp only[aP]at hg2
     obtain⟨off2,cs2,vT,g1,g2,g3,g4,g5,g6⟩:=hoth m s2 (by omega) hg2
     refine⟨a.size+off2,cs2,vT,by simp[bQ,g1],?_,g3,λb hb=>by simp[g4 b hb],?_,?_⟩
     ·rw[e,<-g2,<-eY h1,<-wO];simp
     ·intro iO hl'
      rw[<-g5 iO hl',<-eY h1,<-wO];simp
     ·intro t z hz
      simp only[dB]at hz
      cases hz2:dB n b x.2 t with
      |none=>rw[hz2]at hz;simp at hz
      |some z2=>rw[hz2]at hz;simp only[ak]at hz;subst hz;exact g6 t z2 hz2
  |_=>simp[aP]at hg
theorem amC:∀(n:Nat) {c:K} {x:El c} {s u y:Dat},aP n c x=some s->dB n c x u=some y->u.1.size=s.1.size->y.1.size=c.size:=by
 intro n
 induction n with
 |zero=>
  intro c x s u y h1 h2 e
  cases c with
  |pair a b=>simp only[aP,dB,ak]at h1 h2;subst h1;subst h2;simp only at e;simp[K.size,e]
  |_=>simp[aP]at h1
 |succ n ih=>
  intro c x s u y h1 h2 e
  cases c with
  |pair a b=>
   simp only[aP,dB]at h1 h2
   cases h3:dB n b x.2 u with
   |none=>rw[h3]at h2;simp at h2
   |some y2=>rw[h3]at h2;simp only[ak]at h2;subst h2;simp[K.size,ih h1 h3 e]
  |_=>simp[aP]at h1
theorem aaj:∀(n m:Nat) {c:K} {x:El c} {s u y:Dat} {off2:Nat} {k2:K},m≠n->aP n c x=some s->dB n c x u=some y->u.1.size=s.1.size->bQ m c=some (off2,k2)->bQ m y.1=some (off2,k2):=by
 intro n
 induction n with
 |zero=>
  intro m c x s u y off2 k2 hm h1 h2 e h3
  cases c with
  |pair a b=>
   simp only[aP,dB,ak]at h1 h2
   subst h1;subst h2
   cases m with
   |zero=>exact absurd rfl hm
   |succ m=>simp only[bQ]at h3 ⊢;simp only at e;rw[e];exact h3
  |_=>simp[aP]at h1
 |succ n ih=>
  intro m c x s u y off2 k2 hm h1 h2 e h3
  cases c with
  |pair a b=>
   simp only[aP,dB]at h1 h2
   cases h4:dB n b x.2 u with
   |none=>rw[h4]at h2;simp at h2
   |some y2=>
    rw[h4]at h2
    simp only[ak]at h2
    subst h2
    cases m with
    |zero=>simp only[bQ]at h3 ⊢;exact h3
    |succ m=>
     simp only[bQ]at h3 ⊢
     cases h5:bQ m b with
     |none=>rw[h5]at h3;simp at h3
     |some q=>
      rw[h5]at h3
      rw[ih m (off2:=q.1) (k2:=q.2) (by omega) h1 h4 e (by rw[h5])]
      exact h3
  |_=>simp[aP]at h1
theorem Kj{pre cs1 post:List Value}{off n:Nat}(h1:pre.length=off)(h2:cs1.length=n):((pre++(cs1++post)).drop off).take n=cs1:=by
 subst h1;subst h2;simp
theorem nk{A:Type}{l:List A}{d:A}{i:Nat}(h:i<l.length):l.getD i d=l[i]:=by
 rw[eP,fG h];rfl
theorem ahp{az:List (List Nat)}{i:Nat}(h:i<az.length):az.flatten.Perm (az.getD i []++((az.take i).flatten++(az.drop (i+1)).flatten)):=by
 have e:az=az.take i++(az.getD i [] :: az.drop (i+1)):=by
  rw[nk h,<-x_ h,Ab]
 have:az.flatten=(az.take i).flatten++(az.getD i []++(az.drop (i+1)).flatten):=by
  rw[congrArg List.flatten e];simp
 rw[this]
 exact Fa
theorem axt{az:List (List Nat)}{i:Nat}(h:i<az.length)(q:List Nat):(az.set i q).flatten.Perm (q++((az.take i).flatten++(az.drop (i+1)).flatten)):=by
 have h':i<(az.set i q).length:=by simpa using h
 have:=ahp h'
 rw[nk h',List.getElem_set_self]at this
 simpa[List.take_set_of_le,List.drop_set_of_lt]using this
theorem kg:∀(n:Nat) {c:K} {x:El c} {s:Dat},aP n c x=some s->aC.kC n c=some s.1:=by
 intro n
 induction n with
 |zero=>
  intro c x s e
  cases c with
  |pair a b=>simp only[aP,ak]at e;subst e;rfl
  |_=>simp[aP]at e
 |succ n ih=>
  intro c x s e
  cases c with
  |pair a b=>simp only[aP]at e;exact ih e
  |_=>simp[aP]at e
theorem WB{h h':Heap}{own:List TypeId}{ok:Nat->Prop}:∀(p:List Stp) {k:K} {x:El k} {cs:List Value} {fo:List Nat} {wh:Option (Nat×Nat)},
  Ow h own ok k x cs fo->bW p k x->(∀t∈aC p k,ay t own=true)->(∀b∈fo,h' b=h b)->aR h' p k cs wh=aR h p k cs wh:=by
 intro p
 induction p with
 |nil=>intro k x cs fo wh _ _ _ _;rfl
 |cons s p ih=>
  intro k x cs fo wh H hin xm hfo
  cases s with
  |aU n=>
   cases k with
   |st c=>
    simp only[bW]at hin
    cases hcg:aP n c x with
    |none=>rw[hcg]at hin;exact hin.elim
    |some s=>
     rw[hcg]at hin
     obtain⟨off,pre,cs0,post,fU,fr,ho,ec,hl,hp,hd,_⟩:=LH n (show Ow h own ok c x cs fo from H) hcg
     have hpt:aC (.aU n :: p) (.st c)=aC p s.1:=by simp[aC,kg n hcg]
     rw[hpt]at xm
     simp only[aR]
     rw[ho]
     simp only
     rw[ec,Kj hl (eY hd)]
     exact ih hd hin xm (λb hb=>hfo b (hp.mem_iff.2 (bV _ hb)))
   |_=>simp[bW]at hin
  |idx i=>
   cases k with
   |sl e k=>
    simp only[bW]at hin
    obtain⟨hi0,hi1,hin⟩:=hin
    have apC:i<((@List.length (El k) x:Nat):Int):=hi1
    have hlt:i.toNat < @List.length (El k) x:=by omega
    have eg:(show List (El k)from x).getD i.toNat k.zero=(show List (El k)from x)[i.toNat]'hlt:=nk hlt
    rw[eg]at hin
    unfold Ow at H
    rw[aj (xm e (by simp[aC]))]at H
    obtain⟨a,n,c,e1,e2,e3,H⟩:=H
    have e2':n=@List.length (El k) x:=e2
    rcases H with⟨h0,_⟩|⟨b,o,arr,lo,hi,ea,hb,hf,hs,az,hfl,hp,H⟩
    ·omega
    ·obtain⟨ds,hcd,hod⟩:=H i.toNat hlt
     have hbb:h' b=h b:=hfo b (hp.mem_iff.2 (by simp))
     have r1:=xN hcd
     have r2:=xN (hcd.congr hbb)
     rw[eY hod]at r1 r2
     subst e1
     subst ea
     simp only[aR]
     rw[r1,r2]
     exact ih hod hin (λt ht=>xm t (by simp[aC,ht])) (λb' hb'=>hfo b' (hp.mem_iff.2 (by simp[uN hb'])))
   |_=>simp[bW]at hin
def Ld(h h':Heap)(own:List TypeId)(k:K)(x:El k)(cs:List Value)(wh:Option (Nat×Nat))(z:Dat)(cs':List Value)(bad:List TypeId):Prop:=
 ∀q c0 w0,bW q k x->(∀t∈aC q k,ay t own=true/\t∉bad)->aR h q k cs wh=some (c0,w0)->(aD q z.1 z.2).isSome=true->bW q z.1 z.2/\∃c1,aR h' q z.1 cs' wh=some (c1,w0)
structure Upd(h:Heap)(own:List TypeId)(ok:Nat->Prop)(p:List Stp)(k:K)(x:El k)(cs:List Value)(wh:Option (Nat×Nat))(d:Dat)(rest:List Nat)(cs1:List Value)(cB:Option (Nat×Nat)):Prop where
 go:∀(h':Heap) (ok':Nat->Prop) (t:Dat) (iO:List Value) (kL:List Nat) (z:Dat),bO p k x t=some z->iO.length=d.1.size->Ow h' own ok' t.1 t.2 iO kL->
  (∀b,ok b->ok' b/\h' b=h b)->(∀b∈rest,cB.map (·.1)≠some b->h' b=h b)->
  (∀b o,cB=some (b,o)->Cells h' b o iO/\kQ h h' b o d.1.size)->
  (cB=none->iO=cs1)->(∀b o,wh=some (b,o)->cB.map (·.1)≠some b->h' b=h b)->
  ∃cs',cs'.length=cs.length/\Ow h' own ok' z.1 z.2 cs' (kL++rest)/\(∀b o,wh=some (b,o)->Cells h' b o cs')/\(wh=none->cs'=cs)/\
   ∀bad,t.1.size=d.1.size->Ld h h' own d.1 d.2 cs1 cB t iO bad->(t.1=d.1->z.1=k)/\z.1.size=k.size/\Ld h h' own k x cs wh z cs' bad/\aR h' p z.1 cs' wh=some (iO,cB)
def Gc(h:Heap)(own:List TypeId)(ok:Nat->Prop)(p:List Stp)(k:K)(x:El k)(cs:List Value)(fo:List Nat)(wh:Option (Nat×Nat))(d:Dat):Prop:=
 ∃cs1 aT rest cB,aR h p k cs wh=some (cs1,cB)/\fo.Perm (aT++rest)/\Ow h own ok d.1 d.2 cs1 aT/\(∀b o,cB=some (b,o)->Cells h b o cs1)/\
  (∀b o,cB=some (b,o)->(aC p k=[]/\∃o0,wh=some (b,o0)/\o0<=o/\o+d.1.size<=o0+k.size)\/
   (b∈rest/\∃arr e lo hi,h b=some (.cells arr e (lo,hi))/\iU arr.size lo hi/\(aC p k).getLast?=some e/\o+d.1.size<=arr.size))/\
  (cB=none->wh=none)/\Upd h own ok p k x cs wh d rest cs1 cB
theorem JO{wh:Option (Nat×Nat)}{off b o:Nat}(e:wh.map (λq=>(q.1,q.2+off))=some (b,o)):∃o0,wh=some (b,o0)/\o=o0+off:=by
 cases wh with
 |none=>simp at e
 |some q=>
  simp only[gq,ak,bS]at e
  exact⟨q.2,by rw[<-e.1],e.2.symm⟩
theorem aop{h:Heap}{own:List TypeId}{ok:Nat->Prop}{p:List Stp}{n:Nat}{c:K}{x:El c}{cs:List Value}{fo:List Nat}{wh:Option (Nat×Nat)}{s d:Dat}
  (H:Ow h own ok c x cs fo) (hc:∀b o,wh=some (b,o)->Cells h b o cs) (hcg:aP n c x=some s) (hnd:fo.Nodup) (hbase:∀b o,wh=some (b,o)->b∉fo)
  (ih:∀{cs0:List Value} {fU:List Nat} {wF:Option (Nat×Nat)},Ow h own ok s.1 s.2 cs0 fU->(∀b o,wF=some (b,o)->Cells h b o cs0)->fU.Nodup->(∀b o,wF=some (b,o)->b∉fU)->Gc h own ok p s.1 s.2 cs0 fU wF d) :
  Gc h own ok (.aU n :: p) (.st c) x cs fo wh d:=by
 obtain⟨off,pre,cs0,post,fU,fr,ho,ec,hl,hp,hd,hu,hoth⟩:=LH n H hcg
 have hsz:=eY hd
 have hpt:aC (.aU n :: p) (.st c)=aC p s.1:=by simp[aC,kg n hcg]
 have hnd':(fU++fr).Nodup:=hp.nodup hnd
 have hsub:(cs.drop off).take s.1.size=cs0:=by rw[ec];exact Kj hl hsz
 have hlen:cs.length=c.size:=eY H
 have sQ:off+s.1.size+post.length=c.size:=by rw[<-hlen,ec];simp[hl,hsz];omega
 obtain⟨cs1,aT,rest,cB,hn,hp1,hd1,hc1,hin1,hnone,hup⟩:=ih (wF:=wh.map λq=>(q.1,q.2+off)) hd
  (λb o e=>by
   obtain⟨o0,e1,rfl⟩:=JO e
   have:=hc b o0 e1
   rw[ec,Cells.append,Cells.append]at this
   rw[<-hl]
   exact this.2.1) (dJ.1 hnd').1
  (λb o e hb=>by
   obtain⟨o0,e1,rfl⟩:=JO e
   exact hbase b o0 e1 (hp.mem_iff.2 (bV _ hb)))
 have apt:∀b o,cB=some (b,o)->b∉fr:=by
  intro b o e hb
  rcases hin1 b o e with⟨_,o0,ew,_⟩|⟨h1,_⟩
  ·obtain⟨o1,e1,_⟩:=JO ew
   exact hbase b o1 e1 (hp.mem_iff.2 (bG _ hb))
  ·exact(dJ.1 hnd').2.2 b (hp1.mem_iff.2 (bG _ h1)) b hb rfl
 refine⟨cs1,aT,rest++fr,cB,?_,?_,hd1,hc1,?_,?_,⟨?_⟩⟩
 ·simp only[aR]
  rw[ho]
  simp only
  rw[hsub]
  exact hn
 ·rw[<-eG]
  exact hp.trans (wN _ hp1)
 ·intro b o e
  rw[hpt]
  rcases hin1 b o e with⟨h0,o0,ew,h1,h2⟩|⟨h1,h2⟩
  ·obtain⟨o1,e1,rfl⟩:=JO ew
   refine .inl ⟨h0,o1,e1,by omega,?_⟩
   show o+d.1.size<=o1+c.size
   omega
  ·exact .inr ⟨bV _ h1,h2⟩
 ·intro e
  have:=hnone e
  cases wh with
  |none=>rfl
  |some q=>simp at this
 ·intro h' ok' t iO kL z hz hl' ht hok hrest hw hcs hb0
  simp only[bO,hcg]at hz
  cases hs:bO p s.1 s.2 t with
  |none=>rw[hs]at hz;simp at hz
  |some u=>
   rw[hs]at hz
   simp only at hz
   cases hcp:dB n c x u with
   |none=>rw[hcp]at hz;simp at hz
   |some y=>
    rw[hcp]at hz
    simp only[ak]at hz
    subst hz
    obtain⟨LP,hl0,ho0,hc0,hn0,hnk⟩:=hup.go h' ok' t iO kL u hs hl' ht hok (λb hb=>hrest b (bV _ hb)) hw hcs
     (λb o e=>by
      obtain⟨o0,e1,_⟩:=JO e
      exact hb0 b o0 e1)
    have hfr:∀b∈fr,h' b=h b:=by
     intro b hb
     refine hrest b (bG _ hb) ?_
     intro e
     cases fM:cB with
     |none=>rw[fM]at e;simp at e
     |some q=>
      rw[fM]at e
      simp only[gq,ak]at e
      exact apt q.1 q.2 fM (e▸hb)
    have r:=hu h' ok' u LP (kL++rest) y hcp ho0 hok hfr
    refine⟨pre++(LP++post),by rw[ec];simp[hl0],?_,?_,?_,?_⟩
    ·have r':Ow h' own ok' y.1 y.2 (pre++(LP++post)) (kL++(rest++fr)):=by
      rw[show kL++(rest++fr)=kL++rest++fr from(eG ..).symm];exact r
     exact r'
    ·intro b o e
     have hwc:=hc b o e
     rw[ec,Cells.append,Cells.append]at hwc
     have hc0':=hc0 b (o+off) (by rw[e];rfl)
     rw[Cells.append,Cells.append,hl0,hsz,hl]
     have TC:=hwc.2.2
     rw[hsz,hl]at TC
     by_cases hbw:cB.map (·.1)=some b
     ·cases fM:cB with
      |none=>rw[fM]at hbw;simp at hbw
      |some q=>
       rw[fM]at hbw
       simp only[gq,ak]at hbw
       subst hbw
       have hsb:=(hw q.1 q.2 fM).2
       rcases hin1 q.1 q.2 fM with⟨_,o0,ew,g1,g2⟩|⟨h1,_⟩
       ·rw[e]at ew
        simp only[gq,ak,bS,true_and]at ew
        exact⟨hsb.cells hwc.1 (.inl (by omega)),hc0',hsb.cells TC (.inr (by omega))⟩
       ·exact absurd (hp.mem_iff.2 (bV _ (hp1.mem_iff.2 (bG _ h1)))) (hbase q.1 o e)
     ·have hbb:=hb0 b o e hbw
      exact⟨hwc.1.congr hbb,hc0',TC.congr hbb⟩
    ·intro e
     have:=hn0 (by rw[e];rfl)
     rw[this,ec]
    ·intro bad hkind mK
     obtain⟨n1,n3,n2,n4⟩:=hnk bad hkind mK
     refine⟨λe=>congrArg K.st (aak n hcg hcp (n1 e)),(show y.1.size=c.size from amC n hcg hcp n3),?_,by
      show aR h' (.aU n :: p) (.st y.1) _ _=_
      simp only[aR]
      rw[RF n ho hcp]
      simp only
      rw[Kj hl (eY ho0)]
      exact n4⟩
     intro q c0 w0 hq H6 ny DJ
     cases q with
     |nil=>
      simp only[aR,ak,bS]at ny ⊢
      exact⟨trivial,_,rfl,ny.2⟩
     |cons sq q=>
      cases sq with
      |idx i=>simp[bW]at hq
      |aU m=>
       simp only[bW]at hq
       cases hg2:aP m c x with
       |none=>rw[hg2]at hq;exact hq.elim
       |some s2=>
        rw[hg2]at hq
        have ap0:aC (.aU m :: q) (.st c)=aC q s2.1:=by simp[aC,kg m hg2]
        rw[ap0]at H6
        by_cases hmn:m=n
        ·subst hmn
         rw[hcg]at hg2
         simp only[ak]at hg2
         subst hg2
         simp only[aR]at ny
         rw[ho]at ny
         simp only at ny
         rw[hsub]at ny
         obtain⟨r1,c1,r2⟩:=n2 q c0 w0 hq H6 ny (by
          have:(aD (.aU m :: q) (.st y.1) y.2).isSome=true:=DJ
          simpa only[aD,GH m hcp]using this)
         refine⟨?_,c1,?_⟩
         ·show bW (.aU m :: q) (.st y.1) y.2
          simp only[bW,GH m hcp]
          exact r1
         ·show aR h' (.aU m :: q) (.st y.1) _ _=_
          simp only[aR]
          rw[RF m ho hcp]
          simp only
          rw[Kj hl (eY ho0)]
          exact r2
        ·obtain⟨off2,cs2,vT,g1,g2,g3,g4,g5,g6⟩:=hoth m s2 hmn hg2
         simp only[aR]at ny
         rw[g1]at ny
         simp only at ny
         rw[g2]at ny
         have g7:=g6 u y hcp
         refine⟨?_,c0,?_⟩
         ·show bW (.aU m :: q) (.st y.1) y.2
          simp only[bW,g7]
          exact hq
         ·show aR h' (.aU m :: q) (.st y.1) _ _=_
          simp only[aR]
          rw[aaj n m hmn hcg hcp n3 g1]
          simp only
          rw[g5 LP (by rw[hl0,hsz]),<-ny]
          exact WB q g3 hq (λt ht=>(H6 t ht).1) (λb hb=>hfr b (g4 b hb))
theorem aoq{h:Heap}{own:List TypeId}{ok:Nat->Prop}{p:List Stp}{i:Int}{e:TypeId}{k:K}{xs:List (El k)}{cs:List Value}{fo:List Nat}{wh:Option (Nat×Nat)}{d:Dat}
  (H:Ow h own ok (.sl e k) xs cs fo) (hc:∀b o,wh=some (b,o)->Cells h b o cs) (hnd:fo.Nodup) (hbase:∀b o,wh=some (b,o)->b∉fo) (hmem:ay e own=true) (hlt:i.toNat<xs.length)
  (ih:∀{cs0:List Value} {fU:List Nat} {wF:Option (Nat×Nat)},Ow h own ok k xs[i.toNat] cs0 fU->(∀b o,wF=some (b,o)->Cells h b o cs0)->fU.Nodup->(∀b o,wF=some (b,o)->b∉fU)->Gc h own ok p k xs[i.toNat] cs0 fU wF d) :
  Gc h own ok (.idx i :: p) (.sl e k) xs cs fo wh d:=by
 unfold Ow at H
 rw[aj hmem]at H
 obtain⟨a,n,c,e1,e2,e3,H⟩:=H
 have e2':n=xs.length:=e2
 rcases H with⟨h0,_⟩|⟨b,o,arr,lo,hi,ea,hb,hf,apd,az,hfl,hp,H⟩
 ·omega
 have apk:az.length=xs.length:=hfl
 obtain⟨ds,hcd,hod⟩:=H i.toNat hlt
 have hnd':(b :: az.flatten).Nodup:=hp.nodup hnd
 have hnb:b∉az.flatten:=(jO.1 hnd').1
 have hpk:=ahp (az:=az) (i:=i.toNat) (by omega)
 have lK:=hpk.nodup (jO.1 hnd').2
 obtain⟨cs1,aT,rest,cB,hn,hp1,hd1,hc1,hin1,hnone,hup⟩:=ih (wF:=some (b,o+i.toNat*k.size)) hod
  (λb' o' e'=>by
   simp only[ak,bS]at e'
   obtain⟨rfl,rfl⟩:=e'
   exact hcd) (dJ.1 lK).1
  (λb' o' e' hb'=>by
   simp only[ak,bS]at e'
   obtain⟨rfl,rfl⟩:=e'
   exact hnb (uN hb'))
 have hdl:ds.length=k.size:=eY hod
 have hwn:cB≠none:=λe'=>by have:=hnone e';simp at this
 generalize hR:(az.take i.toNat).flatten++(az.drop (i.toNat+1)).flatten=R at *
 have hcap:i.toNat*k.size+k.size<=c*k.size:=by
  have:(i.toNat+1)*k.size<=c*k.size:=jP _ (by omega)
  rw[iB,lT]at this
  exact this
 refine⟨cs1,aT,b :: (rest++R),cB,?_,?_,hd1,hc1,?_,λe'=>absurd e' hwn,⟨?_⟩⟩
 ·subst e1
  subst ea
  simp only[aR]
  have:iE h b (o+i.toNat*k.size) k.size=ds:=by
   have:=xN hcd
   rwa[hdl]at this
  rw[this]
  exact hn
 ·refine(hp.trans (.cons b (hpk.trans (wN _ hp1)))).trans ?_
  rw[eG]
  exact List.perm_middle.symm
 ·intro b' o' e'
  rcases hin1 b' o' e' with⟨hz,o0,ew,h1,h2⟩|⟨h1,fK,e'',lo',hi',g1,g2,g3,g4⟩
  ·simp only[ak,bS]at ew
   obtain⟨rfl,rfl⟩:=ew
   exact .inr ⟨jE,arr,e,lo,hi,hb,hf,by simp[aC,hz],by omega⟩
  ·refine .inr ⟨by simp[h1],fK,e'',lo',hi',g1,g2,?_,g4⟩
   simp only[aC,List.getLast?_cons,g3,su]
 ·intro h' ok' t iO kL z hz hl' ht hok hrest hw hcs hb0
  simp only[bO]at hz
  rw[nk hlt]at hz
  cases hs:bO p k xs[i.toNat] t with
  |none=>rw[hs]at hz;simp at hz
  |some u=>
   rw[hs]at hz
   simp only at hz
   cases hck:b_ u.1 k u.2 with
   |none=>rw[hck]at hz;simp at hz
   |some y=>
    rw[hck]at hz
    simp only[ak]at hz
    subst hz
    obtain⟨uk,ux⟩:=u
    unfold b_ at hck
    split at hck
    case isFalse=>simp at hck
    rename_i hbq
    have hk:=K.eq_of_beq hbq
    simp only at hk
    subst hk
    simp only[ak]at hck
    subst hck
    have hwb:∀q,cB=some q->q.1∉R:=by
     intro q hq hqR
     rcases hin1 q.1 q.2 hq with⟨_,o0,ew,_⟩|⟨h1,_⟩
     ·simp only[ak,bS]at ew
      exact hnb (hpk.mem_iff.2 (bG _ (ew.1▸hqR)))
     ·exact(dJ.1 lK).2.2 q.1 (hp1.mem_iff.2 (bG _ h1)) q.1 hqR rfl
    obtain⟨ds',hl0,ho0,hc0,_,hnk⟩:=hup.go h' ok' t iO kL ⟨uk,ux⟩ hs hl' ht hok (λb' hb'=>hrest b' (by simp[hb'])) hw hcs
     (λb' o' e' hne=>by
      simp only[ak,bS]at e'
      obtain⟨rfl,rfl⟩:=e'
      exact hrest b jE hne)
    have aoQ:∀b'∈R,h' b'=h b':=by
     intro b' hb'
     refine hrest b' (by simp[hb']) ?_
     intro e'
     cases fM:cB with
     |none=>exact absurd fM hwn
     |some q=>
      rw[fM]at e'
      simp only[gq,ak]at e'
      exact hwb q fM (e'▸hb')
    have hblk:∃fK,h' b=some (.cells fK e (lo,hi))/\fK.size=arr.size/\∀j,¬(o+i.toNat*uk.size<=j/\j<o+i.toNat*uk.size+uk.size)->fK[j]?=arr[j]?:=by
     by_cases hbw:cB.map (·.1)=some b
     ·cases fM:cB with
      |none=>exact absurd fM hwn
      |some q=>
       rw[fM]at hbw
       simp only[gq,ak]at hbw
       obtain⟨a1,a2,te,fr,g1,g2,g3,g4⟩:=(hw q.1 q.2 fM).2
       rw[hbw]at g1 g2
       rw[hb]at g1
       simp only[ak,Obj.cells.injEq]at g1
       obtain⟨rfl,rfl,rfl⟩:=g1
       rcases hin1 q.1 q.2 fM with⟨_,o0,ew,h1,h2⟩|⟨h1,_⟩
       ·simp only[ak,bS]at ew
        refine⟨a2,g2,g3,λj hj=>g4 j ?_⟩
        intro hj2
        exact hj (by omega)
       ·exact absurd (hpk.mem_iff.2 (bV _ (hp1.mem_iff.2 (bG _ (hbw▸h1))))) hnb
     ·have:=hrest b jE hbw
      exact⟨arr,this.trans hb,rfl,λ_ _=>rfl⟩
    obtain⟨fK,hb',hsz',hsame⟩:=hblk
    have hmul:∀a b:Nat,a<b->a*uk.size+uk.size<=b*uk.size:=by
     intro a b hab
     have:(a+1)*uk.size<=b*uk.size:=jP _ (by omega)
     rwa[iB,lT]at this
    have abZ:∀(j:Nat) (dj:List Value),j≠i.toNat->dj.length=uk.size->Cells h b (o+j*uk.size) dj->Cells h' b (o+j*uk.size) dj:=by
     intro j dj hji hjl h1 q hq
     have:=h1 q hq
     unfold cellAt at this ⊢
     rw[hb]at this
     rw[hb']
     simp only at this ⊢
     rw[hsame _ (by
      rcases Nat.lt_or_gt_of_ne hji with hlt'|abL
      ·have:=hmul j i.toNat hlt';omega
      ·have:=hmul i.toNat j abL;omega)]
     exact this
    have ab0:∀j,j≠i.toNat->∀q∈az.getD j [],h' q=h q:=by
     intro j hji q hq
     refine aoQ q ?_
     rw[<-hR]
     by_cases hjf:j<az.length
     ·rw[eP,fG hjf]at hq
      simp only[su]at hq
      rcases Nat.lt_or_gt_of_ne hji with hlt'|abL
      ·exact bV _ (K_.2 ⟨az[j],List.mem_take_iff_getElem.2 ⟨j,by omega,rfl⟩,hq⟩)
      ·refine bG _ (K_.2 ⟨az[j],List.mem_drop_iff_getElem.2 ⟨j-(i.toNat+1),by omega,?_⟩,hq⟩)
       congr 1
       omega
     ·rw[eP,pY (by omega)]at hq
      simp at hq
    refine⟨cs,rfl,?_,?_,λ_=>rfl,?_⟩
    ·unfold Ow
     rw[aj hmem]
     refine⟨a,n,c,e1,by rw[e2'];simp,e3,.inr ⟨b,o,fK,lo,hi,ea,hb',by rw[hsz'];exact hf,by rw[hsz'];exact apd,az.set i.toNat (kL++rest),by simp[apk],?_,?_⟩⟩
     ·have:=axt (az:=az) (i:=i.toNat) (by omega) (kL++rest)
      rw[hR,eG]at this
      exact(List.perm_middle.trans (.cons b this.symm))
     ·intro j hj
      have hj':j<xs.length:=by simpa using hj
      by_cases hji:j=i.toNat
      ·subst hji
       refine⟨ds',hc0 b _ rfl,?_⟩
       have e1:(xs.set i.toNat ux)[i.toNat]'(by simpa using hj')=ux:=by simp
       have e2:(az.set i.toNat (kL++rest)).getD i.toNat []=kL++rest:=by
        rw[nk (by simp;omega)];simp
       rw[e2]
       show Ow h' own ok' uk ((xs.set i.toNat ux)[i.toNat]'(by simpa using hj')) ds' _
       rw[e1]
       exact ho0
      ·obtain⟨dj,h1,h2⟩:=H j hj'
       have hjl:dj.length=uk.size:=eY h2
       refine⟨dj,abZ j dj hji hjl h1,?_⟩
       have e1:(xs.set i.toNat ux)[j]'(by simpa using hj')=xs[j]:=by
        rw[List.getElem_set_ne (by omega)]
       have e2:(az.set i.toNat (kL++rest)).getD j []=az.getD j []:=by
        rw[eP,eP,List.getElem?_set_ne (by omega)]
       rw[e2]
       show Ow h' own ok' uk ((xs.set i.toNat ux)[j]'(by simpa using hj')) dj _
       rw[e1]
       exact dR (λb hb=>(hok b hb).2) (λb hb=>(hok b hb).1) (ab0 j hji) h2
    ·intro b' o' e'
     have hcb:=hc b' o' e'
     by_cases hbw:cB.map (·.1)=some b'
     ·cases fM:cB with
      |none=>exact absurd fM hwn
      |some q=>
       rw[fM]at hbw
       simp only[gq,ak]at hbw
       have hbf:=hbase b' o' e'
       rcases hin1 q.1 q.2 fM with⟨_,o0,ew,_⟩|⟨h1,_⟩
       ·simp only[ak,bS]at ew
        exact absurd (hp.mem_iff.2 (by rw[<-hbw,<-ew.1];exact jE)) hbf
       ·exact absurd (hp.mem_iff.2 (jD _ (hpk.mem_iff.2 (bV _ (hp1.mem_iff.2 (bG _ (hbw▸h1))))))) hbf
     ·exact hcb.congr (hb0 b' o' e' hbw)
    ·intro bad hkind mK
     obtain⟨_,_,n2,n4⟩:=hnk bad hkind mK
     refine⟨λ_=>rfl,rfl,?_,by
      subst e1
      subst ea
      simp only[aR]
      have hr':iE h' b (o+i.toNat*uk.size) uk.size=ds':=by
       have:=xN (hc0 b _ rfl)
       rwa[hl0,hdl]at this
      rw[hr']
      exact n4⟩
     intro q c0 w0 hq H6 ny DJ
     cases q with
     |nil=>exact⟨trivial,_,by rw[<-(show(cs,wh)=(c0,w0)from by simpa[aR]using ny)];rfl⟩
     |cons sq q=>
      cases sq with
      |aU m=>simp[bW]at hq
      |idx j=>
       simp only[bW]at hq
       obtain⟨hj0,hj1,hq⟩:=hq
       have apD:j<(xs.length:Int):=hj1
       have hjl:j.toNat<xs.length:=by omega
       have ejx:(show List (El uk)from xs).getD j.toNat uk.zero=xs[j.toNat]:=nk hjl
       rw[ejx]at hq
       subst e1
       subst ea
       simp only[aR]at ny
       have ab8:∀t∈aC q uk,ay t own=true/\t∉bad:=λt ht=>H6 t (by simp[aC,ht])
       have hln:j<((xs.set i.toNat ux).length:Int):=by simpa using apD
       by_cases hji:j.toNat=i.toNat
       ·have hr:iE h b (o+j.toNat*uk.size) uk.size=ds:=by
         rw[hji]
         have:=xN hcd
         rwa[hdl]at this
        rw[hr,hji]at ny
        have hq':bW q uk xs[i.toNat]:=by
         have:xs[j.toNat]=xs[i.toNat]:=by congr 1
         rw[<-this];exact hq
        obtain⟨r1,c1,r2⟩:=n2 q c0 w0 hq' ab8 ny (by
         have:(aD (.idx j :: q) (.sl e uk) (xs.set i.toNat ux)).isSome=true:=DJ
         simp only[aD]at this
         have e3:(show List (El uk)from xs.set i.toNat ux).getD j.toNat uk.zero=ux:=by
          rw[hji,nk (by simpa using hlt)];simp
         rw[e3]at this
         exact this)
        refine⟨⟨hj0,hln,?_⟩,c1,?_⟩
        ·have:(show List (El uk)from xs.set i.toNat ux).getD j.toNat uk.zero=ux:=by
          rw[hji,nk (by simpa using hlt)];simp
         rw[this]
         exact r1
        ·simp only[aR]
         have hr':iE h' b (o+j.toNat*uk.size) uk.size=ds':=by
          rw[hji]
          have:=xN (hc0 b _ rfl)
          rwa[hl0,hdl]at this
         rw[hr',hji]
         exact r2
       ·obtain⟨dj,h1,h2⟩:=H j.toNat hjl
        have SY:dj.length=uk.size:=eY h2
        have hr:iE h b (o+j.toNat*uk.size) uk.size=dj:=by
         have:=xN h1
         rwa[SY]at this
        have hr':iE h' b (o+j.toNat*uk.size) uk.size=dj:=by
         have:=xN (abZ j.toNat dj hji SY h1)
         rwa[SY]at this
        rw[hr]at ny
        refine⟨⟨hj0,hln,?_⟩,c0,?_⟩
        ·have:(show List (El uk)from xs.set i.toNat ux).getD j.toNat uk.zero=xs[j.toNat]:=by
          rw[nk (by simpa using hjl),List.getElem_set_ne (by omega)]
         rw[this]
         exact hq
        ·simp only[aR]
         rw[hr',<-ny]
         exact WB q h2 hq (λt ht=>(ab8 t ht).1) (ab0 j.toNat hji)
theorem focus{h:Heap}{own:List TypeId}{ok:Nat->Prop}:∀(p:List Stp) {k:K} {x:El k} {cs:List Value} {fo:List Nat} {wh:Option (Nat×Nat)} {d:Dat},
  Ow h own ok k x cs fo->(∀b o,wh=some (b,o)->Cells h b o cs)->aD p k x=some d->bW p k x->(∀t∈aC p k,ay t own=true)->fo.Nodup->(∀b o,wh=some (b,o)->b∉fo)->
   Gc h own ok p k x cs fo wh d:=by
 intro p
 induction p with
 |nil=>
  intro k x cs fo wh d H hc hg _ _ _ _
  simp only[aD,ak]at hg
  subst hg
  refine⟨cs,fo,[],wh,rfl,by simp,H,hc,λb o e=>.inl ⟨rfl,o,e,bZ _,bZ _⟩,id,⟨?_⟩⟩
  intro h' ok' t iO kL z hz hl ht _ _ hw hn _
  simp only[bO,ak]at hz
  subst hz
  exact⟨iO,by rw[hl,eY H],by simpa using ht,λb o e=>(hw b o e).1,hn,λbad hk mK=>⟨id,hk,mK,rfl⟩⟩
 |cons s p ih=>
  intro k x cs fo wh d H hc hg hin xm hnd hbase
  cases s with
  |aU n=>
   cases k with
   |st c=>
    simp only[aD]at hg
    cases hcg:aP n c x with
    |none=>rw[hcg]at hg;simp at hg
    |some s=>
     rw[hcg]at hg
     simp only at hg
     simp only[bW,hcg]at hin
     have hpt:aC (.aU n :: p) (.st c)=aC p s.1:=by simp[aC,kg n hcg]
     rw[hpt]at xm
     exact aop (show Ow h own ok c x cs fo from H) hc hcg hnd hbase (λH0 hc0 pE hb0=>ih H0 hc0 hg hin xm pE hb0)
   |_=>simp[aD]at hg
  |idx i=>
   cases k with
   |sl e k=>
    simp only[aD]at hg
    simp only[bW]at hin
    obtain⟨hi0,hi1,hin⟩:=hin
    have apC:i<((@List.length (El k) x:Nat):Int):=hi1
    have hlt:i.toNat < @List.length (El k) x:=by omega
    have eg:(show List (El k)from x).getD i.toNat k.zero=(show List (El k)from x)[i.toNat]'hlt:=nk hlt
    rw[eg]at hin hg
    exact aoq (xs:=x) H hc hnd hbase (xm e (by simp[aC])) hlt (λH0 hc0 pE hb0=>ih H0 hc0 hg hin (λt ht=>xm t (by simp[aC,ht])) pE hb0)
   |_=>simp[aD]at hg
end
section
open Go
variable [Fr]
def Prog.ends{J:Type}:Prog J->St->J->Prop
 |.ret a,_,x=>x=a
 |.fail,_,_=>False
 |.slot n k,Z,x=>(k (Z.slots n)).ends Z x
 |.root r k,Z,x=>(k (Z.roots r)).ends Z x
 |.dX c _ k,Z,x=>c/\k.ends Z x
 |.br c t e,Z,x=>(c=true/\t.ends Z x)\/(c=false/\e.ends Z x)
 |.opt _ o k,Z,x=>∃b,o=some b/\(k b).ends Z x
theorem zA{J R:Type}(p:Prog J){Z:St}{K:J->Option R}{r:R}(h:p.run Z K=some r):∃x,p.ends Z x/\K x=some r:=by
 induction p with
 |ret a=>exact⟨a,rfl,h⟩
 |fail=>simp[Prog.run]at h
 |slot n k ih=>exact ih _ h
 |root n k ih=>exact ih _ h
 |dX c d k ih=>
  simp only[Prog.run]at h
  split at h
  ·rename_i hc
   obtain⟨x,h1,h2⟩:=ih h
   exact⟨x,⟨hc,h1⟩,h2⟩
  ·simp at h
 |br c t e qj qi=>
  simp only[Prog.run]at h
  split at h
  ·rename_i hc
   obtain⟨x,h1,h2⟩:=qj h
   exact⟨x,.inl ⟨hc,h1⟩,h2⟩
  ·rename_i hc
   obtain⟨x,h1,h2⟩:=qi h
   exact⟨x,.inr ⟨by simpa using hc,h1⟩,h2⟩
 |opt β o k ih=>
  simp only[Prog.run]at h
  cases ho:o with
  |none=>rw[ho]at h;simp at h
  |some b=>
   rw[ho]at h
   obtain⟨x,h1,h2⟩:=ih b h
   exact⟨x,⟨b,rfl,h1⟩,h2⟩
def dO:K->List Value
 |.int ik=>[.int ik 0]
 |.bool=>[.bool false]
 |.str=>[.string ByteArray.empty]
 |.sl _ _=>[.slice none 0 0]
 |.id _=>[.slice none 0 0]
 |.unit=>[]
 |.pair a b=>dO a++dO b
 |.st f=>dO f
 |.gap _=>[]
def iY:K->Value
 |.st f=>.agg (dO f).toArray
 |.int ik=>.int ik 0
 |.bool=>.bool false
 |.str=>.string ByteArray.empty
 |.sl _ _=>.slice none 0 0
 |.id _=>.slice none 0 0
 |_=>undef
def ry(P:Program)(t:TypeId)(k:K):Prop:=∃i,P.info? t=some i/\i.size=k.size/\i.zero=some (iY k)
def jc(P:Program)(T:bK):K->(TypeId->Prop)×(List Field->Nat->Prop)
 |.int ik=>(λt=>P.underlying t=some (.int ik)/\ry P t (.int ik),λ_ _=>False)
 |.bool=>(λt=>P.underlying t=some .bool/\ry P t .bool,λ_ _=>False)
 |.str=>(λt=>P.underlying t=some .string/\ry P t .str,λ_ _=>False)
 |.sl e k=>(λt=>P.underlying t=some (.slice e)/\ry P t (.sl e k)/\(jc P T k).1 e/\0<k.size/\∃i,P.info? e=some i/\i.bytes=T.bytes e/\0<i.bytes,λ_ _=>False)
 |.unit=>(λ_=>False,λfs _=>fs=[])
 |.pair a b=>(λ_=>False,λfs off=>match fs with
  | []=>False
  |f :: fs=>f.offset=off/\(jc P T a).1 f.type/\0<a.size/\(jc P T b).2 fs (off+a.size))
 |.st c=>(λt=>(∃fs,P.underlying t=some (.struct fs)/\(jc P T c).2 fs.toList 0)/\ry P t (.st c),λ_ _=>False)
 |.gap _=>(λ_=>False,λ_ _=>False)
 |.id e=>(λt=>P.underlying t=some (.slice e)/\ry P t (.id e)/\T.ids=true,λ_ _=>False)
def dz(P:Program)(T:bK)(t:TypeId)(k:K):Prop:=(jc P T k).1 t
structure eU(P:Program)(T:bK):Prop where
 ty:∀t k,T.ty t=some k->dz P T t k
 ptr:∀t,T.ptr t=true->∃e,P.underlying t=some (.pointer e)
theorem dz.info{P:Program}{T:bK}{t:TypeId}{k:K}(h:dz P T t k):ry P t k:=by
 unfold dz jc at h
 cases k with
 |int ik=>exact h.2
 |bool=>exact h.2
 |id e=>exact h.2.1
 |str=>exact h.2
 |sl e k=>exact h.2.1
 |unit=>exact h.elim
 |pair a b=>exact h.elim
 |st c=>exact h.2
 |gap n=>exact h.elim
def VC(k:K)(v:Value)(cs:List Value):Prop:=match k with
 |.st _=>v=.agg cs.toArray
 |_=>cs=[v]/\∀x,v≠.agg x
theorem VC.cells{k:K}{v:Value}{cs:List Value}(h:VC k v cs):v.cells.toList=cs:=by
 unfold VC at h
 split at h
 ·subst h;simp[Value.cells]
 ·obtain⟨rfl,hn⟩:=h
  cases v<;>first|rfl|(exact absurd rfl (hn _))
def jV:K->Bool
 |.st _=>true
 |_=>false
theorem dz.isAgg{P:Program}{T:bK}{t:TypeId}{k:K}(h:dz P T t k)(w:World):(Go.isAgg t).run P w=.ok (jV k) w:=by
 unfold dz jc at h
 cases k with
 |int ik=>simp[Go.isAgg,gG h.1,jV]
 |bool=>simp[Go.isAgg,gG h.1,jV]
 |id e=>simp[Go.isAgg,gG h.1,jV]
 |str=>simp[Go.isAgg,gG h.1,jV]
 |sl e k=>simp[Go.isAgg,gG h.1,jV]
 |unit=>exact h.elim
 |pair a b=>exact h.elim
 |st c=>obtain⟨⟨fs,h1,_⟩,_⟩:=h;simp[Go.isAgg,gG h1,jV]
 |gap n=>exact h.elim
theorem ry.sizeOf{P:Program}{t:TypeId}{k:K}(h:ry P t k)(w:World):(Go.sizeOf t).run P w=.ok k.size w:=by
 obtain⟨i,h1,h2,_⟩:=h
 simp[Go.sizeOf,run_typeInfo w h1,h2]
theorem ry.zero{P:Program}{t:TypeId}{k:K}(h:ry P t k)(w:World):(Go.zeroValue t).run P w=.ok (iY k) w:=by
 obtain⟨i,h1,_,h3⟩:=h
 simp[Go.zeroValue,run_typeInfo w h1,h3]
theorem addr_add(b o n:Nat):(⟨b,o,none⟩:Addr).add n=⟨b,o+n,none⟩:=by unfold Addr.add;split<;>simp_all
theorem Fu{P:Program}{T:bK}{t:TypeId}{k:K}{w:World}{b o:Nat}{cs:List Value}{v:Value}(h:dz P T t k)(hc:Cells (hp w) b o cs)(hl:cs.length=k.size)(hv:VC k v cs) :
  (Instr.loadAt t (.pointer (some ⟨b,o,none⟩))).run P w=.ok v w:=by
 have hcell:∀j u,cs[j]?=some u->w.cell? ((⟨b,o,none⟩:Addr).add j)=some u:=by
  intro j u hj
  rw[addr_add,vN,hc j (oh.1 hj).1]
  exact hj
 unfold Instr.loadAt Instr.sureAddr loadVar
 simp only[dH,eH,Result.andThen,h.isAgg w]
 cases k with
 |st c=>
  have e:v=.agg cs.toArray:=hv
  have h2:=run_loadCells_list (P:=P) w ⟨b,o,none⟩ cs hcell
  rw[hl]at h2
  simp[jV,h.info.sizeOf w,h2,Result.andThen,e]
 |unit=>exact(show False from h).elim
 |pair a b=>exact(show False from h).elim
 |gap n=>exact(show False from h).elim
 |int ik=>
  obtain⟨e,_⟩:cs=[v]/\_:=hv
  have:=hcell 0 v (by rw[e];rfl)
  rw[addr_add,mD]at this
  simp[jV,this]
 |bool=>
  obtain⟨e,_⟩:cs=[v]/\_:=hv
  have:=hcell 0 v (by rw[e];rfl)
  rw[addr_add,mD]at this
  simp[jV,this]
 |id e=>
  obtain⟨e,_⟩:cs=[v]/\_:=hv
  have:=hcell 0 v (by rw[e];rfl)
  rw[addr_add,mD]at this
  simp[jV,this]
 |str=>
  obtain⟨e,_⟩:cs=[v]/\_:=hv
  have:=hcell 0 v (by rw[e];rfl)
  rw[addr_add,mD]at this
  simp[jV,this]
 |sl e k=>
  obtain⟨e,_⟩:cs=[v]/\_:=hv
  have:=hcell 0 v (by rw[e];rfl)
  rw[addr_add,mD]at this
  simp[jV,this]
def fD:K->Bool
 |.gap _=>false
 |.pair a b=>fD a&&fD b
 |.st f=>fD f
 |_=>true
theorem jc.fD{P:Program}{T:bK}:∀{k:K},(∀t,(jc P T k).1 t->Ow.fD k=true)/\(∀fs off,(jc P T k).2 fs off->Ow.fD k=true):=by
 intro k
 induction k with
 |int ik=>exact⟨λ_ _=>rfl,λ_ _ h=>h.elim⟩
 |bool=>exact⟨λ_ _=>rfl,λ_ _ h=>h.elim⟩
 |id e=>exact⟨λ_ _=>rfl,λ_ _ h=>h.elim⟩
 |str=>exact⟨λ_ _=>rfl,λ_ _ h=>h.elim⟩
 |sl e k ih=>exact⟨λ_ _=>rfl,λ_ _ h=>h.elim⟩
 |unit=>exact⟨λ_ h=>h.elim,λ_ _ _=>rfl⟩
 |pair a b iha ihb=>
  refine⟨λ_ h=>h.elim,λfs off h=>?_⟩
  cases fs with
  |nil=>exact h.elim
  |cons f fs=>simp[Ow.fD,iha.1 _ h.2.1,ihb.2 _ _ h.2.2.2]
 |st f ih=>exact⟨λt h=>by obtain⟨⟨fs,_,h⟩,_⟩:=h;exact ih.2 _ _ h,λ_ _ h=>h.elim⟩
 |gap n=>exact⟨λ_ h=>h.elim,λ_ _ h=>h.elim⟩
theorem dz.fD{P:Program}{T:bK}{t:TypeId}{k:K}(h:dz P T t k):Ow.fD k=true:=jc.fD.1 t h
theorem Lp{h:Heap}{ok:Nat->Prop}:∀{k:K} {x:El k} {cs:List Value},fD k=true->Vw h ok k x cs->∀v∈cs,v.oneCell'=true:=by
 intro k
 induction k with
 |int ik=>intro x cs _ H v hv;rw[H.1]at hv;simp at hv;subst hv;rfl
 |bool=>intro x cs _ H v hv;rw[show cs=_ from H]at hv;simp at hv;subst hv;rfl
 |id e=>intro x cs _ H v hv;rw[show cs=_ from H]at hv;simp only[gY]at hv;subst hv;obtain⟨a,n,c,h⟩:=Fr.acn x;rw[h];rfl
 |str=>intro x cs _ H v hv;obtain⟨B,rfl,_⟩:=H;simp at hv;subst hv;rfl
 |sl e k ih=>intro x cs _ H v hv;obtain⟨a,n,c,rfl,_⟩:=H;simp at hv;subst hv;rfl
 |unit=>intro x cs _ H v hv;rw[show cs=_ from H]at hv;simp at hv
 |pair a b iha ihb=>
  intro x cs hg H v hv
  simp[fD]at hg
  obtain⟨c1,c2,rfl,h1,h2⟩:=H
  rcases dh.1 hv with h|h
  ·exact iha hg.1 h1 v h
  ·exact ihb hg.2 h2 v h
 |st f ih=>intro x cs hg H;exact ih (x:=x) hg H
 |gap n=>intro x cs hg;simp[fD]at hg
theorem Le{h:Heap}{own:List TypeId}{ok:Nat->Prop}{k:K}{x:El k}{cs:List Value}{fo:List Nat}(hg:fD k=true)(H:Ow h own ok k x cs fo):∀v∈cs,v.oneCell'=true:=
 Lp hg (oV (λ_=>True) (λ_ _=>trivial) (λ_ _=>trivial) H)
theorem VC.mk{h:Heap}{ok:Nat->Prop}{k:K}{x:El k}{cs:List Value}(hk:∀a b,k≠.pair a b)(hu:k≠.unit)(hg:∀n,k≠.gap n)(H:Vw h ok k x cs):∃v,VC k v cs:=by
 cases k with
 |int ik=>exact⟨.int ik x,H.1,by simp⟩
 |bool=>exact⟨.bool x,H,by simp⟩
 |id e=>obtain⟨a,n,c,h⟩:=Fr.acn x;exact⟨Fr.DX x,H,by rw[h];simp⟩
 |str=>obtain⟨B,e,_⟩:=H;exact⟨.string B,e,by simp⟩
 |sl e k=>obtain⟨a,n,c,e,_⟩:=H;exact⟨.slice a n c,e,by simp⟩
 |unit=>exact absurd rfl hu
 |pair a b=>exact absurd rfl (hk a b)
 |st c=>exact⟨.agg cs.toArray,rfl⟩
 |gap n=>exact absurd rfl (hg n)
theorem ab3(w:World)(o:Obj)(b:Nat):hp (w.alloc o) b=if b=w.heap.size then some o else hp w b:=by
 show(w.heap.push o)[b]?=_
 rw[Array.getElem?_push]
 rfl
theorem Bc(w:World)(o:Obj){b:Nat}(h:b<w.heap.size):hp (w.alloc o) b=hp w b:=by
 rw[ab3,ah (by omega)]
theorem DI(w:World)(o:Obj):hp (w.alloc o) w.heap.size=some o:=by
 rw[ab3,aj rfl]
theorem apW{w:World}{b:Nat}{o:Obj}(h:hp w b=some o):b<w.heap.size:=(Array.getElem?_eq_some_iff.1 h).1
theorem ax_(w:World)(b o:Nat)(v:Value){b':Nat}(h:b'≠b):hp (w.setCell ⟨b,o,none⟩ v) b'=hp w b':=by
 simp only[hp,World.setCell,PG]
 rw[ah (by omega)]
theorem aya(w:World)(b o:Nat)(v:Value){arr:Array Value}{e:TypeId}{fr:Nat×Nat}(h:hp w b=some (.cells arr e fr)) :
  hp (w.setCell ⟨b,o,none⟩ v) b=some (.cells (arr.setIfInBounds o v) e fr):=by
 have h':w.heap[b]?=some (.cells arr e fr):=h
 simp[hp,World.setCell,PG,h']
theorem Fv(b:Nat):∀(vs:List Value) (w:World) (arr:Array Value) (e:TypeId) (fr:Nat×Nat) (o:Nat),hp w b=some (.cells arr e fr)->o+vs.length<=arr.size->
  (∀b',b'≠b->hp (w.setCells b o vs) b'=hp w b')/\(w.setCells b o vs).heap.size=w.heap.size/\
  ∃fK,hp (w.setCells b o vs) b=some (.cells fK e fr)/\fK.size=arr.size/\(∀i,i<vs.length->fK[o+i]?=vs[i]?)/\∀i,¬(o<=i/\i<o+vs.length)->fK[i]?=arr[i]?:=by
 intro vs
 induction vs with
 |nil=>intro w arr e fr o hb _;exact⟨λ_ _=>rfl,rfl,arr,hb,rfl,λi hi=>by simp at hi,λ_ _=>rfl⟩
 |cons v vs ih=>
  intro w arr e fr o hb hl
  simp only[iy]at hl
  have h1:=aya w b o v hb
  obtain⟨g1,g2,fK,g3,g4,g5,g6⟩:=ih (w.setCell ⟨b,o,none⟩ v) _ e fr (o+1) h1 (by simp;omega)
  refine⟨λb' hb'=>(g1 b' hb').trans (ax_ w b o v hb'),by rw[World.setCells,g2];simp[World.setCell],fK,g3,by rw[g4];simp,?_,?_⟩
  ·intro i hi
   simp only[iy]at hi
   cases i with
   |zero=>
    rw[g6 _ (by omega)]
    simp only[mD,rA]
    rw[XL (by omega)]
   |succ i=>
    rw[show o+(i+1)=o+1+i from by omega,g5 i (by omega)]
    simp
  ·intro i hi
   simp only[iy]at hi
   rw[g6 i (by omega),XK (by omega)]
theorem Fw(b:Nat):∀(vs:List Value) (w:World) (o:Nat),(w.setCells b o vs).os=w.os/\(w.setCells b o vs).tape=w.tape/\(w.setCells b o vs).output=w.output:=by
 intro vs
 induction vs with
 |nil=>intro w o;exact⟨rfl,rfl,rfl⟩
 |cons v vs ih=>intro w o;exact ih (w.setCell ⟨b,o,none⟩ v) (o+1)
theorem J9{P:Program}{w:World}{b o:Nat}{arr:Array Value}{e:TypeId}{lo hi:Nat}(vs:List Value)(hb:hp w b=some (.cells arr e (lo,hi)))(hf:iU arr.size lo hi)
  (hl:o+vs.length<=arr.size) (h1:∀v∈vs,v.oneCell'=true):(storeCells ⟨b,o,none⟩ vs).run P w=.ok () (w.setCells b o vs):=by
 have:=run_storeCells_cells (P:=P) b o vs 0 w (λj hj=>by
   rw[vN]
   unfold cellAt
   rw[hb]
   simp only[mD]
   rw[Array.getElem?_eq_getElem (by omega)]
   rfl) (λj hj=>by
   unfold World.frozen?
   have hb':w.heap[b]?=some (.cells arr e (lo,hi)):=hb
   simp only[hb',mD]
   have:=hf (o+j) (by omega)
   simp
   omega) h1
 simpa using this
theorem aik{P:Program}{T:bK}{t:TypeId}{k:K}{w:World}{b o:Nat}{cs:List Value}{v:Value}{arr:Array Value}{e:TypeId}{lo hi:Nat}(h:dz P T t k)(hb:hp w b=some (.cells arr e (lo,hi)))
  (hf:iU arr.size lo hi) (hl:cs.length=k.size) (hs:o+k.size<=arr.size) (hv:VC k v cs) (h1:∀v∈cs,v.oneCell'=true) :
  (Instr.storeAt t (.pointer (some ⟨b,o,none⟩)) v).run P w=.ok () (w.setCells b o cs):=by
 have hc:=hv.cells
 have hsz:v.cells.size=k.size:=by rw[<-hl,<-hc];simp
 unfold Instr.storeAt Instr.sureAddr storeVar
 simp only[dH,eH,Result.andThen,h.info.sizeOf w,Sem.run_ite]
 rw[ah (by rw[hsz];simp)]
 rw[hc]
 exact J9 cs hb hf (by omega) h1
theorem aij{P:Program}(t:TypeId)(v:Value)(w:World):(newVar t v).run P w=.ok ⟨w.heap.size,0,none⟩ (w.alloc (.cells v.cells t)):=by
 simp[newVar,newRow]
theorem aie{P:Program}(t:TypeId)(v:Value)(w:World):(Instr.box t v).run P w=.ok (.pointer (some ⟨w.heap.size,0,none⟩)) (w.alloc (.cells v.cells t)):=by
 simp[Instr.box,aij,Result.andThen]
theorem axY{P:Program}{T:bK}{t:TypeId}{k:K}(h:dz P T t k)(w:World):(Instr.alloc t true (.tuple #[])).run P w=.ok (.pointer (some ⟨w.heap.size,0,none⟩)) (w.alloc (.cells (iY k).cells t)):=by
 simp[Instr.alloc,h.info.zero w,aij,Result.andThen]
theorem ai5:∀{k:K},(∀a b,k≠.pair a b)->k≠.unit->(∀n,k≠.gap n)->VC k (iY k) (dO k):=by
 intro k h1 h2 h3
 cases k with
 |int ik=>exact⟨rfl,by simp[iY]⟩
 |bool=>exact⟨rfl,by simp[iY]⟩
 |id e=>exact⟨rfl,by simp[iY]⟩
 |str=>exact⟨rfl,by simp[iY]⟩
 |sl e k=>exact⟨rfl,by simp[iY]⟩
 |unit=>exact absurd rfl h2
 |pair a b=>exact absurd rfl (h1 a b)
 |st c=>rfl
 |gap n=>exact absurd rfl (h3 n)
theorem Kn{h:Heap}{own:List TypeId}{ok:Nat->Prop}:∀{k:K},fD k=true->(∀t∈k.tys,ay t own=true)->Ow h own ok k k.zero (dO k) []:=by
 intro k
 induction k with
 |int ik=>intro _ _;exact⟨rfl,rfl,by cases ik<;>simp[lq,K.zero]⟩
 |bool=>intro _ _;exact⟨rfl,rfl⟩
 |id e=>intro _ _;exact⟨rfl,by show _=[Fr.DX 0];rw[Fr.acm];rfl⟩
 |str=>intro _ _;exact⟨rfl,ByteArray.empty,rfl,rfl⟩
 |sl e k ih=>
  intro _ ht
  unfold Ow
  rw[aj (ht e (by simp[K.tys]))]
  exact⟨none,0,0,rfl,rfl,bZ _,.inl ⟨rfl,rfl⟩⟩
 |unit=>intro _ _;exact⟨rfl,rfl⟩
 |pair a b iha ihb=>
  intro hg ht
  simp[fD]at hg
  exact⟨dO a,dO b,[],[],rfl,.refl _,iha hg.1 (λt h=>ht t (by simp[K.tys,h])),ihb hg.2 (λt h=>ht t (by simp[K.tys,h]))⟩
 |st f ih=>intro hg ht;exact ih hg ht
 |gap n=>intro hg;simp[fD]at hg
end
section
open Go
variable [Fr]
structure Lh where
 base:Option (Nat×Nat×Nat)
 bl:List Nat
 kp:Bool
structure Cx where
 nt:Nat
 w0:World
 ext:Nat->Nat->Prop
 par:Nat->Option Lh
 ptrs:Nat->List Stp->List TypeId->Value->Prop
 refs:Nat->Value->Prop
structure aJ where
 loc:Nat->Nat×Nat
 hdr:Nat->List Value
 fo:Nat->List Nat
def aL(J:aJ)(R:Root)(r:Nat):Option (Nat×Nat):=match R.kind with
 |.var _=>some (J.loc r)
 |.par=>some (J.loc r)
 |_=>none
def blk(J:aJ)(R:Root)(r:Nat):List Nat:=(match aL J R r with
 |some q=>[q.1]
 |none=>[])++J.fo r
def aY(Z:St)(r:Nat)(R:Root):Prop:=Z.roots r=some R/\R.cu=false
def lM(cx:Cx)(b:Nat):Prop:=∃j pi o n,cx.par j=some pi/\pi.base=some (b,o,n)
def aN(cx:Cx)(Z:St)(J:aJ)(F:List Nat)(w:World)(T:List Tag)(b:Nat):Prop:=
 b<w.heap.size/\b∉F/\¬lM cx b/\(∀r R,aY Z r R->b∈blk J R r->∃n,(r,n)∈T)/\
 (b<cx.w0.heap.size->(∃j n,(gK j,n)∈T/\cx.ext j b)\/∃j pi,cx.par j=some pi/\b∈pi.bl)
def cZ(Z:St)(R:Root):Prop:=R.cu=false/\cO Z R.pO R.tags=true
def kZ(Z:St)(J:aJ)(F:List Nat)(w:World)(T:List Tag)(b:Nat):Prop:=
 b<w.heap.size/\b∉F/\∀r R,aY Z r R->b∈blk J R r->∃n,(r,n)∈T
def uX(cx:Cx)(Z:St)(J:aJ)(F:List Nat)(w:World)(bt:TypeId)(k:K)(x:El k)(T:List Tag)(v:Value):Prop:=
 (∃b o,v=.pointer (some ⟨b,o,none⟩))/\(cO Z (bt :: k.tys) T=true->∃b o cs,v=.pointer (some ⟨b,o,none⟩)/\Cells (hp w) b o cs/\Vw (hp w) (aN cx Z J F w T) k x cs/\kZ Z J F w T b/\
  ((bt=SENT/\∀t∈T,fV t.1=true)\/(kT (hp w) b bt/\¬lM cx b)))
def m_(cx:Cx)(Z:St)(J:aJ)(F:List Nat)(w:World):List (TypeId×Dat×List Tag)->List Value->Prop
 | [],[]=>True
 |c :: cs,v :: vs=>uX cx Z J F w c.1 c.2.1.1 c.2.1.2 c.2.2 v/\m_ cx Z J F w cs vs
 |_,_=>False
def lW:List Stp->K->Option (Nat×K)
 | [],k=>some (0,k)
 |.aU n :: p,.st c=>match bQ n c with
  |some q=>match lW p q.2 with
   |some r=>some (q.1+r.1,r.2)
   |none=>none
  |none=>none
 |_,_=>none
def ai8(J:aJ)(h:Heap)(r:Nat)(R:Root)(p:List Stp)(q:Nat)(Q:Root)(v:Value):Prop:=
 ∃(e:TypeId) (kk:K) (xs:List (El kk)) (wh:Option (Nat×Nat)) (b:Option Addr) (n c:Nat) (ce:List Value) (hq:Value) (b1 o1 c1:Nat) (arr:Array Value) (lo hi:Nat),
  aD p R.k R.x=some ⟨.sl e kk,xs⟩/\bW p R.k R.x/\(∀t∈aC p R.k,ay t R.own=true)/\aR h p R.k (J.hdr r) (aL J R r)=some ([.slice b n c],wh)/\
  (Q.k=yz e kk/\Q.kind=.anon)/\J.hdr q=ce++[hq]/\ce.length=kk.size/\v=.slice (some ⟨b1,o1,none⟩) (n+1) c1/\n+1<=c1/\
  h b1=some (.cells arr e (lo,hi))/\iU arr.size lo hi/\o1+c1*kk.size<=arr.size/\Cells h b1 (o1+n*kk.size) ce/\
  ((b=some ⟨b1,o1,none⟩/\b1∈J.fo r/\hq=.slice none 0 0/\c=c1)\/(hq=.slice (some ⟨b1,o1,none⟩) 0 c1/\b1∈J.fo q/\(0<n->∃b0 o0,b=some ⟨b0,o0,none⟩/\b0∈J.fo r/\∀i,i<n*kk.size->cellAt h b1 (o1+i)=cellAt h b0 (o0+i))))
def alL(J:aJ)(h:Heap)(r:Nat)(R:Root)(p:List Stp)(q:Nat)(Q:Root)(a b:Nat)(v:Value):Prop:=
 ∃(e:TypeId) (kk:K) (xs:List (El kk)) (wh:Option (Nat×Nat)) (bb:Option Addr) (m c:Nat) (bq:Option Addr) (m1 c1:Nat),
  aD p R.k R.x=some ⟨.sl e kk,xs⟩/\bW p R.k R.x/\(∀t∈aC p R.k,ay t R.own=true)/\aR h p R.k (J.hdr r) (aL J R r)=some ([.slice bb m c],wh)/\
  (Q.k=.sl e (.gap kk.size)/\Q.kind=.anon)/\J.hdr q=[v]/\v=.slice bq m1 c1/\(a<=b/\b<=m/\m=xs.length/\m1=a+(m-b))/\
  (0<m1->∃b1 o1 b0 o0,bq=some ⟨b1,o1,none⟩/\bb=some ⟨b0,o0,none⟩/\b1∈J.fo q/\b0∈J.fo r/\
   ∀j i,j<m1->i<kk.size->cellAt h b1 (o1+(j*kk.size+i))=cellAt h b0 (o0+((if j<a then j else b+(j-a))*kk.size+i)))
def aW(cx:Cx)(Z:St)(J:aJ)(F:List Nat)(w:World):AV->Value->Prop
 |.undef,_=>True
 |.val k x T,v=>(k.flat=true\/cO Z k.tys T=true)->∃cs,VC k v cs/\Vw (hp w) (aN cx Z J F w T) k x cs
 |.eX,v=>∃a,v=.slice a 0 0
 |.ref r g,v=>∀R,aY Z r R->R.g=g->R.kind=.anon/\VC R.k v (J.hdr r)
 |.dP r p n,v=>∀R,Z.roots r=some R->cZ Z R->R.dM=n->∀d,aD p R.k R.x=some d->
   bW p R.k R.x/\(∀t∈aC p R.k,ay t R.own=true)/\∃cs wh,aR (hp w) p R.k (J.hdr r) (aL J R r)=some (cs,wh)/\VC d.1 v cs
 |.ptr r p n,v=>(∃b o,v=.pointer (some ⟨b,o,none⟩))/\∀R,Z.roots r=some R->cZ Z R->clean R.h n (iR p R.k)=true->(∀t∈aC p R.k,ay t R.own=true)->(aD p R.k R.x).isSome=true->
   bW p R.k R.x/\∃cs b o,aR (hp w) p R.k (J.hdr r) (aL J R r)=some (cs,some (b,o))/\v=.pointer (some ⟨b,o,none⟩)
 |.fC bt k x T,v=>uX cx Z J F w bt k x T v
 |.iW,v=>v=.pointer none
 |.nZ e,v=>∃b,v=.bool b/\(b=true->e=true)
 |.part r g lo hi sz,v=>∃b' b n c,v=.slice b' (hi-lo) (c-lo)/\(lo=0\/c≠lo->b'=b.map (·.add (lo*sz)))/\lo<=hi/\hi<=n/\n<=c/\∀R,aY Z r R->R.g=g->R.kind=.anon/\VC R.k (.slice b n c) (J.hdr r)
 |.kS r g k p,v=>∃u b off k1,v=.pointer (some ⟨b,off,none⟩)/\kZ Z J F w [] b/\Cells (hp w) b 0 u.cells.toList/\lW p k=some (off,k1)/\∀R,aY Z r R->R.g=g->R.kind=.anon/\VC R.k u (J.hdr r)
 |.l9 r p n m,v=>∃b c,v=.slice b m c/\∀R,Z.roots r=some R->cZ Z R->R.dM=n->∀d,aD p R.k R.x=some d->
   bW p R.k R.x/\(∀t∈aC p R.k,ay t R.own=true)/\∃q wh,aR (hp w) p R.k (J.hdr r) (aL J R r)=some ([.slice b q c],wh)/\m<=q
 |.sub r p n lo hi sz,v=>∃b' b m c,v=.slice b' (hi-lo) (c-lo)/\(lo=0\/c≠lo->b'=b.map (·.add (lo*sz)))/\lo<=hi/\hi<=m/\m<=c/\∀R,Z.roots r=some R->cZ Z R->R.dM=n->∀d,aD p R.k R.x=some d->
   bW p R.k R.x/\(∀t∈aC p R.k,ay t R.own=true)/\∃wh,aR (hp w) p R.k (J.hdr r) (aL J R r)=some ([.slice b m c],wh)
 |.sel r p n q x y,v=>∀R,Z.roots r=some R->cZ Z R->R.dM=n->∀Q,aY Z q Q->Q.dM=0->alL J (hp w) r R p q Q x y v
 |.app r p n q,v=>∀R,Z.roots r=some R->cZ Z R->R.dM=n->∀Q,aY Z q Q->Q.dM=0->ai8 J (hp w) r R p q Q v
 |.fn f cs,v=>∃vs:List Value,v=.func (.func f) #[] vs.toArray/\m_ cx Z J F w cs vs
def h_(cx:Cx)(Z:St)(J:aJ)(F:List Nat)(w:World):List AV->List Value->Prop
 | [],[]=>True
 |a :: l,v :: vs=>aW cx Z J F w a v/\h_ cx Z J F w l vs
 |_,_=>False
def ET:K->List Value->List Value->Prop
 |.pair k r,u :: us,cs=>∃c1 c2,cs=c1++c2/\VC k u c1/\c1.length=k.size/\ET r us c2
 |.unit,[],cs=>cs=[]
 |_,_,_=>False
def iZ(cx:Cx)(Z:St)(J:aJ)(F:List Nat)(w:World):f_->Value->Prop
 |.one a,v=>aW cx Z J F w a v
 |.mQ l,v=>∃vs:List Value,v=.tuple vs.toArray/\h_ cx Z J F w l vs
 |.lit _ c l,v=>∃vs cs:List Value,(v=.agg cs.toArray/\ET c vs cs)/\h_ cx Z J F w l vs
def qw(Z:St)(t:Tag):Prop:=fV t.1=true\/∃R,Z.roots t.1=some R/\(R.cu=true\/t.2<=dL R.w)
def fI(Z:St)(T:List Tag):Prop:=∀t∈T,qw Z t
def dK(Z:St):AV->Prop
 |.val _ _ T=>fI Z T
 |.ref r g=>∃R,Z.roots r=some R/\(R.cu=true\/g<=R.g)
 |.dP r _ n=>∃R,Z.roots r=some R/\(R.cu=true\/n<=R.dM)
 |.kS r g _ _=>∃R,Z.roots r=some R/\(R.cu=true\/g<=R.g)
 |.part r g _ _ _=>∃R,Z.roots r=some R/\(R.cu=true\/g<=R.g)
 |.l9 r _ n _=>∃R,Z.roots r=some R/\(R.cu=true\/n<=R.dM)
 |.sub r _ n _ _ _=>∃R,Z.roots r=some R/\(R.cu=true\/n<=R.dM)
 |.sel r _ n q _ _=>(∃R,Z.roots r=some R/\(R.cu=true\/n<=R.dM))/\∃R,Z.roots q=some R
 |.app r _ n q=>(∃R,Z.roots r=some R/\(R.cu=true\/n<=R.dM))/\∃R,Z.roots q=some R
 |.ptr r _ n=>∃R,Z.roots r=some R/\(R.cu=true\/n<=dL R.h)
 |.fC _ _ _ T=>fI Z T
 |.fn _ cs=>∀c∈cs,fI Z c.2.2
 |_=>True
def mZ(Z:St):f_->Prop
 |.one a=>dK Z a
 |.mQ l=>∀a∈l,dK Z a
 |.lit _ _ l=>∀a∈l,dK Z a
def ajh(cx:Cx)(w:World):Prop:=
 w.os=cx.w0.os/\w.tape=cx.w0.tape/\w.output=cx.w0.output/\cx.w0.heap.size<=w.heap.size/\
 (∀b,b<cx.w0.heap.size->(∀j pi,cx.par j=some pi->b∉pi.bl)->hp w b=hp cx.w0 b)/\
 (∀j pi b o n,cx.par j=some pi->pi.base=some (b,o,n)->kQ (hp cx.w0) (hp w) b o n)
def mine(cx:Cx)(w:World)(b:Nat):Prop:=b<w.heap.size/\(cx.w0.heap.size<=b\/∃j pi,cx.par j=some pi/\b∈pi.bl)
structure alK(cx:Cx)(Z:St)(J:aJ)(F:List Nat)(w:World)(r:Nat)(R:Root):Prop where
 ow:cZ Z R->Ow (hp w) R.own (aN cx Z J F w R.tags) R.k R.x (J.hdr r) (J.fo r)
 len:(J.hdr r).length=R.k.size
 mem:∀b o,aL J R r=some (b,o)->Cells (hp w) b o (J.hdr r)/\∃arr e lo hi,hp w b=some (.cells arr e (lo,hi))/\iU arr.size lo hi/\o+R.k.size<=arr.size/\(∀t,R.kind=.var t->e=t)
 nd:(blk J R r).Nodup
 mine:∀b∈blk J R r,Ow.mine cx w b
structure Rel(cx:Cx)(Z:St)(J:aJ)(F:List Nat)(a:Act)(w:World):Prop where
 defs:a.defers=[]
 sz:cx.nt<=a.tmps.size
 kG:∀j pi b o n,cx.par j=some pi->pi.base=some (b,o,n)->∃R,aY Z (aG j) R/\R.kind=.par/\J.loc (aG j)=(b,o)/\R.k.size=n
 tK:∀r R,aY Z r R->R.kind=.par->∃j pi n,r=aG j/\cx.par j=some pi/\pi.base=some ((J.loc r).1,(J.loc r).2,n)
 slots:∀s,iZ cx Z J F w (Z.slots s) (a.tmps.getD s undef)
 q8:∀s,mZ Z (Z.slots s)
 roots:∀r R,aY Z r R->alK cx Z J F w r R
 fE:∀r R,Z.roots r=some R->fI Z R.tags/\fV r=false/\(∀n,(r,n)∉R.tags)
 jr:∀r R r' R',aY Z r R->aY Z r' R'->r≠r'->∀b∈blk J R r,b∉blk J R' r'
 fl:∀b∈F,mine cx w b
 gL:F.Nodup
 dU:∀r R,aY Z r R->∀b∈blk J R r,b∉F
 frame:ajh cx w
 sW:∀j pi,cx.par j=some pi->pi.kp=true->∃R,Z.roots (aG j)=some R/\(R.cu=false->∀b∈pi.bl,¬lM cx b->
  (∃e,iH (hp cx.w0) b=some e/\(e∈R.w\/e∈R.ew))\/(hp w b=hp cx.w0 b/\b∉F/\∀q Q,aY Z q Q->b∈blk J Q q->q=aG j))
 ql:(∀j pi,cx.par j=some pi->∀b∈pi.bl,b<cx.w0.heap.size)/\(∀b,Fr.free b->b<cx.w0.heap.size/\∀j pi,cx.par j=some pi->b∉pi.bl)/\∀b,Fr.free b->hp cx.w0 b=Fr.obj b
 uI:∀j p ts v,cx.ptrs j p ts v->(∃b o,v=.pointer (some ⟨b,o,none⟩))/\∃R,Z.roots (aG j)=some R/\((∀t∈ts,t∉R.eh)->aW cx Z J F w (.ptr (aG j) p 0) v)
 uJ:∀j v,cx.refs j v->(∃R,Z.roots (aG j)=some R)/\aW cx Z J F w (.ref (aG j) 0) v
theorem Rel.ag7{cx:Cx}{Z:St}{J:aJ}{F:List Nat}{a:Act}{w:World}(H:Rel cx Z J F a w){b:Nat}(hm:mine cx w b):¬Fr.free b:=by
 intro hf
 obtain⟨h1,h2⟩:=H.ql.2.1 b hf
 rcases hm.2 with h|⟨j,pi,h3,h4⟩
 ·omega
 ·exact h2 j pi h3 h4
theorem Rel.fixed{cx:Cx}{Z:St}{J:aJ}{F:List Nat}{a:Act}{w:World}(H:Rel cx Z J F a w){b:Nat}(hf:Fr.free b):hp w b=Fr.obj b:=by
 obtain⟨h1,h2⟩:=H.ql.2.1 b hf
 rw[H.frame.2.2.2.2.1 b h1 h2]
 exact H.ql.2.2 b hf
theorem Rel.BZ{cx:Cx}{Z:St}{J:aJ}{F:List Nat}{a:Act}{w:World}(H:Rel cx Z J F a w){b:Nat}{t:TypeId}(hm:mine cx w b)(h:kT (hp w) b t):iH (hp w) b=some t:=h.resolve_right (H.ag7 hm)
theorem oL{A:Type}(l:List A):dL l=l.length:=by induction l<;>simp_all[dL]
theorem fF{n:Nat}{l:List Nat}:ay n l=true↔n∈l:=by
 induction l with
 |nil=>simp[ay]
 |cons m l ih=>
  simp only[ay,bM]
  cases h:Nat.beq n m with
  |true=>simp[bu h]
  |false=>simp[ih,Lc h]
theorem gF{n:Nat}{l:List Nat}:ay n l=false↔n∉l:=by rw[<-fF];simp
theorem ayg(a l:List Nat){n:Nat}(h:n<=dL l):since (a++l) n=a++since l n:=by
 unfold since
 rw[oL]at h
 simp only[oL,dI]
 rw[List.take_append,Zp (by omega)]
 congr 2
 omega
theorem Aq{a l:List Nat}{n:Nat}{tys:List Nat}(h:n<=dL l):clean (a++l) n tys=true↔(∀t∈a,t∉tys)/\clean l n tys=true:=by
 unfold clean
 rw[ayg a l h,List.all_append,bf,dV]
 simp[gF]
theorem amI{Z:St}{tys:List TypeId}{t:Tag}{T:List Tag}:cO Z tys (t :: T)=true↔(fV t.1=true\/∃R,Z.roots t.1=some R/\R.cu=false/\clean R.w t.2 tys=true)/\cO Z tys T=true:=by
 obtain⟨r,n⟩:=t
 simp only[cO,bf]
 cases he:fV r with
 |true=>simp
 |false=>
  simp only[jI,bP,false_or]
  cases hr:Z.roots r with
  |none=>simp
  |some R=>simp
theorem wW{Z:St}{tys:List TypeId}{T:List Tag}:cO Z tys T=true↔∀t∈T,fV t.1=true\/∃R,Z.roots t.1=some R/\R.cu=false/\clean R.w t.2 tys=true:=by
 induction T with
 |nil=>simp[cO]
 |cons t T ih=>rw[amI,ih];simp
def Views(cx:Cx)(Z:St)(J:aJ)(F:List Nat)(w:World)(Z':St)(J':aJ)(F':List Nat)(w':World):Prop:=
 ∀T tys,fI Z T->cO Z' tys T=true->cO Z tys T=true/\
  (∀b,aN cx Z J F w T b->((∃t∈tys,kT (hp w) b t)\/∀t∈T,fV t.1=true)->aN cx Z' J' F' w' T b/\hp w' b=hp w b)/\
  ∀b,kZ Z J F w T b->((∃t∈tys,kT (hp w) b t)/\¬lM cx b\/∀t∈T,fV t.1=true)->kZ Z' J' F' w' T b/\hp w' b=hp w b
theorem Views.vw{cx:Cx}{Z Z':St}{J J':aJ}{F F':List Nat}{w w':World}(H:Views cx Z J F w Z' J' F' w'){T:List Tag}{tys:List TypeId}(hw:fI Z T)(hc:cO Z' tys T=true)
  {k:K} {x:El k} {cs:List Value} (hk:∀t∈k.tys,t∈tys) (h:Vw (hp w) (aN cx Z J F w T) k x cs):Vw (hp w') (aN cx Z' J' F' w' T) k x cs:=by
 obtain⟨_,h2,_⟩:=H T tys hw hc
 exact ku (λb hb=>(h2 b hb.1 (.inl hb.2)).2) (λb hb=>(h2 b hb.1 (.inl hb.2)).1) (Gu tys hk h)
theorem Views.ro{cx:Cx}{Z Z':St}{J J':aJ}{F F':List Nat}{w w':World}(H:Views cx Z J F w Z' J' F' w'){bt:TypeId}{k:K}{x:El k}{T:List Tag}{v:Value}(hw:fI Z T)
  (h:uX cx Z J F w bt k x T v):uX cx Z' J' F' w' bt k x T v:=by
 refine⟨h.1,λhc=>?_⟩
 obtain⟨h1,_,h2⟩:=H T _ hw hc
 obtain⟨b,o,cs,e,hcs,hv,hok,hb⟩:=h.2 h1
 have hb':kZ Z' J' F' w' T b/\hp w' b=hp w b:=h2 b hok (by
  rcases hb with⟨_,hb⟩|hb
  ·exact .inr hb
  ·exact .inl ⟨⟨bt,by simp,hb.1⟩,hb.2⟩)
 exact⟨b,o,cs,e,hcs.congr hb'.2,H.vw hw hc (λt ht=>by simp[ht]) hv,hb'.1,hb.imp id (λh=>⟨aaI hb'.2 h.1,h.2⟩)⟩
theorem Views.caps{cx:Cx}{Z Z':St}{J J':aJ}{F F':List Nat}{w w':World}(H:Views cx Z J F w Z' J' F' w') :
  ∀{cs:List (TypeId×Dat×List Tag)} {vs:List Value},(∀c∈cs,fI Z c.2.2)->m_ cx Z J F w cs vs->m_ cx Z' J' F' w' cs vs
 | [],[],_,h=>h
 |c :: cs,v :: vs,hw,h=>⟨H.ro (hw c (by simp)) h.1,H.caps (λc hc=>hw c (by simp[hc])) h.2⟩
 | [],_ :: _,_,h=>h.elim
 |_ :: _,[],_,h=>h.elim
theorem zH{cx:Cx}{Z Z':St}{J J':aJ}{F F':List Nat}{w w':World}(H:Views cx Z J F w Z' J' F' w'){R:Root}(hw:fI Z R.tags)(h:cZ Z' R):cZ Z R:=
 ⟨h.1,(H R.tags R.pO hw h.2).1⟩
end
end Go.Proofs.YtgppmpedglhhfaaGreatDoor.Ow

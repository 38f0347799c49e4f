/- Numbers of one to four digits. No program in sight. -/
import Derived.Test.YtgppmpedglhhfaaGreatDoorLaidLib
set_option linter.unusedVariables false
set_option linter.unusedSimpArgs false
namespace Go.Proofs.YtgppmpedglhhfaaGreatDoor.uo
open Go Ow aI r_
def uZ:Int->List Int->Int
 |v,[]=>v
 |v,x :: r=>if 48<=x/\x<=57 then uZ (v*10+(x-48)) r else -1
def fP(s:List Int):Int:=if s.length<1\/4<s.length\/(1<s.length/\s.getD 0 0=48)then -1 else uZ 0 s
def u8(s:List Int):List UInt8:=s.map λn=>UInt8.ofNat n.toNat
def ints(l:List UInt8):List Int:=l.map λb=>(b.toNat:Int)
theorem C8(s:List Int):(iM s).data.toList=u8 s:=by simp[iM,u8]
theorem xx{s:List Int}(h:∀b∈s,0<=b/\b<256):ints (u8 s)=s:=by
 unfold ints u8
 rw[Gn]
 conv=>rhs;rw[<-List.map_id s]
 refine List.map_congr_left λx hx=>?_
 obtain⟨h0,h1⟩:=h x hx
 show((UInt8.ofNat x.toNat).toNat:Int)=x
 rw[UInt8.toNat_ofNat']
 omega
theorem FD{d:Nat}(h:d<10):(UInt8.ofNat (48+d)).toNat=48+d:=by
 rw[UInt8.toNat_ofNat']
 omega
theorem RZ{v:Nat}(h:v<10000):∃l:List Nat,(∀d∈l,d<10)/\Lib.decDigits v=l.map (λd=>UInt8.ofNat (48+d))/\
  ((∃a,l=[a]/\v=a)\/(∃a b,l=[a,b]/\a≠0/\v=a*10+b)\/(∃a b c,l=[a,b,c]/\a≠0/\v=(a*10+b)*10+c)\/∃a b c d,l=[a,b,c,d]/\a≠0/\v=((a*10+b)*10+c)*10+d):=by
 have big:∀u:Nat,¬u<10->Lib.decDigits u=Lib.decDigits (u / 10)++[UInt8.ofNat (48+u%10)]:=λu h=>by rw[Lib.decDigits,dif_neg h]
 by_cases h1:v<10
 ·exact⟨[v],by simp[h1],by rw[Lib.decDigits_one h1];rfl,.inl ⟨v,rfl,rfl⟩⟩
 ·by_cases h2:v<100
  ·refine⟨[v / 10,v%10],by simp;omega,by rw[Lib.decDigits_two h1 h2];rfl,.inr (.inl ⟨_,_,rfl,by omega,by omega⟩)⟩
  ·by_cases h3:v<1000
   ·refine⟨[v / 10 / 10,v / 10%10,v%10],by simp;omega,?_,.inr (.inr (.inl ⟨_,_,_,rfl,by omega,by omega⟩))⟩
    rw[big v h1,Lib.decDigits_two (by omega) (by omega)]
    rfl
   ·refine⟨[v / 10 / 10 / 10,v / 10 / 10%10,v / 10%10,v%10],by simp;omega,?_,.inr (.inr (.inr ⟨_,_,_,_,rfl,by omega,by omega⟩))⟩
    rw[big v h1,big (v / 10) (by omega),Lib.decDigits_two (by omega) (by omega)]
    rfl
theorem acv(l:List Nat)(h:∀d∈l,d<10):ints (l.map (λd=>UInt8.ofNat (48+d)))=l.map λd=>((48+d:Nat):Int):=by
 unfold ints
 rw[Gn]
 exact List.map_congr_left λd hd=>by show((UInt8.ofNat (48+d)).toNat:Int)=_;rw[FD (h d hd)]
theorem aiT{v:Nat}(h:v<10000):fP (ints (Lib.decDigits v))=v:=by
 obtain⟨l,hl,e,hc⟩:=RZ h
 rw[e,acv l hl]
 rcases hc with⟨a,rfl,rfl⟩|⟨a,b,rfl,h0,rfl⟩|⟨a,b,c,rfl,h0,rfl⟩|⟨a,b,c,d,rfl,h0,rfl⟩ <;>
  simp only[bM,vF,or_false,forall_eq_or_imp,forall_eq]at hl <;>
  simp only[fP,jo,List.map_nil,iy,iF,List.getD_cons_zero,uZ]
 ·rw[ah (by omega),aj (by omega)];omega
 ·rw[ah (by omega),aj (by omega),aj (by omega)];omega
 ·rw[ah (by omega),aj (by omega),aj (by omega),aj (by omega)];omega
 ·rw[ah (by omega),aj (by omega),aj (by omega),aj (by omega),aj (by omega)];omega
theorem pM{M acc:Nat}{d:Nat}{r:List UInt8}(hd:d<10)(ha:acc<1000)(hM:10000<=M):Lib.parseUintM M acc (UInt8.ofNat (48+d) :: r)=Lib.parseUintM M (acc*10+d) r:=by
 simp only[Lib.parseUintM,FD hd]
 rw[aj (by omega),ah (by omega),ah (by omega),show 48+d-48=d by omega]
theorem axp{v:Nat}(h:v<10000):Lib.parseIntB 64 (Lib.decDigits v)=.ok v:=by
 obtain⟨l,hl,e,hc⟩:=RZ h
 rw[e]
 have key:∀a r,l=a :: r->Lib.parseUintM (2 ^ 64-1) 0 (l.map (λd=>UInt8.ofNat (48+d)))=.ok v->Lib.parseIntB 64 (l.map (λd=>UInt8.ofNat (48+d)))=.ok v:=by
  intro a r hl' hp
  subst hl'
  have ha:=hl a (by simp)
  rw[jo]at hp ⊢
  rw[Lib.parseIntB_plain 64 _ _ (by rw[FD ha];omega) (by rw[FD ha];omega)]
  unfold Lib.parseUintB
  rw[ah (by simp),hp]
  unfold Lib.signlessC
  simp only
  rw[ah (by omega)]
 rcases hc with⟨a,rfl,rfl⟩|⟨a,b,rfl,h0,rfl⟩|⟨a,b,c,rfl,h0,rfl⟩|⟨a,b,c,d,rfl,h0,rfl⟩ <;>
  simp only[bM,vF,or_false,forall_eq_or_imp,forall_eq]at hl <;>
  refine key _ _ rfl ?_<;>simp only[jo,List.map_nil]
 ·rw[pM (by omega) (by omega) (by omega)];simp[Lib.parseUintM]
 ·rw[pM (by omega) (by omega) (by omega),pM (by omega) (by omega) (by omega)];simp[Lib.parseUintM]
 ·rw[pM (by omega) (by omega) (by omega),pM (by omega) (by omega) (by omega),pM (by omega) (by omega) (by omega)];simp[Lib.parseUintM]
 ·rw[pM (by omega) (by omega) (by omega),pM (by omega) (by omega) (by omega),pM (by omega) (by omega) (by omega),pM (by omega) (by omega) (by omega)];simp[Lib.parseUintM]
theorem Xx:∀{s:List Int} {v:Int},0<=v->0<=uZ v s->∀b∈s,48<=b/\b<=57
 | [],_,_,_,b,hb=>by simp at hb
 |x :: r,v,hv,h,b,hb=>by
  unfold uZ at h
  split at h
  ·rename_i hx
   rcases bM.1 hb with rfl|hb
   ·exact hx
   ·exact Xx (by omega) h b hb
  ·omega
theorem RX{s:List Int}(h:0<=fP s):fP s<10000/\u8 s=Lib.decDigits (fP s).toNat:=by
 unfold fP at h ⊢
 split at h
 ·omega
 ·rename_i hn
  rw[ah hn]
  have hd:=Xx (KZ 0) h
  have big:∀u:Nat,¬u<10->Lib.decDigits u=Lib.decDigits (u / 10)++[UInt8.ofNat (48+u%10)]:=λu h=>by rw[Lib.decDigits,dif_neg h]
  match s,hn,hd,h with
  | [],hn,_,_=>simp at hn
  | [a],hn,hd,_=>
   simp only[bM,vF,or_false,forall_eq_or_imp,forall_eq]at hd
   simp only[uZ]
   rw[aj (by omega)]
   refine⟨by omega,?_⟩
   rw[Lib.decDigits_one (by omega)]
   simp only[u8,jo,List.map_nil]
   rw[show a.toNat=48+(0*10+(a-48)).toNat by omega]
  | [a,b],hn,hd,_=>
   simp only[bM,vF,or_false,forall_eq_or_imp,forall_eq]at hd
   simp only[iy,iF,List.getD_cons_zero]at hn
   simp only[uZ]
   rw[aj (by omega),aj (by omega)]
   refine⟨by omega,?_⟩
   rw[Lib.decDigits_two (by omega) (by omega)]
   simp only[u8,jo,List.map_nil]
   congr 1
   ·congr 1;omega
   ·congr 2;omega
  | [a,b,c],hn,hd,_=>
   simp only[bM,vF,or_false,forall_eq_or_imp,forall_eq]at hd
   simp only[iy,iF,List.getD_cons_zero]at hn
   simp only[uZ]
   rw[aj (by omega),aj (by omega),aj (by omega)]
   refine⟨by omega,?_⟩
   rw[big _ (by omega),Lib.decDigits_two (by omega) (by omega)]
   simp only[u8,jo,List.map_nil,gX,iA]
   congr 1
   ·congr 1;omega
   ·congr 1
    ·congr 1;omega
    ·congr 2;omega
  | [a,b,c,d],hn,hd,_=>
   simp only[bM,vF,or_false,forall_eq_or_imp,forall_eq]at hd
   simp only[iy,iF,List.getD_cons_zero]at hn
   simp only[uZ]
   rw[aj (by omega),aj (by omega),aj (by omega),aj (by omega)]
   refine⟨by omega,?_⟩
   rw[big _ (by omega),big (_ / 10) (by omega),Lib.decDigits_two (by omega) (by omega)]
   simp only[u8,jo,List.map_nil,gX,iA]
   congr 1
   ·congr 1;omega
   ·congr 1
    ·congr 1;omega
    ·congr 1
     ·congr 1;omega
     ·congr 2;omega
  |_ :: _ :: _ :: _ :: _ :: _,hn,_,_=>simp at hn
theorem Io(v:Nat):Lib.itoa v=Lib.decDigits v:=by
 unfold Lib.itoa
 rw[ah (by omega)]
 rfl
theorem axE{s:List Int}(hb:∀b∈s,0<=b/\b<256):(pJ s).2=decide (0<=fP s)/\(0<=fP s->(pJ s).1=fP s):=by
 unfold pJ
 rw[C8]
 by_cases h:0<=fP s
 ·obtain⟨h1,h2⟩:=RX h
  have hv:((fP s).toNat:Int)=fP s:=Int.toNat_of_nonneg h
  rw[h2,axp (by omega)]
  simp only[hv]
  refine⟨?_,λ_=>trivial⟩
  have:Lib.itoa (fP s)=Lib.decDigits (fP s).toNat:=by rw[<-Io,hv]
  rw[this]
  simp only[h,bY,Bool.true_and,BEq.rfl,Bool.and_true,bF]
  omega
 ·refine⟨?_,λh'=>absurd h' h⟩
  simp only[h,dm]
  rcases ag9 (Lib.parseIntB 64 (u8 s))with⟨v,hp⟩|hp|hp
  rotate_left
  ·rw[hp]
  ·rw[hp]
  ·rw[hp]
   simp only[Bool.and_eq_false_imp,bf,bF]
   rintro⟨h0,h1⟩
   cases he:(Lib.itoa v==u8 s)with
   |false=>rfl
   |true=>
    have he:=eq_of_beq he
    have hv:((v.toNat:Nat):Int)=v:=Int.toNat_of_nonneg h0
    rw[<-hv,Io]at he
    have:ints (Lib.decDigits v.toNat)=s:=by rw[he,xx hb]
    have h3:=aiT (v:=v.toNat) (by omega)
    rw[this]at h3
    omega
theorem aiV{s:List Int}(h:0<=fP s):fP s<10000:=(RX h).1
end Go.Proofs.YtgppmpedglhhfaaGreatDoor.uo

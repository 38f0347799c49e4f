/- What an op makes of a mailbox: what was there goes on. -/
import Derived.Test.YtabnmpabdhmkoaaOwF
import Derived.Test.YtabnmpabdhmkoaaLoopLib
import Derived.Test.YtabnmpabdhmkoaaStoreMath
import Derived.Test.YtabnmpabdhmkoaaOpsMath
import Derived.Test.YtabnmpabdhmkoaaGoodMath
import Derived.Test.YtabnmpabdhmkoaaFoF
set_option linter.unusedSectionVars false
set_option linter.unusedVariables false
set_option linter.unusedSimpArgs false
namespace Go.Proofs.Ytabnmpabdhmkoaa.Ki
open Go Go.Proofs.Ytabnmpabdhmkoaa.Ow Go.Proofs.Ytabnmpabdhmkoaa.Nl Go.Proofs.Ytabnmpabdhmkoaa.pY Go.Proofs.Ytabnmpabdhmkoaa.nN Go.Proofs.Ytabnmpabdhmkoaa.nu Go.Proofs.Ytabnmpabdhmkoaa.AQ
def Ext (a b:Bx):Prop:=b.1=a.1∧b.2.1=a.2.1∧a.2.2.1≤b.2.2.1∧∀m∈b.2.2.2.1,m.1<a.2.2.1→∃x∈a.2.2.2.1,x.1=m.1
theorem Ext.refl (a:Bx):Ext a a:=⟨rfl,rfl,Int.le_refl _,fun m hm _=>⟨m,hm,rfl⟩⟩
theorem Ext.filter (a:Bx) (p:mK→Bool):Ext a (a.1,a.2.1,a.2.2.1,a.2.2.2.1.filter p,()):=⟨rfl,rfl,Int.le_refl _,fun m hm _=>⟨m,(agu.1 hm).1,rfl⟩⟩
theorem Ext.put {a b:Bx} (h:Ext a b) (m:mK):Ext a (tu b m):=by
 refine ⟨h.1,h.2.1, ?_,fun x hx hl=>?_⟩
 ·have:=h.2.2.1
  show a.2.2.1≤b.2.2.1+1
  omega
 ·rcases agl.1 hx with hx | hx
  ·exact h.2.2.2 x hx hl
  ·simp only [agw] at hx
   subst hx
   have:=h.2.2.1
   have hl:b.2.2.1<a.2.2.1:=hl
   omega
theorem Ext.eX {a:Bx} {l:List mK}:∀{b:Bx},Ext a b→Ext a (eX b l):=by
 induction l with
 | nil=>intro b h; exact h
 | cons m l ih=>intro b h; exact ih (h.put m)
theorem grown {s:kT} {o:OpC} (h:GS s) (h0:(iY s o).2.1=0):s.1≤(iY s o).2.2.1.1∧∀b∈(iY s o).2.2.1.2.1,(∃a∈s.2.1,Ext a b)∨b.2.1=s.1:=by
 have keep:∀b∈s.2.1,(∃a∈s.2.1,Ext a b)∨b.2.1=s.1:=fun b hb=>.inl ⟨b,hb, .refl b⟩
 have hset:∀{l:List Bx} {i:Nat} {b:Bx},(∀x∈l,(∃a∈s.2.1,Ext a x)∨x.2.1=s.1)→(∃a∈s.2.1,Ext a b)→∀x∈l.set i b,(∃a∈s.2.1,Ext a x)∨x.2.1=s.1:=by
  intro l i b hl hb x hx
  rcases List.mem_or_eq_of_mem_set hx with hx | rfl
  ·exact hl x hx
  ·exact .inl hb
 unfold iY at h0 ⊢
 by_cases k1:o.1=1
 ·rw [if_pos k1] at h0 ⊢
  unfold wP at h0 ⊢
  by_cases c1:rY s o.2.1≥0
  ·rw [if_pos c1] at h0; simp at h0
  rw [if_neg c1] at h0 ⊢
  by_cases c2:s.2.1.length=3
  ·rw [if_pos c2] at h0; simp at h0
  rw [if_neg c2] at h0 ⊢
  by_cases c3:s.1=1000
  ·rw [if_pos c3] at h0; simp at h0
  rw [if_neg c3]
  refine ⟨by show s.1≤s.1+1; omega,fun b hb=>?_⟩
  rcases agl.1 hb with hb | hb
  ·exact keep b hb
  ·simp only [agw] at hb
   subst hb
   exact .inr rfl
 ·rw [if_neg k1] at h0 ⊢
  rcases jF s o.2.1 with hp | ⟨i,hp,hi⟩
  ·rw [hp,if_pos (by decide)] at h0; simp at h0
  rw [hp,if_neg (by omega),agm] at h0 ⊢
  have hB:=dI hi dB
  unfold Em at h0 ⊢
  by_cases k2:o.1=2
  ·rw [if_pos k2]
   refine ⟨Int.le_refl _,fun b hb=>?_⟩
   rcases agl.1 hb with hb | hb
   ·exact keep b (List.mem_of_mem_take hb)
   ·exact keep b (List.mem_of_mem_drop hb)
  rw [if_neg k2] at h0 ⊢
  by_cases k3:o.1=3
  ·rw [if_pos k3] at h0 ⊢
   unfold Lr at h0 ⊢
   by_cases c1:(s.2.1.getD i dB).2.2.2.1.length=6
   ·rw [if_pos c1] at h0; simp at h0
   rw [if_neg c1] at h0 ⊢
   by_cases c2:(s.2.1.getD i dB).2.2.1=1000
   ·rw [if_pos c2] at h0; simp at h0
   rw [if_neg c2]
   exact ⟨Int.le_refl _,hset keep ⟨_,hB,(Ext.refl _).put _⟩⟩
  rw [if_neg k3] at h0 ⊢
  by_cases k4:o.1=4
  ·rw [if_pos k4]
   refine ⟨Int.le_refl _,hset keep ⟨_,hB,rfl,rfl,Int.le_refl _,fun m hm _=>?_⟩⟩
   obtain ⟨x,hx,rfl⟩:=agO.1 hm
   exact ⟨x,hx,by unfold jT; split <;> rfl⟩
  rw [if_neg k4] at h0 ⊢
  by_cases k7:o.1=7
  ·rw [if_pos k7]
   exact ⟨Int.le_refl _,hset keep ⟨_,hB,Ext.filter _ _⟩⟩
  rw [if_neg k7] at h0 ⊢
  unfold carried at h0 ⊢
  by_cases c1:rY s o.2.2.1<0
  ·rw [if_pos c1] at h0; simp at h0
  rw [if_neg c1] at h0 ⊢
  by_cases c2:o.1=6∧rY s o.2.2.1=(i:Int)
  ·rw [if_pos c2] at h0; simp at h0
  rw [if_neg c2] at h0 ⊢
  rcases jF s o.2.2.1 with hp2 | ⟨k,hp2,hk⟩
  ·rw [hp2] at c1; exact absurd (by decide) c1
  rw [hp2,agm] at h0 ⊢
  have hK:=dI hk dB
  unfold sS at h0 ⊢
  by_cases c3:(s.2.1.getD k dB).2.2.2.1.length+(dz o (s.2.1.getD i dB)).length>6
  ·rw [if_pos c3] at h0; simp at h0
  rw [if_neg c3] at h0 ⊢
  by_cases c4:(s.2.1.getD k dB).2.2.1+((dz o (s.2.1.getD i dB)).length:Int)>1000
  ·rw [if_pos c4] at h0; simp at h0
  rw [if_neg c4]
  refine ⟨Int.le_refl _, ?_⟩
  have hp1:=hset (l:=s.2.1) (i:=k) keep ⟨_,hK,(Ext.refl _).eX (l:=dz o (s.2.1.getD i dB))⟩
  by_cases k6:o.1=6
  ·simp only [k6,if_true]
   exact hset hp1 ⟨_,hB,Ext.filter _ _⟩
  ·simp only [k6,if_false]
   exact hp1
theorem Ui {s:kT} {o:OpC} (h:GS s) (h0:(iY s o).2.1=0) {a b:Bx} (ha:a∈s.2.1) (hb:b∈(iY s o).2.2.1.2.1) (e:a.2.1=b.2.1):Ext a b:=by
 rcases (grown h h0).2 b hb with ⟨a',ha',hx⟩ | hv
 ·have:a=a':=by
   have e':a'.2.1=a.2.1:=hx.2.1.symm.trans e.symm
   obtain ⟨i,hi,rfl⟩:=List.mem_iff_getElem.1 ha
   obtain ⟨j,hj,rfl⟩:=List.mem_iff_getElem.1 ha'
   by_cases hij:i=j
   ·subst hij; rfl
   ·rcases Nat.lt_or_gt_of_ne hij with hlt | hlt
    ·exact absurd e'.symm (List.pairwise_iff_getElem.1 h.far i j hi hj hlt).2
    ·exact absurd e' (List.pairwise_iff_getElem.1 h.far j i hj hi hlt).2
  rw [this]; exact hx
 ·have:=(h.each a ha).2
  omega
end Go.Proofs.Ytabnmpabdhmkoaa.Ki

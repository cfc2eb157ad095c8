/-
  How two lines meet, as plain laws; the contract of meet.Of.
-/
import Derived.Test.YtcomiiakkhafpaaGreatMeet2
import Derived.Test.YtcomiiakkhafpaaGreatAm4
set_option linter.unusedSimpArgs false
set_option linter.unusedSectionVars false
namespace Go.Proofs.YtcomiiakkhafpaaGreat
open Go.Proofs.YtcomiiakkhafpaaGreat.Am Go.Sort Go.Proofs
variable [Inhabited DRT]
/-! ### The crossing -/
theorem rd_eq (s t : Sg) : crs t.a t.b s.a - crs t.a t.b s.b = rD s t := by unfold crs rD; grind
theorem rn_eq (s t : Sg) : crs t.a t.b s.a = rN s t := by unfold crs rN; grind
theorem rm_eq (s t : Sg) : crs s.a s.b t.a = -rM s t := by unfold crs rM; grind
theorem rd2_eq (s t : Sg) : crs s.a s.b t.b - crs s.a s.b t.a = rD s t := by unfold crs rD; grind
theorem cross_eq (s t : Sg) : crossM s t = refCross s t := by
 unfold crossM refCross
 rw [rd_eq, rn_eq, rm_eq]
 split <;> simp
theorem par_trans {ux uy vx vy wx wy : Int} (hu : ¬ (ux = 0 ∧ uy = 0)) (h1 : ux * vy - uy * vx = 0) (h2 : ux * wy - uy * wx = 0) : vx * wy - vy * wx = 0 := by
 by_cases hx : ux = 0
 ·have hy : uy ≠ 0 := fun h => hu ⟨hx, h⟩
  have e : uy * (vx * wy - vy * wx) = 0 := by grind
  exact (Int.mul_eq_zero.1 e).resolve_left hy
 ·have e : ux * (vx * wy - vy * wx) = 0 := by grind
  exact (Int.mul_eq_zero.1 e).resolve_left hx
theorem line_ne {s : Sg} (h : LineS s) : ¬ (s.b.x - s.a.x = 0 ∧ s.b.y - s.a.y = 0) := by
 have := h.2.2
 omega
theorem along_iff (s t : Sg) (hT : TouchP s t) : AlongP s t ↔ rD s t = 0 := by
 have hs := hT.1
 have ht := hT.2.1
 have e1 : crsF s.a s.b t.a = crs s.a s.b t.a := crsF_eq (All3_line hs ht.1)
 have e2 : crsF s.a s.b t.b = crs s.a s.b t.b := crsF_eq (All3_line hs ht.2.1)
 have e3 := rd2_eq s t
 have e4 := rd_eq s t
 constructor
 ·rintro ⟨_, _, h1, h2⟩
  omega
 ·intro h0
  have key : crs t.a t.b s.a = 0 → crs s.a s.b t.a = 0 := by
   intro hc
   have hv := line_ne ht
   have k1 : (t.b.x - t.a.x) * (s.a.y - t.a.y) - (t.b.y - t.a.y) * (s.a.x - t.a.x) = 0 := hc
   have k2 : (t.b.x - t.a.x) * (s.b.y - s.a.y) - (t.b.y - t.a.y) * (s.b.x - s.a.x) = 0 := by
    unfold rD at h0; grind
   have k3 := par_trans hv k2 k1
   unfold crs; grind
  have hta : crs s.a s.b t.a = 0 := by
   rcases hT.2.2 with h | h | h | h | h
   ·exact h.2.2.1
   ·have := h.2.2.1; omega
   ·exact key h.2.2.1
   ·have := h.2.2.1
    exact key (by omega)
   ·have := h.1
    unfold Opp at this
    omega
  exact ⟨hs, ht, by omega, by omega⟩
/-! ### The overlap: on one line -/
theorem lagr (ux uy vx vy wx wy : Int) : (ux * vx + uy * vy) * (ux * wx + uy * wy) + (ux * vy - uy * vx) * (ux * wy - uy * wx) = (ux * ux + uy * uy) * (vx * wx + vy * wy) := by grind
theorem len_pos {s : Sg} (h : LineS s) : 0 < dotP s.a s.b s.b := by
 have hn := line_ne h
 show 0 < (s.b.x - s.a.x) * (s.b.x - s.a.x) + (s.b.y - s.a.y) * (s.b.y - s.a.y)
 have q1 := sq_nonneg (s.b.x - s.a.x)
 have q2 := sq_nonneg (s.b.y - s.a.y)
 by_cases hx : s.b.x - s.a.x = 0
 ·have := sq_pos (show s.b.y - s.a.y ≠ 0 by omega); omega
 ·have := sq_pos hx; omega
theorem dot_inj {s : Sg} (hs : LineS s) {p q : Pt} (hp : crs s.a s.b p = 0) (hq : crs s.a s.b q = 0) (h : dotP s.a s.b p = dotP s.a s.b q) : p = q := by
 have hL := len_pos hs
 have a := par_mul (show (s.b.x - s.a.x) * (p.y - s.a.y) - (s.b.y - s.a.y) * (p.x - s.a.x) = 0 from hp)
 have b := par_mul (show (s.b.x - s.a.x) * (q.y - s.a.y) - (s.b.y - s.a.y) * (q.x - s.a.x) = 0 from hq)
 have h' : (s.b.x - s.a.x) * (p.x - s.a.x) + (s.b.y - s.a.y) * (p.y - s.a.y) = (s.b.x - s.a.x) * (q.x - s.a.x) + (s.b.y - s.a.y) * (q.y - s.a.y) := h
 rw [h'] at a
 have hL' : (s.b.x - s.a.x) * (s.b.x - s.a.x) + (s.b.y - s.a.y) * (s.b.y - s.a.y) ≠ 0 := by
  have : 0 < (s.b.x - s.a.x) * (s.b.x - s.a.x) + (s.b.y - s.a.y) * (s.b.y - s.a.y) := hL
  omega
 have e1 := Int.eq_of_mul_eq_mul_right hL' (a.1.symm.trans b.1)
 have e2 := Int.eq_of_mul_eq_mul_right hL' (a.2.symm.trans b.2)
 obtain ⟨px, py⟩ := p
 obtain ⟨qx, qy⟩ := q
 simp only at e1 e2
 rw [show px = qx by omega, show py = qy by omega]
theorem mul_btw {d x : Int} (hd : d ≠ 0) : (0 ≤ d * x ∧ d * x ≤ d * d) ↔ ((0 ≤ x ∧ x ≤ d) ∨ (d ≤ x ∧ x ≤ 0)) := by
 constructor
 ·rintro ⟨h1, h2⟩
  rcases Int.lt_or_gt_of_ne hd with h | h
  ·right
   refine ⟨Int.not_lt.1 fun q => ?_, Int.not_lt.1 fun q => ?_⟩
   ·have := Int.mul_lt_mul_of_neg_left q h; omega
   ·have := Int.mul_lt_mul_of_neg_left q h; omega
  ·left
   refine ⟨Int.not_lt.1 fun q => ?_, Int.not_lt.1 fun q => ?_⟩
   ·have := Int.mul_lt_mul_of_pos_left q h; omega
   ·have := Int.mul_lt_mul_of_pos_left q h; omega
 ·rintro (⟨h1, h2⟩ | ⟨h1, h2⟩)
  ·exact betw2 (Or.inl ⟨h1, h2⟩)
  ·exact betw2 (Or.inr ⟨h1, h2⟩)
theorem sub_par {ux uy px py ax ay bx by' : Int} (h1 : ux * (py - ay) - uy * (px - ax) = 0) (h2 : ux * (by' - ay) - uy * (bx - ax) = 0) : ux * (py - by') - uy * (px - bx) = 0 := by grind
theorem one_dim {s t : Sg} (hA : AlongP s t) : 0 < dotP s.a s.b s.b ∧ dotP s.a s.b t.a ≠ dotP s.a s.b t.b ∧
  ∀ p, MayPt p → crs s.a s.b p = 0 → (OnP s p ↔ 0 ≤ dotP s.a s.b p ∧ dotP s.a s.b p ≤ dotP s.a s.b s.b) ∧
   (OnP t p ↔ (dotP s.a s.b t.a ≤ dotP s.a s.b p ∧ dotP s.a s.b p ≤ dotP s.a s.b t.b) ∨ (dotP s.a s.b t.b ≤ dotP s.a s.b p ∧ dotP s.a s.b p ≤ dotP s.a s.b t.a)) := by
 obtain ⟨hs, ht, ca, cb⟩ := hA
 rw [crsF_eq (All3_line hs ht.1)] at ca
 rw [crsF_eq (All3_line hs ht.2.1)] at cb
 have hL := len_pos hs
 have hK := len_pos ht
 have hu := line_ne hs
 have uv : (s.b.x - s.a.x) * (t.b.y - t.a.y) - (s.b.y - s.a.y) * (t.b.x - t.a.x) = 0 := sub_par (show (s.b.x - s.a.x) * (t.b.y - s.a.y) - (s.b.y - s.a.y) * (t.b.x - s.a.x) = 0 from cb) ca
 have dv : dotP s.a s.b t.b - dotP s.a s.b t.a = (s.b.x - s.a.x) * (t.b.x - t.a.x) + (s.b.y - s.a.y) * (t.b.y - t.a.y) := by unfold dotP; grind
 have l1 := lagr (s.b.x - s.a.x) (s.b.y - s.a.y) (t.b.x - t.a.x) (t.b.y - t.a.y) (t.b.x - t.a.x) (t.b.y - t.a.y)
 rw [uv, ← dv, Int.zero_mul, Int.add_zero] at l1
 have l1 : (dotP s.a s.b t.b - dotP s.a s.b t.a) * (dotP s.a s.b t.b - dotP s.a s.b t.a) = dotP s.a s.b s.b * dotP t.a t.b t.b := l1
 have hne : dotP s.a s.b t.b - dotP s.a s.b t.a ≠ 0 := by
  intro h
  rw [h] at l1
  have := Int.mul_pos hL hK
  omega
 refine ⟨hL, by omega, fun p hp hc => ⟨⟨fun h => ⟨h.2.2.2.1, h.2.2.2.2⟩, fun h => ⟨hs, hp, hc, h.1, h.2⟩⟩, ?_⟩⟩
 have uw : (s.b.x - s.a.x) * (p.y - t.a.y) - (s.b.y - s.a.y) * (p.x - t.a.x) = 0 := sub_par (show (s.b.x - s.a.x) * (p.y - s.a.y) - (s.b.y - s.a.y) * (p.x - s.a.x) = 0 from hc) ca
 have cp : crs t.a t.b p = 0 := par_trans hu uv uw
 have dw : dotP s.a s.b p - dotP s.a s.b t.a = (s.b.x - s.a.x) * (p.x - t.a.x) + (s.b.y - s.a.y) * (p.y - t.a.y) := by unfold dotP; grind
 have l2 := lagr (s.b.x - s.a.x) (s.b.y - s.a.y) (t.b.x - t.a.x) (t.b.y - t.a.y) (p.x - t.a.x) (p.y - t.a.y)
 rw [uv, ← dv, ← dw, Int.zero_mul, Int.add_zero] at l2
 have l2 : (dotP s.a s.b t.b - dotP s.a s.b t.a) * (dotP s.a s.b p - dotP s.a s.b t.a) = dotP s.a s.b s.b * dotP t.a t.b p := l2
 have m := mul_btw (x := dotP s.a s.b p - dotP s.a s.b t.a) hne
 rw [l1, l2] at m
 constructor
 ·intro h
  have h4 := h.2.2.2.1
  have h5 := h.2.2.2.2
  have := m.1 ⟨Int.mul_nonneg (by omega) h4, Int.mul_le_mul_of_nonneg_left h5 (by omega)⟩
  omega
 ·intro h
  have := m.2 (by omega)
  refine ⟨ht, hp, cp, Int.not_lt.1 fun q => ?_, Int.le_of_mul_le_mul_left this.2 hL⟩
  have := Int.mul_lt_mul_of_pos_left q hL
  omega
/-! ### The overlap: the common ends -/
theorem mem_fold (s t : Sg) (p : Pt) : ∀ (l out : List Pt), p ∈ l.foldl (addP s t) out ↔ p ∈ out ∨ (p ∈ l ∧ BothP s t p)
 | [], out => by simp
 | q :: l, out => by
  rw [List.foldl_cons, mem_fold s t p l]
  unfold addP
  by_cases hq : BothP s t q
  ·by_cases hm : q ∈ out
   ·rw [if_neg (fun h => h.2 hm)]
    constructor
    ·rintro (h | h)
     ·exact Or.inl h
     ·exact Or.inr ⟨List.mem_cons_of_mem _ h.1, h.2⟩
    ·rintro (h | ⟨h, h2⟩)
     ·exact Or.inl h
     ·rcases List.mem_cons.1 h with e | h
      ·exact Or.inl (e ▸ hm)
      ·exact Or.inr ⟨h, h2⟩
   ·rw [if_pos ⟨hq, hm⟩]
    constructor
    ·rintro (h | h)
     ·rcases List.mem_append.1 h with h | h
      ·exact Or.inl h
      ·have e := List.mem_singleton.1 h
       exact Or.inr ⟨e ▸ List.mem_cons_self, e ▸ hq⟩
     ·exact Or.inr ⟨List.mem_cons_of_mem _ h.1, h.2⟩
    ·rintro (h | ⟨h, h2⟩)
     ·exact Or.inl (List.mem_append.2 (Or.inl h))
     ·rcases List.mem_cons.1 h with e | h
      ·exact Or.inl (List.mem_append.2 (Or.inr (List.mem_singleton.2 e)))
      ·exact Or.inr ⟨h, h2⟩
  ·rw [if_neg (fun h => hq h.1)]
   constructor
   ·rintro (h | h)
    ·exact Or.inl h
    ·exact Or.inr ⟨List.mem_cons_of_mem _ h.1, h.2⟩
   ·rintro (h | ⟨h, h2⟩)
    ·exact Or.inl h
    ·rcases List.mem_cons.1 h with e | h
     ·exact absurd (e ▸ h2) hq
     ·exact Or.inr ⟨h, h2⟩
theorem nodup_fold (s t : Sg) : ∀ (l out : List Pt), out.Nodup → (l.foldl (addP s t) out).Nodup
 | [], out, h => h
 | q :: l, out, h => by
  rw [List.foldl_cons]
  refine nodup_fold s t l _ ?_
  unfold addP
  split
  ·rename_i hc
   rw [List.nodup_append]
   refine ⟨h, by simp, fun a ha b hb e => ?_⟩
   rw [List.mem_singleton.1 hb] at e
   exact hc.2 (e ▸ ha)
  ·exact h
theorem mem_com (s t : Sg) (p : Pt) : p ∈ comK s t 4 ↔ p ∈ endsL s t ∧ BothP s t p := by
 have : comK s t 4 = (endsL s t).foldl (addP s t) [] := rfl
 rw [this, mem_fold]
 simp
theorem nodup_com (s t : Sg) : (comK s t 4).Nodup := nodup_fold s t _ [] List.nodup_nil
/-- What the walk of the ends has at a list of ends. -/
def FI (s t : Sg) (l : List Pt) (x : Fl) : Prop :=
 (x.sm = false → ∀ p ∈ l, ¬ BothP s t p) ∧ (x.sm = true → x.f ∈ l ∧ BothP s t x.f ∧ x.l ∈ l ∧ BothP s t x.l ∧ ∀ p ∈ l, BothP s t p → dotF s.a s.b x.f ≤ dotF s.a s.b p ∧ dotF s.a s.b p ≤ dotF s.a s.b x.l)
theorem FI_step {s t : Sg} {l : List Pt} {x : Fl} (h : FI s t l x) (p : Pt) : FI s t (l ++ [p]) (stepFl s t x p) := by
 obtain ⟨h0, h1⟩ := h
 have ml : ∀ q, q ∈ l → q ∈ l ++ [p] := fun q hq => List.mem_append.2 (Or.inl hq)
 have mp : p ∈ l ++ [p] := List.mem_append.2 (Or.inr (List.mem_singleton.2 rfl))
 have mc : ∀ q, q ∈ l ++ [p] → q ∈ l ∨ q = p := fun q hq => (List.mem_append.1 hq).imp id List.mem_singleton.1
 by_cases hp : BothP s t p
 ·cases hsm : x.sm
  ·rw [st_new s t x p hp.1 hp.2 hsm]
   refine ⟨fun e => Bool.noConfusion e, fun _ => ⟨mp, hp, mp, hp, fun q hq hb => ?_⟩⟩
   rcases mc q hq with hq | hq
   ·exact absurd hb (h0 hsm q hq)
   ·subst hq; exact ⟨Int.le_refl _, Int.le_refl _⟩
  ·obtain ⟨a1, a2, a3, a4, a5⟩ := h1 hsm
   have hfl := a5 x.f a1 a2
   by_cases c1 : dotF s.a s.b p < dotF s.a s.b x.f <;> by_cases c2 : dotF s.a s.b x.l < dotF s.a s.b p
   ·omega
   ·rw [st_tf s t x p hp.1 hp.2 hsm c1 c2]
    refine ⟨fun e => Bool.noConfusion e, fun _ => ⟨mp, hp, ml _ a3, a4, fun q hq hb => ?_⟩⟩
    rcases mc q hq with hq | hq
    ·have := a5 q hq hb; simp only; omega
    ·subst hq; simp only; omega
   ·rw [st_ft s t x p hp.1 hp.2 hsm c1 c2]
    refine ⟨fun e => Bool.noConfusion e, fun _ => ⟨ml _ a1, a2, mp, hp, fun q hq hb => ?_⟩⟩
    rcases mc q hq with hq | hq
    ·have := a5 q hq hb; simp only; omega
    ·subst hq; simp only; omega
   ·rw [st_ff s t x p hp.1 hp.2 hsm c1 c2]
    refine ⟨fun e => Bool.noConfusion e, fun _ => ⟨ml _ a1, a2, ml _ a3, a4, fun q hq hb => ?_⟩⟩
    rcases mc q hq with hq | hq
    ·exact a5 q hq hb
    ·subst hq; simp only; omega
 ·have e : stepFl s t x p = x := st_no s t x p (by
   by_cases q : OnP s p
   ·exact Or.inr fun h => hp ⟨q, h⟩
   ·exact Or.inl q)
  rw [e]
  refine ⟨fun hs q hq hb => ?_, fun hs => ?_⟩
  ·rcases mc q hq with hq | hq
   ·exact h0 hs q hq hb
   ·exact hp (hq ▸ hb)
  ·obtain ⟨a1, a2, a3, a4, a5⟩ := h1 hs
   refine ⟨ml _ a1, a2, ml _ a3, a4, fun q hq hb => ?_⟩
   rcases mc q hq with hq | hq
   ·exact a5 q hq hb
   ·exact absurd (hq ▸ hb) hp
theorem FI_four (s t : Sg) : FI s t (endsL s t) (flK s t 4) := by
 have h0 : FI s t [] ⟨false, ⟨0, 0⟩, ⟨0, 0⟩⟩ := ⟨fun _ p hp => absurd hp (List.not_mem_nil), fun h => Bool.noConfusion h⟩
 exact FI_step (FI_step (FI_step (FI_step h0 s.a) s.b) t.a) t.b
end Go.Proofs.YtcomiiakkhafpaaGreat
namespace Go.Proofs.YtcomiiakkhafpaaGreat
open Go.Proofs.YtcomiiakkhafpaaGreat.Am Go.Sort Go.Proofs
variable [Inhabited DRT]
theorem getD_of {l : List Pt} {i : Nat} (h : i < l.length) : l.getD i default = l[i] := by
 rw [List.getD_eq_getElem?_getD, List.getElem?_eq_getElem h]; rfl
theorem on_all {s : Sg} {p : Pt} (h : OnP s p) : MayPt p ∧ crs s.a s.b p = 0 ∧ dotF s.a s.b p = dotP s.a s.b p := ⟨h.2.1, h.2.2.1, dotF_eq (All3_line h.1 h.2.1)⟩
theorem onB {s : Sg} (h : LineS s) : OnP s s.b := by
 refine ⟨h, h.2.1, ?_, ?_, Int.le_refl _⟩
 ·unfold crs; grind
 ·have := len_pos h; omega
theorem touch_both {s t : Sg} (hT : TouchP s t) (hA : AlongP s t) : ∃ p ∈ endsL s t, BothP s t p := by
 obtain ⟨hs, ht, hc⟩ := hT
 rcases hc with h | h | h | h | h
 ·exact ⟨t.a, by simp [endsL], h, onA ht⟩
 ·exact ⟨t.b, by simp [endsL], h, onB ht⟩
 ·exact ⟨s.a, by simp [endsL], onA hs, h⟩
 ·exact ⟨s.b, by simp [endsL], onB hs, h⟩
 ·have := h.1
  have := hA.2.2
  unfold Opp at *
  omega
theorem part_eq {s : Sg} (hs : LineS s) {p : Pt} (h : p = s.a ∨ p = s.b) : partF s p = if p = s.b then 1 else 0 := by
 have hne : s.a ≠ s.b := fun e => hs.2.2 ⟨congrArg Pt.x e, congrArg Pt.y e⟩
 unfold partF
 rcases h with h | h
 ·rw [if_pos h, if_neg (fun e => hne (h.symm.trans e))]
 ·rw [if_neg (fun e => hne (e.symm.trans h)), if_pos h]
theorem over_eq {s t : Sg} (hT : TouchP s t) (hA : AlongP s t) : 0 < (comK s t 4).length ∧ overL s t (comS s t hT.1) = refOver s t := by
 obtain ⟨p0, m0, b0⟩ := touch_both hT hA
 have hF := FI_four s t
 have hs := hT.1
 have ht := hT.2.1
 have hsm : (flK s t 4).sm = true := by
  cases h : (flK s t 4).sm
  ·exact absurd b0 (hF.1 h p0 m0)
  ·rfl
 obtain ⟨f1, f2, l1, l2, hmm⟩ := hF.2 hsm
 have hperm := comS_perm s t hs
 have hlen : (comS s t hs).length = (comK s t 4).length := hperm.length_eq
 have hmem : ∀ p, p ∈ comS s t hs ↔ p ∈ endsL s t ∧ BothP s t p := fun p => (hperm.mem_iff).trans (mem_com s t p)
 have hnd : (comS s t hs).Nodup := (hperm.nodup_iff).2 (nodup_com s t)
 have hsort := comS_sorted s t hs
 generalize hX : (flK s t 4).f = f at *
 generalize hY : (flK s t 4).l = l at *
 have h0 : 0 < (comS s t hs).length := List.length_pos_of_mem ((hmem f).2 ⟨f1, f2⟩)
 refine ⟨by omega, ?_⟩
 have e : refOver s t = if f ≠ l then ⟨2, 0, 0, 0, f, l⟩ else ⟨1, if f = s.b then 1 else 0, if f = t.b then 1 else 0, 1, ⟨0, 0⟩, ⟨0, 0⟩⟩ := by unfold refOver; rw [hX, hY]
 rw [e]
 generalize hS : comS s t hs = S at *
 have inj : ∀ p q, OnP s p → OnP s q → dotF s.a s.b p = dotF s.a s.b q → p = q := fun p q hp hq h => by
  obtain ⟨_, a2, a3⟩ := on_all hp
  obtain ⟨_, b2, b3⟩ := on_all hq
  exact dot_inj hs a2 b2 (by omega)
 have gm : ∀ i, i < S.length → S.getD i default ∈ S := fun i hi => by rw [getD_of hi]; exact List.getElem_mem hi
 have idx : ∀ p, p ∈ S → ∃ i, i < S.length ∧ S.getD i default = p := fun p hp => by
  obtain ⟨i, hi, e⟩ := List.getElem_of_mem hp
  exact ⟨i, hi, by rw [getD_of hi]; exact e⟩
 have hle : ∀ i j, i ≤ j → j < S.length → dotF s.a s.b (S.getD i default) ≤ dotF s.a s.b (S.getD j default) := fun i j hij hj => by
  rcases Nat.lt_or_eq_of_le hij with h | h
  ·exact hsort i j h hj
  ·subst h; exact Int.le_refl _
 have ef : S.getD 0 default = f := by
  have m := (hmem _).1 (gm 0 h0)
  obtain ⟨i, hi, ei⟩ := idx f ((hmem f).2 ⟨f1, f2⟩)
  have a := hle 0 i (Nat.zero_le _) hi
  rw [ei] at a
  have b := (hmm _ m.1 m.2).1
  exact inj _ _ m.2.1 f2.1 (by omega)
 have el : S.getD (S.length - 1) default = l := by
  have m := (hmem _).1 (gm (S.length - 1) (by omega))
  obtain ⟨i, hi, ei⟩ := idx l ((hmem l).2 ⟨l1, l2⟩)
  have a := hle i (S.length - 1) (by omega) (by omega)
  rw [ei] at a
  have b := (hmm _ m.1 m.2).2
  exact inj _ _ m.2.1 l2.1 (by omega)
 unfold overL
 by_cases h1 : S.length = 1
 ·have efl : f = l := by rw [← ef, ← el, h1]
  rw [if_pos h1, if_neg (fun h => h efl), ef]
  obtain ⟨hL, hne, hall⟩ := one_dim hA
  have z : dotP s.a s.b s.a = 0 := by unfold dotP; grind
  obtain ⟨fm, fc, fd⟩ := on_all f2.1
  have key : ∀ q, q ∈ endsL s t → BothP s t q → dotP s.a s.b q = dotP s.a s.b f := fun q hq hb => by
   have := hmm q hq hb
   rw [← efl] at this
   have e1 := (on_all hb.1).2.2
   omega
  obtain ⟨ia, ib⟩ := hall f fm fc
  have jf := ia.1 f2.1
  have kf := ib.1 f2.2
  have ca : crs s.a s.b t.a = 0 := by have := hA.2.2.1; rwa [crsF_eq (All3_line hs ht.1)] at this
  have cb : crs s.a s.b t.b = 0 := by have := hA.2.2.2; rwa [crsF_eq (All3_line hs ht.2.1)] at this
  have ka : (dotP s.a s.b t.a ≤ 0 ∧ 0 ≤ dotP s.a s.b t.b) ∨ (dotP s.a s.b t.b ≤ 0 ∧ 0 ≤ dotP s.a s.b t.a) → 0 = dotP s.a s.b f := fun h => by
   have q := (hall s.a hs.1 (onA hs).2.2.1).2.2 (by rw [z]; exact h)
   have := key s.a (by simp [endsL]) ⟨onA hs, q⟩
   omega
  have kb : (dotP s.a s.b t.a ≤ dotP s.a s.b s.b ∧ dotP s.a s.b s.b ≤ dotP s.a s.b t.b) ∨ (dotP s.a s.b t.b ≤ dotP s.a s.b s.b ∧ dotP s.a s.b s.b ≤ dotP s.a s.b t.a) → dotP s.a s.b s.b = dotP s.a s.b f := fun h => by
   have q := (hall s.b hs.2.1 (onB hs).2.2.1).2.2 h
   exact key s.b (by simp [endsL]) ⟨onB hs, q⟩
  have kc : 0 ≤ dotP s.a s.b t.a ∧ dotP s.a s.b t.a ≤ dotP s.a s.b s.b → dotP s.a s.b t.a = dotP s.a s.b f := fun h =>
   key t.a (by simp [endsL]) ⟨(hall t.a ht.1 ca).1.2 h, onA ht⟩
  have kd : 0 ≤ dotP s.a s.b t.b ∧ dotP s.a s.b t.b ≤ dotP s.a s.b s.b → dotP s.a s.b t.b = dotP s.a s.b f := fun h =>
   key t.b (by simp [endsL]) ⟨(hall t.b ht.2.1 cb).1.2 h, onB ht⟩
  have g1 : dotP s.a s.b f = 0 ∨ dotP s.a s.b f = dotP s.a s.b s.b := by omega
  have g2 : dotP s.a s.b f = dotP s.a s.b t.a ∨ dotP s.a s.b f = dotP s.a s.b t.b := by omega
  have i1 : f = s.a ∨ f = s.b := by
   rcases g1 with g | g
   ·exact Or.inl (dot_inj hs fc (onA hs).2.2.1 (by omega))
   ·exact Or.inr (dot_inj hs fc (onB hs).2.2.1 g)
  have i2 : f = t.a ∨ f = t.b := by
   rcases g2 with g | g
   ·exact Or.inl (dot_inj hs fc ca g)
   ·exact Or.inr (dot_inj hs fc cb g)
  rw [part_eq hs i1, part_eq ht i2]
 ·have hn : f ≠ l := fun h => by
   rw [← ef, ← el, getD_of h0, getD_of (show S.length - 1 < S.length by omega)] at h
   exact List.pairwise_iff_getElem.1 hnd 0 (S.length - 1) h0 (by omega) (by omega) h
  rw [if_neg h1, if_pos hn, ef, el]
/-- What the two meetings answer. -/
def meetM (s t : Sg) : Mt := if TouchP s t then (if rD s t = 0 then refOver s t else refCross s t) else mt0
variable {G : GInv}
theorem of_c0 (hns : ¬ (default : DRT).ns) (s t : Sg) : ACalls Tryz.prog G 23 [.agg (sgA s), .agg (sgA t)] (.agg (mtA (meetM s t))) := by
 unfold meetM
 by_cases hT : TouchP s t
 ·rw [if_pos hT]
  by_cases hA : AlongP s t
  ·rw [if_pos ((along_iff s t hT).1 hA), ← (over_eq hT hA).2]
   exact of_over hns s t hT hA (over_eq hT hA).1
  ·rw [if_neg (fun h => hA ((along_iff s t hT).2 h)), ← cross_eq]
   exact of_cross s t hT hA
 ·rw [if_neg hT]; exact of_none s t hT
theorem of_c (s t : Sg) : ACalls Tryz.prog G 23 [.agg (sgA s), .agg (sgA t)] (.agg (mtA (meetM s t))) := by
 by_cases hns : (default : DRT).ns
 ·exact calls_lift (i := drF) hns (@of_c0 drF G (fun q => q) s t)
 ·exact of_c0 hns s t
theorem rof_c (s t : Sg) : ACalls Tryz.prog G 81 [.agg (sgA s), .agg (sgA t)] (.agg (mtA (meetM s t))) := by
 unfold meetM
 by_cases hT : TouchP s t
 ·rw [if_pos hT]
  by_cases hd : rD s t = 0
  ·rw [if_pos hd]; exact rof_over s t hT hd
  ·rw [if_neg hd]; exact rof_cross s t hT hd
 ·rw [if_neg hT]; exact rof_none s t hT
theorem meet_touch (s t : Sg) : (meetM s t).k ≠ 0 ↔ TouchP s t := by
 unfold meetM
 by_cases hT : TouchP s t
 ·rw [if_pos hT]
  refine ⟨fun _ => hT, fun _ => ?_⟩
  by_cases hd : rD s t = 0
  ·rw [if_pos hd]; unfold refOver; split <;> simp
  ·rw [if_neg hd]; unfold refCross; split <;> simp
 ·rw [if_neg hT]; simp [mt0, hT]
end Go.Proofs.YtcomiiakkhafpaaGreat
namespace Go.Proofs.YtcomiiakkhafpaaGreat
open Go.Proofs.YtcomiiakkhafpaaGreat.Am Go.Sort Go.Proofs
variable [Inhabited DRT]
variable {G : GInv}
end Go.Proofs.YtcomiiakkhafpaaGreat
namespace Go.Proofs.YtcomiiakkhafpaaGreat
open Go.Proofs.YtcomiiakkhafpaaGreat.Am Go.Sort Go.Proofs
variable [Inhabited DRT]
theorem rD_comm (s t : Sg) : rD t s = -rD s t := by unfold rD; grind
theorem rN_comm (s t : Sg) : rN t s = -rM s t := by unfold rN rM; grind
theorem rM_comm (s t : Sg) : rM t s = -rN s t := by unfold rN rM; grind
/-- The place of a meeting lies within the line. -/
def Wi (d n : Int) : Prop := (0 < d → 0 ≤ n ∧ n ≤ d) ∧ (d < 0 → d ≤ n ∧ n ≤ 0)
theorem wi_cross (ux uy vx vy wx wy : Int) (h : ux * wy - uy * wx = 0) : (ux * vy - uy * vx) * (ux * wx + uy * wy) = (wx * vy - wy * vx) * (ux * ux + uy * uy) := by grind
theorem wi_on {s t : Sg} {p : Pt} (h : OnP s p) (hn : (p.x - s.a.x) * (t.b.y - t.a.y) - (p.y - s.a.y) * (t.b.x - t.a.x) = rN s t) : Wi (rD s t) (rN s t) := by
 obtain ⟨hs, hp, hc, h0, h1⟩ := h
 have hL := len_pos hs
 have e := wi_cross (s.b.x - s.a.x) (s.b.y - s.a.y) (t.b.x - t.a.x) (t.b.y - t.a.y) (p.x - s.a.x) (p.y - s.a.y) hc
 rw [hn] at e
 have b := betw (u := rD s t) (v := rN s t) (D := dotP s.a s.b p) (L := dotP s.a s.b s.b) hL h0 h1 e
 exact ⟨fun hd => b.1 (by omega), fun hd => b.2 (by omega)⟩
theorem wi_s {s t : Sg} {p : Pt} (h : OnP s p) (hp : p = t.a ∨ p = t.b) : Wi (rD s t) (rN s t) ∧ Wi (rD s t) (rM s t) := by
 constructor
 ·refine wi_on h ?_
  rcases hp with hp | hp
  ·subst hp; rfl
  ·subst hp; unfold rN; grind
 ·obtain ⟨hs, _, hc, _, _⟩ := h
  have e1 := rm_eq s t
  have e2 := rd2_eq s t
  have : rM s t = 0 ∨ rM s t = rD s t := by
   rcases hp with hp | hp
   ·subst hp; omega
   ·subst hp; omega
  unfold Wi
  omega
theorem wi_neg {d n : Int} (h : Wi (-d) (-n)) : Wi d n := by unfold Wi at *; omega
theorem wi_touch {s t : Sg} (hT : TouchP s t) : Wi (rD s t) (rN s t) ∧ Wi (rD s t) (rM s t) := by
 obtain ⟨hs, ht, h⟩ := hT
 have sw : ∀ p, OnP t p → p = s.a ∨ p = s.b → Wi (rD s t) (rN s t) ∧ Wi (rD s t) (rM s t) := fun p h hp => by
  have := wi_s h hp
  rw [rD_comm s t, rN_comm s t, rM_comm s t] at this
  exact ⟨wi_neg this.2, wi_neg this.1⟩
 rcases h with h | h | h | h | ⟨h1, h2⟩
 ·exact wi_s h (Or.inl rfl)
 ·exact wi_s h (Or.inr rfl)
 ·exact sw _ h (Or.inl rfl)
 ·exact sw _ h (Or.inr rfl)
 ·rw [crsF_eq (All3_line hs ht.1), crsF_eq (All3_line hs ht.2.1)] at h1
  rw [crsF_eq (All3_line ht hs.1), crsF_eq (All3_line ht hs.2.1)] at h2
  have e1 := rm_eq s t
  have e2 := rd2_eq s t
  have e3 := rd_eq s t
  have e4 := rn_eq s t
  unfold Opp at h1 h2
  unfold Wi
  omega
theorem cross_bd {s t : Sg} (hT : TouchP s t) (hd : rD s t ≠ 0) : 0 ≤ (refCross s t).n ∧ (refCross s t).n ≤ (refCross s t).d ∧ 0 ≤ (refCross s t).m ∧ (refCross s t).m ≤ (refCross s t).d ∧ (refCross s t).k = 1 := by
 have h := wi_touch hT
 unfold Wi at h
 by_cases hn : rD s t < 0
 ·have e : refCross s t = ⟨1, -(rN s t), -(rM s t), -(rD s t), ⟨0, 0⟩, ⟨0, 0⟩⟩ := by unfold refCross; rw [if_pos hn]
  rw [e]
  refine ⟨?_, ?_, ?_, ?_, rfl⟩ <;> dsimp only <;> omega
 ·have e : refCross s t = ⟨1, rN s t, rM s t, rD s t, ⟨0, 0⟩, ⟨0, 0⟩⟩ := by unfold refCross; rw [if_neg hn]
  rw [e]
  refine ⟨?_, ?_, ?_, ?_, rfl⟩ <;> dsimp only <;> omega
/-- The least and the greatest common end. -/
structure Exts (s t : Sg) (f l : Pt) : Prop where
 fe : f ∈ endsL s t
 fb : BothP s t f
 le : l ∈ endsL s t
 lb : BothP s t l
 mm : ∀ p ∈ endsL s t, BothP s t p → dotF s.a s.b f ≤ dotF s.a s.b p ∧ dotF s.a s.b p ≤ dotF s.a s.b l
def ovM (s t : Sg) (f l : Pt) : Mt := if f ≠ l then ⟨2, 0, 0, 0, f, l⟩ else ⟨1, if f = s.b then 1 else 0, if f = t.b then 1 else 0, 1, ⟨0, 0⟩, ⟨0, 0⟩⟩
theorem exts {s t : Sg} (hT : TouchP s t) (hA : AlongP s t) : ∃ f l, Exts s t f l ∧ refOver s t = ovM s t f l := by
 obtain ⟨p0, m0, b0⟩ := touch_both hT hA
 have hF := FI_four s t
 have hsm : (flK s t 4).sm = true := by
  cases h : (flK s t 4).sm
  ·exact absurd b0 (hF.1 h p0 m0)
  ·rfl
 obtain ⟨f1, f2, l1, l2, hmm⟩ := hF.2 hsm
 exact ⟨(flK s t 4).f, (flK s t 4).l, ⟨f1, f2, l1, l2, hmm⟩, rfl⟩
end Go.Proofs.YtcomiiakkhafpaaGreat

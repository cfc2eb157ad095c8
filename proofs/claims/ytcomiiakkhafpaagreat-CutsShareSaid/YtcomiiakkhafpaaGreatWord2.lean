/-
  Both lines tell the same place.
-/
import Derived.Test.YtcomiiakkhafpaaGreatWord1
import Derived.Test.YtcomiiakkhafpaaGreatMeet3
set_option linter.unusedSimpArgs false
set_option linter.unusedSectionVars false
namespace Go.Proofs.YtcomiiakkhafpaaGreat
open Go.Proofs.YtcomiiakkhafpaaGreat.Am
variable [Inhabited DRT]
variable {G : GInv}
end Go.Proofs.YtcomiiakkhafpaaGreat
namespace Go.Proofs.YtcomiiakkhafpaaGreat
open Go.Proofs.YtcomiiakkhafpaaGreat.Am Go.Sort Go.Proofs
variable [Inhabited DRT]
variable {G : GInv}
/-! ### The point of the grid -/
theorem one_end {s t : Sg} (hT : TouchP s t) (hA : AlongP s t) {f l : Pt} (h : Exts s t f l) (e : f = l) : (f = s.a ∨ f = s.b) ∧ (f = t.a ∨ f = t.b) := by
 have hs := hT.1
 have ht := hT.2.1
 obtain ⟨f1, f2, l1, l2, hmm⟩ := h
 subst e
 obtain ⟨hL, hne, hall⟩ := one_dim hA
 have z : dotP s.a s.b s.a = 0 := by unfold dotP; grind
 obtain ⟨fm, fc, fd⟩ := on_all f2.1
 have key : ∀ q, q ∈ endsL s t → BothP s t q → dotP s.a s.b q = dotP s.a s.b f := fun q hq hb => by
  have := hmm q hq hb
  have e1 := (on_all hb.1).2.2
  omega
 obtain ⟨ia, ib⟩ := hall f fm fc
 have jf := ia.1 f2.1
 have kf := ib.1 f2.2
 have ca : crs s.a s.b t.a = 0 := by have := hA.2.2.1; rwa [crsF_eq (All3_line hs ht.1)] at this
 have cb : crs s.a s.b t.b = 0 := by have := hA.2.2.2; rwa [crsF_eq (All3_line hs ht.2.1)] at this
 have ka : (dotP s.a s.b t.a ≤ 0 ∧ 0 ≤ dotP s.a s.b t.b) ∨ (dotP s.a s.b t.b ≤ 0 ∧ 0 ≤ dotP s.a s.b t.a) → 0 = dotP s.a s.b f := fun h => by
  have q := (hall s.a hs.1 (onA hs).2.2.1).2.2 (by rw [z]; exact h)
  have := key s.a (by simp [endsL]) ⟨onA hs, q⟩
  omega
 have kb : (dotP s.a s.b t.a ≤ dotP s.a s.b s.b ∧ dotP s.a s.b s.b ≤ dotP s.a s.b t.b) ∨ (dotP s.a s.b t.b ≤ dotP s.a s.b s.b ∧ dotP s.a s.b s.b ≤ dotP s.a s.b t.a) → dotP s.a s.b s.b = dotP s.a s.b f := fun h => by
  have q := (hall s.b hs.2.1 (onB hs).2.2.1).2.2 h
  exact key s.b (by simp [endsL]) ⟨onB hs, q⟩
 have kc : 0 ≤ dotP s.a s.b t.a ∧ dotP s.a s.b t.a ≤ dotP s.a s.b s.b → dotP s.a s.b t.a = dotP s.a s.b f := fun h =>
  key t.a (by simp [endsL]) ⟨(hall t.a ht.1 ca).1.2 h, onA ht⟩
 have kd : 0 ≤ dotP s.a s.b t.b ∧ dotP s.a s.b t.b ≤ dotP s.a s.b s.b → dotP s.a s.b t.b = dotP s.a s.b f := fun h =>
  key t.b (by simp [endsL]) ⟨(hall t.b ht.2.1 cb).1.2 h, onB ht⟩
 have g1 : dotP s.a s.b f = 0 ∨ dotP s.a s.b f = dotP s.a s.b s.b := by omega
 have g2 : dotP s.a s.b f = dotP s.a s.b t.a ∨ dotP s.a s.b f = dotP s.a s.b t.b := by omega
 constructor
 ·rcases g1 with g | g
  ·exact Or.inl (dot_inj hs fc (onA hs).2.2.1 (by omega))
  ·exact Or.inr (dot_inj hs fc (onB hs).2.2.1 g)
 ·rcases g2 with g | g
  ·exact Or.inl (dot_inj hs fc ca g)
  ·exact Or.inr (dot_inj hs fc cb g)
theorem same_cross (ux uy vx vy wx wy ax : Int) : ux * (wx * vy - wy * vx) + ax * (ux * vy - uy * vx) = vx * (wx * uy - wy * ux) + (wx + ax) * (ux * vy - uy * vx) := by grind
theorem same_neg (a b c d e f g : Int) (h : a * b + c * d = e * f + g * d) : a * -b + c * -d = e * -f + g * -d := by grind
/-- Both lines tell the same place. -/
theorem same_place (s t : Sg) (h : (meetM s t).k = 1) : TouchP s t ∧ 0 ≤ (meetM s t).n ∧ 0 ≤ (meetM s t).m ∧ 0 < (meetM s t).d ∧ (meetM s t).n ≤ (meetM s t).d ∧ (meetM s t).m ≤ (meetM s t).d ∧
  (meetM s t).d ≤ 9223372036854775807 ∧
  (s.b.x - s.a.x) * (meetM s t).n + s.a.x * (meetM s t).d = (t.b.x - t.a.x) * (meetM s t).m + t.a.x * (meetM s t).d := by
 unfold meetM at *
 by_cases hT : TouchP s t
 ·rw [if_pos hT] at *
  refine ⟨hT, ?_⟩
  by_cases hd : rD s t = 0
  ·rw [if_pos hd] at *
   have hA := (along_iff s t hT).2 hd
   obtain ⟨f, l, hE, hR⟩ := exts hT hA
   rw [hR] at h ⊢
   unfold ovM at h ⊢
   by_cases hf : f = l
   ·rw [if_neg (fun q => q hf)] at h ⊢
    obtain ⟨o1, o2⟩ := one_end hT hA hE hf
    have ns : s.a ≠ s.b := fun e => hT.1.2.2 (by rw [e]; exact ⟨rfl, rfl⟩)
    have nt : t.a ≠ t.b := fun e => hT.2.1.2.2 (by rw [e]; exact ⟨rfl, rfl⟩)
    refine ⟨?_, ?_, Int.zero_lt_one, ?_, ?_, (by show (1 : Int) ≤ 9223372036854775807; decide), ?_⟩
    ·dsimp only; split <;> omega
    ·dsimp only; split <;> omega
    ·dsimp only; split <;> omega
    ·dsimp only; split <;> omega
    ·dsimp only
     rcases o1 with o1 | o1
     ·rw [if_neg (fun q => ns (o1.symm.trans q))]
      rcases o2 with o2 | o2
      ·rw [if_neg (fun q => nt (o2.symm.trans q)), ← o1, ← o2]; omega
      ·rw [if_pos o2, ← o1, ← o2]; omega
     ·rw [if_pos o1]
      rcases o2 with o2 | o2
      ·rw [if_neg (fun q => nt (o2.symm.trans q)), ← o1, ← o2]; omega
      ·rw [if_pos o2, ← o1, ← o2]; omega
   ·rw [if_pos hf] at h; exact absurd (show (2 : Int) = 1 from h) (by decide)
  ·rw [if_neg hd] at *
   obtain ⟨b1, b2, b3, b4, _⟩ := cross_bd hT hd
   obtain ⟨_, _, b5, b6⟩ := rbd hT.1 hT.2.1
   have hbd : -9223372036854775807 ≤ rD s t ∧ rD s t ≤ 9223372036854775807 := by unfold rD; omega
   have e := same_cross (s.b.x - s.a.x) (s.b.y - s.a.y) (t.b.x - t.a.x) (t.b.y - t.a.y) (t.a.x - s.a.x) (t.a.y - s.a.y) s.a.x
   rw [show t.a.x - s.a.x + s.a.x = t.a.x by omega] at e
   have e' : (s.b.x - s.a.x) * rN s t + s.a.x * rD s t = (t.b.x - t.a.x) * rM s t + t.a.x * rD s t := e
   by_cases hn : rD s t < 0
   ·have eq : refCross s t = ⟨1, -(rN s t), -(rM s t), -(rD s t), ⟨0, 0⟩, ⟨0, 0⟩⟩ := by unfold refCross; rw [if_pos hn]
    rw [eq] at b1 b2 b3 b4 ⊢
    dsimp only at b1 b2 b3 b4 ⊢
    refine ⟨b1, b3, by omega, b2, b4, by omega, same_neg _ _ _ _ _ _ _ e'⟩
   ·have eq : refCross s t = ⟨1, rN s t, rM s t, rD s t, ⟨0, 0⟩, ⟨0, 0⟩⟩ := by unfold refCross; rw [if_neg hn]
    rw [eq] at b1 b2 b3 b4 ⊢
    dsimp only at b1 b2 b3 b4 ⊢
    refine ⟨b1, b3, by omega, b2, b4, by omega, e'⟩
 ·rw [if_neg hT] at h; exact absurd h (by decide)
end Go.Proofs.YtcomiiakkhafpaaGreat

/-
  The theorem of cuts: plain laws and contracts that the law CutsShare leans on.
-/
import Derived.Test.YtcomiiakkhafpaaGreatMeet3
import Derived.Test.YtcomiiakkhafpaaGreatWord2
import Derived.Test.YtcomiiakkhafpaaGreatSpot1
import Derived.Test.YtcomiiakkhafpaaGreatCut2
import Derived.Test.YtcomiiakkhafpaaGreatAm4
import Derived.Test.YtcomiiakkhafpaaGreatAm5
set_option linter.unusedSimpArgs false
set_option linter.unusedSectionVars false
namespace Go.Proofs.YtcomiiakkhafpaaGreat
open Go.Proofs.YtcomiiakkhafpaaGreat.Am Go.Sort Go.Proofs Go.Lib
variable [Inhabited DRT]
variable {G : GInv}
theorem rone_len (s : Sg) (l : List Sg) (but : Int) : ∀ k, (rOneK s l but k).length ≤ 2 + 2 * k
 | 0 => Nat.le_refl _
 | k + 1 => by
  have h1 := rone_len s l but k
  have h2 := byL_len s (l.getD k default)
  have h3 : ∀ (M L : List Cu), (M.foldl (putL ltU) L).length ≤ L.length + M.length := by
   intro M
   induction M with
   | nil => intro L; simp
   | cons c M ih =>
    intro L
    have := ih (putL ltU L c)
    have hp : (putL ltU L c).length ≤ L.length + 1 := by
     unfold putL
     split
     ·omega
     ·simp; omega
    rw [List.foldl_cons, List.length_cons]; omega
  unfold rOneK
  split
  ·omega
  ·have := h3 (byL s (l.getD k default)) (rOneK s l but k); omega
end Go.Proofs.YtcomiiakkhafpaaGreat

namespace Go.Proofs.YtcomiiakkhafpaaGreat
open Go.Proofs.YtcomiiakkhafpaaGreat.Am Go.Sort Go.Proofs
variable [Inhabited DRT]
/-! ### Seen from the other line -/
def trn (m : Mt) : Mt := ⟨m.k, m.m, m.n, m.d, m.p, m.q⟩
theorem touch_comm {s t : Sg} (h : TouchP s t) : TouchP t s := by
 obtain ⟨h1, h2, h3⟩ := h
 refine ⟨h2, h1, ?_⟩
 rcases h3 with h | h | h | h | ⟨h, h'⟩
 ·exact Or.inr (Or.inr (Or.inl h))
 ·exact Or.inr (Or.inr (Or.inr (Or.inl h)))
 ·exact Or.inl h
 ·exact Or.inr (Or.inl h)
 ·exact Or.inr (Or.inr (Or.inr (Or.inr ⟨h', h⟩)))
theorem cross_comm (s t : Sg) (h : rD s t ≠ 0) : refCross t s = trn (refCross s t) := by
 unfold refCross trn
 rw [rD_comm s t, rN_comm s t, rM_comm s t]
 by_cases hd : rD s t < 0
 ·rw [if_pos hd, if_neg (by omega)]
 ·rw [if_neg hd, if_pos (by omega)]
  simp
/-! ### The overlap -/
theorem along_comm {s t : Sg} (hT : TouchP s t) (h : AlongP s t) : AlongP t s := (along_iff t s (touch_comm hT)).2 (by rw [rD_comm, (along_iff s t hT).1 h]; rfl)
theorem aff {s t : Sg} (hA : AlongP s t) : ∃ a b L : Int, 0 < L ∧ a ≠ 0 ∧ ∀ p, crs s.a s.b p = 0 → L * dotP t.a t.b p = a * dotP s.a s.b p + b := by
 have hA' := hA
 obtain ⟨hs, ht, ca, cb⟩ := hA
 rw [crsF_eq (All3_line hs ht.1)] at ca
 rw [crsF_eq (All3_line hs ht.2.1)] at cb
 obtain ⟨hL, hne, _⟩ := one_dim hA'
 refine ⟨dotP s.a s.b t.b - dotP s.a s.b t.a, -((dotP s.a s.b t.b - dotP s.a s.b t.a) * dotP s.a s.b t.a), dotP s.a s.b s.b, hL, by omega, fun p hp => ?_⟩
 have uv : (s.b.x - s.a.x) * (t.b.y - t.a.y) - (s.b.y - s.a.y) * (t.b.x - t.a.x) = 0 := sub_par (show (s.b.x - s.a.x) * (t.b.y - s.a.y) - (s.b.y - s.a.y) * (t.b.x - s.a.x) = 0 from cb) ca
 have dv : dotP s.a s.b t.b - dotP s.a s.b t.a = (s.b.x - s.a.x) * (t.b.x - t.a.x) + (s.b.y - s.a.y) * (t.b.y - t.a.y) := by unfold dotP; grind
 have dw : dotP s.a s.b p - dotP s.a s.b t.a = (s.b.x - s.a.x) * (p.x - t.a.x) + (s.b.y - s.a.y) * (p.y - t.a.y) := by unfold dotP; grind
 have l2 := lagr (s.b.x - s.a.x) (s.b.y - s.a.y) (t.b.x - t.a.x) (t.b.y - t.a.y) (p.x - t.a.x) (p.y - t.a.y)
 rw [uv, ← dv, ← dw, Int.zero_mul, Int.add_zero] at l2
 have l2 : (dotP s.a s.b t.b - dotP s.a s.b t.a) * (dotP s.a s.b p - dotP s.a s.b t.a) = dotP s.a s.b s.b * dotP t.a t.b p := l2
 rw [← l2, Int.mul_sub]
 omega
theorem both_comm {s t : Sg} {p : Pt} (h : BothP s t p) : BothP t s p := ⟨h.2, h.1⟩
theorem ends_comm {s t : Sg} {p : Pt} (h : p ∈ endsL s t) : p ∈ endsL t s := by
 unfold endsL at *
 simp only [List.mem_cons, List.not_mem_nil, or_false] at *
 rcases h with h | h | h | h <;> simp [h]
/-- The least and the greatest common end. -/
theorem exts_uniq {s t : Sg} {f l f' l' : Pt} (h : Exts s t f l) (h' : Exts t s f' l') (hA : AlongP s t) : (f' = f ∧ l' = l) ∨ (f' = l ∧ l' = f) := by
 have hs := hA.1
 have ht := hA.2.1
 obtain ⟨a, b, L, hL, ha, haf⟩ := aff hA
 have dS : ∀ p, BothP s t p → dotF s.a s.b p = dotP s.a s.b p ∧ crs s.a s.b p = 0 := fun p hp => ⟨(on_all hp.1).2.2, (on_all hp.1).2.1⟩
 have dT : ∀ p, BothP s t p → dotF t.a t.b p = dotP t.a t.b p := fun p hp => (on_all hp.2).2.2
 have f'b := both_comm h'.fb
 have l'b := both_comm h'.lb
 have k1 := h.mm f' (ends_comm h'.fe) f'b
 have k2 := h.mm l' (ends_comm h'.le) l'b
 have k3 := h'.mm f (ends_comm h.fe) (both_comm h.fb)
 have k4 := h'.mm l (ends_comm h.le) (both_comm h.lb)
 rw [(dS _ h.fb).1, (dS _ h.lb).1, (dS _ f'b).1] at k1
 rw [(dS _ h.fb).1, (dS _ h.lb).1, (dS _ l'b).1] at k2
 rw [dT _ f'b, dT _ l'b, dT _ h.fb] at k3
 rw [dT _ f'b, dT _ l'b, dT _ h.lb] at k4
 have q1 := haf f (dS _ h.fb).2
 have q2 := haf l (dS _ h.lb).2
 have q3 := haf f' (dS _ f'b).2
 have q4 := haf l' (dS _ l'b).2
 have inj : ∀ p q, BothP s t p → BothP s t q → dotP s.a s.b p = dotP s.a s.b q → p = q := fun p q hp hq h => dot_inj hs (dS _ hp).2 (dS _ hq).2 h
 have m : ∀ x y : Int, x ≤ y → L * x ≤ L * y := fun x y h => Int.mul_le_mul_of_nonneg_left h (by omega)
 have m1 := m _ _ k3.1
 have m2 := m _ _ k3.2
 have m3 := m _ _ k4.1
 have m4 := m _ _ k4.2
 rw [q1, q3] at m1; rw [q1, q4] at m2; rw [q2, q3] at m3; rw [q2, q4] at m4
 rcases Int.lt_or_gt_of_ne ha with hn | hp
 ·right
  have r : ∀ x y : Int, a * x ≤ a * y → y ≤ x := fun x y h => Int.not_lt.1 fun q => by have := Int.mul_lt_mul_of_neg_left q hn; omega
  exact ⟨inj _ _ f'b h.lb (Int.le_antisymm k1.2 (r _ _ (by omega))), inj _ _ l'b h.fb (Int.le_antisymm (r _ _ (by omega)) k2.1)⟩
 ·left
  have r : ∀ x y : Int, a * x ≤ a * y → x ≤ y := fun x y h => Int.le_of_mul_le_mul_left h hp
  exact ⟨inj _ _ f'b h.fb (Int.le_antisymm (r _ _ (by omega)) k1.1), inj _ _ l'b h.lb (Int.le_antisymm k2.2 (r _ _ (by omega)))⟩
/-- The theorem of either way. -/
def TurnOk (m n : Mt) : Prop := (m.k = 2 → n.k = 2 ∧ ((n.p = m.p ∧ n.q = m.q) ∨ (n.p = m.q ∧ n.q = m.p)) ∧ m.p ≠ m.q) ∧
 (m.k ≠ 2 → trn m = n ∧ 0 ≤ m.n ∧ m.n ≤ m.d ∧ 0 ≤ m.m ∧ m.m ≤ m.d)
theorem ov_turn {s t : Sg} {f l f' l' : Pt} (h : (f' = f ∧ l' = l) ∨ (f' = l ∧ l' = f)) : TurnOk (ovM s t f l) (ovM t s f' l') := by
 unfold ovM
 by_cases hf : f = l
 ·have e1 : f' = f := by
   rcases h with h | h
   ·exact h.1
   ·rw [h.1, hf]
  have e2 : l' = f := by
   rcases h with h | h
   ·rw [h.2, hf]
   ·exact h.2
  subst hf
  rw [e1, e2, if_neg (fun h => h rfl), if_neg (fun h : ¬ f = f => h rfl)]
  refine ⟨fun h => absurd h (by dsimp only; omega), fun _ => ⟨rfl, ?_⟩⟩
  dsimp only
  refine ⟨?_, ?_, ?_, ?_⟩ <;> split <;> omega
 ·have e : f' ≠ l' := by
   rcases h with h | h
   ·rw [h.1, h.2]; exact hf
   ·rw [h.1, h.2]; exact fun e => hf e.symm
  rw [if_pos hf, if_pos e]
  exact ⟨fun _ => ⟨rfl, h, hf⟩, fun h => absurd rfl h⟩
theorem turns (s t : Sg) : TurnOk (meetM s t) (meetM t s) := by
 unfold meetM
 by_cases hT : TouchP s t
 ·have hT' := touch_comm hT
  rw [if_pos hT, if_pos hT']
  by_cases hd : rD s t = 0
  ·have hA := (along_iff s t hT).2 hd
   rw [if_pos hd, if_pos (by rw [rD_comm, hd]; rfl)]
   obtain ⟨f, l, h1, h2⟩ := exts hT hA
   obtain ⟨f', l', h3, h4⟩ := exts hT' (along_comm hT hA)
   rw [h2, h4]
   exact ov_turn (exts_uniq h1 h3 hA)
  ·rw [if_neg hd, if_neg (by rw [rD_comm]; omega), cross_comm s t hd]
   have b := cross_bd hT hd
   exact ⟨fun h => by omega, fun _ => ⟨rfl, b.1, b.2.1, b.2.2.1, b.2.2.2.1⟩⟩
 ·rw [if_neg hT, if_neg (fun h => hT (touch_comm h))]
  exact ⟨fun h => absurd h (by decide), fun _ => ⟨rfl, by decide, by decide, by decide, by decide⟩⟩
end Go.Proofs.YtcomiiakkhafpaaGreat
namespace Go.Proofs.YtcomiiakkhafpaaGreat
open Go.Proofs.YtcomiiakkhafpaaGreat.Am
variable [Inhabited DRT]
variable {G : GInv}
/-! ### Spots that may be; spots compared -/
theorem norm_low {x y : Int} {w : Nat} (hx : x.natAbs < 2 ^ 119) (hy : y.natAbs < 2 ^ 119) (h0 : 0 < w) (hw : w < 18446744073709551616) : NormP (qz x (gg x y w)) (qz y (gg x y w)) (w / gg x y w) := by
 have hgp := gg_pos (x := x) (y := y) h0
 have hgl := gg_le (x := x) (y := y) h0
 have d1 : gg x y w ∣ x.natAbs := Nat.dvd_trans (Nat.gcd_dvd_left _ _) (Nat.gcd_dvd_left _ _)
 have d2 : gg x y w ∣ y.natAbs := Nat.dvd_trans (Nat.gcd_dvd_left _ _) (Nat.gcd_dvd_right _ _)
 have d3 : gg x y w ∣ w := Nat.gcd_dvd_right _ _
 refine ⟨?_, ?_, ?_, Nat.div_pos hgl hgp, Nat.lt_of_le_of_lt (Nat.div_le_self _ _) hw⟩
 ·have e : gg x y w = Nat.gcd (Nat.gcd x.natAbs y.natAbs) w := rfl
  unfold gg at *
  rw [qz_abs, qz_abs, Nat.gcd_div d1 d2, Nat.gcd_div (Nat.gcd_dvd_left _ _) d3]
  exact Nat.div_self hgp
 ·rw [qz_abs]; exact Nat.lt_of_le_of_lt (Nat.div_le_self _ _) hx
 ·rw [qz_abs]; exact Nat.lt_of_le_of_lt (Nat.div_le_self _ _) hy
end Go.Proofs.YtcomiiakkhafpaaGreat
namespace Go.Proofs.YtcomiiakkhafpaaGreat
open Go.Proofs.YtcomiiakkhafpaaGreat.Am
variable [Inhabited DRT]
variable {G : GInv}
/-! ### Of lines that meet in a point both tell the same spot; spots along a line, in order -/
theorem same_crossY (ux uy vx vy wx wy ay : Int) : uy * (wx * vy - wy * vx) + ay * (ux * vy - uy * vx) = vy * (wx * uy - wy * ux) + (wy + ay) * (ux * vy - uy * vx) := by grind
theorem same_placeY (s t : Sg) (h : (meetM s t).k = 1) : TouchP s t ∧ 0 ≤ (meetM s t).n ∧ 0 ≤ (meetM s t).m ∧ 0 < (meetM s t).d ∧ (meetM s t).n ≤ (meetM s t).d ∧ (meetM s t).m ≤ (meetM s t).d ∧
  (meetM s t).d ≤ 9223372036854775807 ∧
  (s.b.y - s.a.y) * (meetM s t).n + s.a.y * (meetM s t).d = (t.b.y - t.a.y) * (meetM s t).m + t.a.y * (meetM s t).d := by
 unfold meetM at *
 by_cases hT : TouchP s t
 ·rw [if_pos hT] at *
  refine ⟨hT, ?_⟩
  by_cases hd : rD s t = 0
  ·rw [if_pos hd] at *
   have hA := (along_iff s t hT).2 hd
   obtain ⟨f, l, hE, hR⟩ := exts hT hA
   rw [hR] at h ⊢
   unfold ovM at h ⊢
   by_cases hf : f = l
   ·rw [if_neg (fun q => q hf)] at h ⊢
    obtain ⟨o1, o2⟩ := one_end hT hA hE hf
    have ns : s.a ≠ s.b := fun e => hT.1.2.2 (by rw [e]; exact ⟨rfl, rfl⟩)
    have nt : t.a ≠ t.b := fun e => hT.2.1.2.2 (by rw [e]; exact ⟨rfl, rfl⟩)
    refine ⟨?_, ?_, Int.zero_lt_one, ?_, ?_, (by show (1 : Int) ≤ 9223372036854775807; decide), ?_⟩
    ·dsimp only; split <;> omega
    ·dsimp only; split <;> omega
    ·dsimp only; split <;> omega
    ·dsimp only; split <;> omega
    ·dsimp only
     rcases o1 with o1 | o1
     ·rw [if_neg (fun q => ns (o1.symm.trans q))]
      rcases o2 with o2 | o2
      ·rw [if_neg (fun q => nt (o2.symm.trans q)), ← o1, ← o2]; omega
      ·rw [if_pos o2, ← o1, ← o2]; omega
     ·rw [if_pos o1]
      rcases o2 with o2 | o2
      ·rw [if_neg (fun q => nt (o2.symm.trans q)), ← o1, ← o2]; omega
      ·rw [if_pos o2, ← o1, ← o2]; omega
   ·rw [if_pos hf] at h; exact absurd (show (2 : Int) = 1 from h) (by decide)
  ·rw [if_neg hd] at *
   obtain ⟨b1, b2, b3, b4, _⟩ := cross_bd hT hd
   obtain ⟨_, _, b5, b6⟩ := rbd hT.1 hT.2.1
   have hbd : -9223372036854775807 ≤ rD s t ∧ rD s t ≤ 9223372036854775807 := by unfold rD; omega
   have e := same_crossY (s.b.x - s.a.x) (s.b.y - s.a.y) (t.b.x - t.a.x) (t.b.y - t.a.y) (t.a.x - s.a.x) (t.a.y - s.a.y) s.a.y
   rw [show t.a.y - s.a.y + s.a.y = t.a.y by omega] at e
   have e' : (s.b.y - s.a.y) * rN s t + s.a.y * rD s t = (t.b.y - t.a.y) * rM s t + t.a.y * rD s t := e
   by_cases hn : rD s t < 0
   ·have eq : refCross s t = ⟨1, -(rN s t), -(rM s t), -(rD s t), ⟨0, 0⟩, ⟨0, 0⟩⟩ := by unfold refCross; rw [if_pos hn]
    rw [eq] at b1 b2 b3 b4 ⊢
    dsimp only at b1 b2 b3 b4 ⊢
    refine ⟨b1, b3, by omega, b2, b4, by omega, same_neg _ _ _ _ _ _ _ e'⟩
   ·have eq : refCross s t = ⟨1, rN s t, rM s t, rD s t, ⟨0, 0⟩, ⟨0, 0⟩⟩ := by unfold refCross; rw [if_neg hn]
    rw [eq] at b1 b2 b3 b4 ⊢
    dsimp only at b1 b2 b3 b4 ⊢
    refine ⟨b1, b3, by omega, b2, b4, by omega, e'⟩
 ·rw [if_neg hT] at h; exact absurd h (by decide)
theorem same_spot (s t : Sg) (h : (meetM s t).k = 1) : xS s (meetM s t).n (meetM s t).d = xS t (meetM s t).m (meetM s t).d ∧ yS s (meetM s t).n (meetM s t).d = yS t (meetM s t).m (meetM s t).d := by
 have a := (same_place s t h).2.2.2.2.2.2.2
 have b := (same_placeY s t h).2.2.2.2.2.2.2
 unfold xS yS
 omega
theorem qz_mul {x : Int} {g : Nat} (h : g ∣ x.natAbs) : qz x g * g = x := by
 have e := Nat.div_mul_cancel h
 unfold qz
 split
 ·rw [Int.neg_mul, ← Int.natCast_mul, e]; omega
 ·rw [← Int.natCast_mul, e]; omega
theorem gg_dvd (x y : Int) (w : Nat) : gg x y w ∣ x.natAbs ∧ gg x y w ∣ y.natAbs ∧ gg x y w ∣ w :=
 ⟨Nat.dvd_trans (Nat.gcd_dvd_left _ _) (Nat.gcd_dvd_left _ _), Nat.dvd_trans (Nat.gcd_dvd_left _ _) (Nat.gcd_dvd_right _ _), Nat.gcd_dvd_right _ _⟩
theorem part_bd2 {a b n d : Int} (ha : In29 a) (hb : In29 b) (hn : 0 ≤ n ∧ n ≤ d) (hd : d ≤ 9223372036854775807) : (a * d + (b - a) * n).natAbs < 2 ^ 119 := by
 unfold In29 at ha hb
 have m1 : a.natAbs * d.natAbs ≤ 536870912 * 9223372036854775807 := Nat.mul_le_mul (by omega) (by omega)
 have m2 : (b - a).natAbs * n.natAbs ≤ 1073741824 * 9223372036854775807 := Nat.mul_le_mul (by omega) (by omega)
 rw [← Int.natAbs_mul] at m1 m2
 have h119 : (2 : Nat) ^ 119 = 664613997892457936451903530140172288 := by decide
 rw [h119]
 omega
end Go.Proofs.YtcomiiakkhafpaaGreat
namespace Go.Proofs.YtcomiiakkhafpaaGreat
open Go.Proofs.YtcomiiakkhafpaaGreat.Am Go.Sort Go.Proofs Go.Lib
variable [Inhabited DRT]
theorem spot_begin {s : Sg} (h : LineS s) : A.agg (spL (mkC s 0 1).1) = spotA s.a.x s.a.y 1 := by
 rw [spot_mk (by omega) (by omega), ← low_1 h.1.1 h.1.2]
 have ex : xS s 0 1 = s.a.x := by unfold xS; omega
 have ey : yS s 0 1 = s.a.y := by unfold yS; omega
 rw [ex, ey]; rfl
theorem spot_end {s : Sg} (h : LineS s) : A.agg (spL (mkC s 1 1).1) = spotA s.b.x s.b.y 1 := by
 rw [spot_mk (by omega) (by omega), ← low_1 h.2.1.1 h.2.1.2]
 have ex : xS s 1 1 = s.b.x := by unfold xS; omega
 have ey : yS s 1 1 = s.b.y := by unfold yS; omega
 rw [ex, ey]; rfl
/-- Where two lines meet in a point both tell the same spot. -/
theorem spot_meet {s t : Sg} (h : (meetM s t).k = 1) : A.agg (spL (mkC s (meetM s t).n (meetM s t).d).1) = A.agg (spL (mkC t (meetM s t).m (meetM s t).d).1) := by
 obtain ⟨_, h1, h2, h3, h4, h5, h6, _⟩ := same_place s t h
 obtain ⟨ex, ey⟩ := same_spot s t h
 rw [spot_mk ⟨h1, h4, by omega⟩ h6, spot_mk ⟨h2, h5, by omega⟩ h6, ex, ey]
/-! Cuts of one line that lie at one spot are the same. -/
theorem wW_inj {a b : Nat} (ha : a < 65536 ^ 32) (hb : b < 65536 ^ 32) (h : w8 (wW a) = w8 (wW b)) : a = b := by
 rw [← wv_wW ha, ← wv_wW hb, wv_expl (wW_ok a), wv_expl (wW_ok b)]
 unfold w8 at h
 simp only [W8.mk.injEq] at h
 obtain ⟨h0, h1, h2, h3, h4, h5, h6, h7⟩ := h
 rw [h0, h1, h2, h3, h4, h5, h6, h7]
theorem abs_sign {a b : Int} (h1 : a.natAbs = b.natAbs) (h2 : decide (a < 0) = decide (b < 0)) : a = b := by
 have := decide_eq_decide.1 h2
 omega
theorem spL_inj {x y : Ct} (h : spL x = spL y) : x.p = y.p ∧ x.q = y.q ∧ x.X = y.X ∧ x.Y = y.Y ∧ x.W = y.W := by
 obtain ⟨n, d, p, q, ⟨a1, a2, a3, a4, a5, a6, a7, a8⟩, ⟨b1, b2, b3, b4, b5, b6, b7, b8⟩, ⟨c1, c2, c3, c4, c5, c6, c7, c8⟩⟩ := x
 obtain ⟨n', d', p', q', ⟨a1', a2', a3', a4', a5', a6', a7', a8'⟩, ⟨b1', b2', b3', b4', b5', b6', b7', b8'⟩, ⟨c1', c2', c3', c4', c5', c6', c7', c8'⟩⟩ := y
 simp only [spL, List.cons.injEq, A.sb.injEq, A.int.injEq, true_and, Int.natCast_inj, and_true] at h
 simp only [W8.mk.injEq]
 obtain ⟨h3, g1, g2, g3, g4, g5, g6, g7, g8, h4, k1, k2, k3, k4, k5, k6, k7, k8, l1, l2, l3, l4, l5, l6, l7, l8⟩ := h
 exact ⟨h3, h4, ⟨g1, g2, g3, g4, g5, g6, g7, g8⟩, ⟨k1, k2, k3, k4, k5, k6, k7, k8⟩, l1, l2, l3, l4, l5, l6, l7, l8⟩
theorem low_place {n d : Int} (hd : d ≤ 9223372036854775807) {s : Sg} (hL : LineS s) : ∃ (X Y : Int) (W g : Nat), 0 < g ∧ xS s (lowN n d) (lowD n d) = X * g ∧ yS s (lowN n d) (lowD n d) = Y * g ∧ (lowD n d).toNat = W * g ∧
  (mkT s n d).p = decide (X < 0) ∧ (mkT s n d).q = decide (Y < 0) ∧ (mkT s n d).X = w8 (wW X.natAbs) ∧ (mkT s n d).Y = w8 (wW Y.natAbs) ∧ (mkT s n d).W = w8 (wW W) ∧ X.natAbs < 65536 ^ 32 ∧ Y.natAbs < 65536 ^ 32 ∧ W < 65536 ^ 32 := by
 obtain ⟨l1, l2, l3, l4⟩ := low_ok n d hd
 obtain ⟨⟨ax, ay⟩, ⟨bx, by'⟩, _⟩ := hL
 have b1 := part_bd2 ax bx ⟨l1, l2⟩ l4
 have b2 := part_bd2 ay by' ⟨l1, l2⟩ l4
 have hN := norm_low b1 b2 (show 0 < (lowD n d).toNat by omega) (by omega)
 have hg := gg_pos (x := s.a.x * lowD n d + (s.b.x - s.a.x) * lowN n d) (y := s.a.y * lowD n d + (s.b.y - s.a.y) * lowN n d) (show 0 < (lowD n d).toNat by omega)
 obtain ⟨g1, g2, g3⟩ := gg_dvd (s.a.x * lowD n d + (s.b.x - s.a.x) * lowN n d) (s.a.y * lowD n d + (s.b.y - s.a.y) * lowN n d) (lowD n d).toNat
 have hbig : (2 : Nat) ^ 119 < 65536 ^ 32 := by decide
 refine ⟨_, _, _, _, hg, (qz_mul g1).symm, (qz_mul g2).symm, (Nat.div_mul_cancel g3).symm, rfl, rfl, rfl, rfl, rfl, ?_, ?_, ?_⟩
 ·exact Nat.lt_trans hN.2.1 hbig
 ·exact Nat.lt_trans hN.2.2.1 hbig
 ·have h5 := hN.2.2.2.2
  have : (18446744073709551616 : Nat) < 65536 ^ 32 := by decide
  omega
theorem lin_eq {ax ux n d n' d' X g W g' : Int} (h1 : ax * d + ux * n = X * g) (h2 : ax * d' + ux * n' = X * g') (hd : d = W * g) (hd' : d' = W * g') : ux * (n * d' - n' * d) = 0 := by
 have e : ux * (n * d' - n' * d) = (ax * d + ux * n) * d' - (ax * d' + ux * n') * d := by grind
 rw [e, h1, h2, hd, hd']
 grind
theorem spot_diff {s : Sg} (hL : LineS s) {a b : Cu} (ha : OfS s a) (hb : OfS s b) (h : spL a.1 = spL b.1) : a = b := by
 obtain ⟨n, d, hd, rfl⟩ := ha
 obtain ⟨n', d', hd', rfl⟩ := hb
 rw [mkC_val hd, mkC_val hd'] at h
 obtain ⟨e1, e2, e3, e4, e5⟩ := spL_inj h
 obtain ⟨X, Y, W, g, hg, x1, x2, x3, c1, c2, c3, c4, c5, d1, d2, d3⟩ := low_place (n := n) hd hL
 obtain ⟨X', Y', W', g', hg', x1', x2', x3', c1', c2', c3', c4', c5', d1', d2', d3'⟩ := low_place (n := n') hd' hL
 rw [c1, c1'] at e1
 rw [c2, c2'] at e2
 rw [c3, c3'] at e3
 rw [c4, c4'] at e4
 rw [c5, c5'] at e5
 obtain rfl := abs_sign (wW_inj d1 d1' e3) e1
 obtain rfl := abs_sign (wW_inj d2 d2' e4) e2
 obtain rfl := wW_inj d3 d3' e5
 obtain ⟨l1, l2, l3, l4⟩ := low_ok n d hd
 obtain ⟨m1, m2, m3, m4⟩ := low_ok n' d' hd'
 have f1 : lowD n d = (W : Int) * g := by
  have : ((lowD n d).toNat : Int) = (W : Int) * g := by rw [x3]; exact Int.natCast_mul _ _
  omega
 have f2 : lowD n' d' = (W : Int) * g' := by
  have : ((lowD n' d').toNat : Int) = (W : Int) * g' := by rw [x3']; exact Int.natCast_mul _ _
  omega
 have z1 := lin_eq x1 x1' f1 f2
 have z2 := lin_eq x2 x2' f1 f2
 have hz : lowN n d * lowD n' d' = lowN n' d' * lowD n d := by
  rcases Int.mul_eq_zero.1 z1 with h | h
  ·rcases Int.mul_eq_zero.1 z2 with h' | h'
   ·exact absurd ⟨h, h'⟩ (line_ne hL)
   ·omega
  ·omega
 have hz2 : (lowN n d).toNat * (lowD n' d').toNat = (lowN n' d').toNat * (lowD n d).toNat := by
  have : (((lowN n d).toNat * (lowD n' d').toNat : Nat) : Int) = (((lowN n' d').toNat * (lowD n d).toNat : Nat) : Int) := by
   rw [Int.natCast_mul, Int.natCast_mul, Int.toNat_of_nonneg l1, Int.toNat_of_nonneg (by omega : 0 ≤ lowD n' d'), Int.toNat_of_nonneg m1, Int.toNat_of_nonneg (by omega : 0 ≤ lowD n d)]
   exact hz
  exact_mod_cast this
 obtain ⟨p1, p2⟩ := frac_eq (low_cop n d) (low_cop n' d') hz2
 exact mk_low hd hd' (by omega) (by omega)
theorem first_cut {s : Sg} {L : List Cu} (hp : L.Pairwise ltU) (hm : mkC s 0 1 ∈ L) : L.getD 0 default = mkC s 0 1 := by
 obtain ⟨j, hj, e⟩ := List.getElem_of_mem hm
 rcases Nat.eq_zero_or_pos j with h0 | h0
 ·subst h0; rw [getD_at hj, e]
 ·exfalso
  have := List.pairwise_iff_getElem.1 hp 0 j (by omega) hj h0
  rw [e] at this
  unfold ltU prU at this
  rw [mkC_val (by omega)] at this
  have e0 : (mkT s 0 1).n.toNat = 0 := show (lowN 0 1).toNat = 0 by decide
  rw [e0, Nat.zero_mul] at this
  omega
theorem last_cut {s : Sg} {L : List Cu} (hp : L.Pairwise ltU) (hm : mkC s 1 1 ∈ L) : L.getD (L.length - 1) default = mkC s 1 1 := by
 obtain ⟨j, hj, e⟩ := List.getElem_of_mem hm
 rcases Nat.lt_or_ge j (L.length - 1) with h0 | h0
 ·exfalso
  have := List.pairwise_iff_getElem.1 hp j (L.length - 1) hj (by omega) h0
  rw [e] at this
  have hg := L[L.length - 1].2
  generalize L[L.length - 1] = c at *
  unfold ltU prU at this
  rw [mkC_val (by omega)] at this
  have e0 : (mkT s 1 1).n.toNat = 1 := show (lowN 1 1).toNat = 1 by decide
  have e1 : (mkT s 1 1).d.toNat = 1 := show (lowD 1 1).toNat = 1 by decide
  rw [e0, e1] at this
  unfold GoodC at hg
  omega
 ·have : j = L.length - 1 := by omega
  subst this; rw [getD_at hj, e]
end Go.Proofs.YtcomiiakkhafpaaGreat
namespace Go.Proofs.YtcomiiakkhafpaaGreat
open Go.Proofs.YtcomiiakkhafpaaGreat.Am Go.Sort Go.Proofs Go.Lib
variable [Inhabited DRT]
variable {G : GInv}
/-! ### The theorem of cuts: plain laws; is a spot among cuts? -/
theorem sp_eqb (x y : Ct) : (x.p == y.p && (((x.X.a : Nat) : Int) == ((y.X.a : Nat) : Int) && (((x.X.b : Nat) : Int) == ((y.X.b : Nat) : Int) && (((x.X.c : Nat) : Int) == ((y.X.c : Nat) : Int) && (((x.X.d : Nat) : Int) == ((y.X.d : Nat) : Int) && (((x.X.e : Nat) : Int) == ((y.X.e : Nat) : Int) && (((x.X.f : Nat) : Int) == ((y.X.f : Nat) : Int) && (((x.X.g : Nat) : Int) == ((y.X.g : Nat) : Int) && (((x.X.h : Nat) : Int) == ((y.X.h : Nat) : Int) && (x.q == y.q && (((x.Y.a : Nat) : Int) == ((y.Y.a : Nat) : Int) && (((x.Y.b : Nat) : Int) == ((y.Y.b : Nat) : Int) && (((x.Y.c : Nat) : Int) == ((y.Y.c : Nat) : Int) && (((x.Y.d : Nat) : Int) == ((y.Y.d : Nat) : Int) && (((x.Y.e : Nat) : Int) == ((y.Y.e : Nat) : Int) && (((x.Y.f : Nat) : Int) == ((y.Y.f : Nat) : Int) && (((x.Y.g : Nat) : Int) == ((y.Y.g : Nat) : Int) && (((x.Y.h : Nat) : Int) == ((y.Y.h : Nat) : Int) && (((x.W.a : Nat) : Int) == ((y.W.a : Nat) : Int) && (((x.W.b : Nat) : Int) == ((y.W.b : Nat) : Int) && (((x.W.c : Nat) : Int) == ((y.W.c : Nat) : Int) && (((x.W.d : Nat) : Int) == ((y.W.d : Nat) : Int) && (((x.W.e : Nat) : Int) == ((y.W.e : Nat) : Int) && (((x.W.f : Nat) : Int) == ((y.W.f : Nat) : Int) && (((x.W.g : Nat) : Int) == ((y.W.g : Nat) : Int) && (((x.W.h : Nat) : Int) == ((y.W.h : Nat) : Int) && true)))))))))))))))))))))))))) = true ↔ spL x = spL y := by
 obtain ⟨n, d, p, q, ⟨a1, a2, a3, a4, a5, a6, a7, a8⟩, ⟨b1, b2, b3, b4, b5, b6, b7, b8⟩, ⟨c1, c2, c3, c4, c5, c6, c7, c8⟩⟩ := x
 obtain ⟨n', d', p', q', ⟨a1', a2', a3', a4', a5', a6', a7', a8'⟩, ⟨b1', b2', b3', b4', b5', b6', b7', b8'⟩, ⟨c1', c2', c3', c4', c5', c6', c7', c8'⟩⟩ := y
 simp only [Bool.and_eq_true, beq_iff_eq, spL, List.cons.injEq, A.sb.injEq, A.int.injEq, true_and, Int.natCast_inj, and_true]
theorem WA_gen {P : Program} {Q : Exit → List A → List Blk → Prop} {s : List A} {m : List Blk} {id : Nat} {l : Array Oper} {d : Bool} (h : ∀ Q', Q' = Q → WA P G (.region id l d) Q' s m) : WA P G (.region id l d) Q s m := h Q rfl
def FS (l : List Sg) (i : Nat) : List Cu := rOneK (l.getD i default) l i l.length
theorem FS_ok (l : List Sg) : ∀ i, i < l.length → FS l i = ofF l i := fun i hi => (of_eq l i hi).symm
theorem fs_begin (l : List Sg) (i : Nat) : (FS l i).getD 0 default = mkC (l.getD i default) 0 1 := by
 obtain ⟨h1, _, h3⟩ := rOneK_strict (l.getD i default) l i l.length
 exact first_cut h1 ((h3 _).2 (.inl (by simp [endsL'])))
theorem fs_end (l : List Sg) (i : Nat) : (FS l i).getD ((FS l i).length - 1) default = mkC (l.getD i default) 1 1 := by
 obtain ⟨h1, _, h3⟩ := rOneK_strict (l.getD i default) l i l.length
 exact last_cut h1 ((h3 _).2 (.inl (by simp [endsL'])))
theorem fs_two (l : List Sg) (i : Nat) : 2 ≤ (FS l i).length := by
 have h1 := fs_begin l i
 have h2 := fs_end l i
 refine Classical.byContradiction fun hn => ?_
 rw [show (FS l i).length - 1 = 0 by omega, h1] at h2
 have := ends_lt (l.getD i default)
 rw [h2] at this
 exact ltU_irr _ this
theorem fs_lt (l : List Sg) (i j : Nat) (hj : 0 < j) (h : j < (FS l i).length) : ltU ((FS l i).getD (j - 1) default) ((FS l i).getD j default) := by
 obtain ⟨h1, _, _⟩ := rOneK_strict (l.getD i default) l i l.length
 rw [getD_at (by omega), getD_at h]
 exact List.pairwise_iff_getElem.1 h1 (j - 1) j (by unfold FS at h; omega) h (by omega)
theorem fs_ne (l : List Sg) (i j : Nat) (hL : LineS (l.getD i default)) (hj : 0 < j) (h : j < (FS l i).length) : spL ((FS l i).getD (j - 1) default).1 ≠ spL ((FS l i).getD j default).1 := by
 intro e
 obtain ⟨_, h2, _⟩ := rOneK_strict (l.getD i default) l i l.length
 have hm : ∀ t, t < (FS l i).length → (FS l i).getD t default ∈ rOneK (l.getD i default) l i l.length := fun t ht => by
  rw [getD_at ht]; exact List.getElem_mem _
 have := spot_diff hL (h2 _ (hm (j - 1) (by omega))) (h2 _ (hm j h)) e
 have hlt := fs_lt l i j hj h
 rw [this] at hlt
 exact ltU_irr _ hlt
theorem fs_mem (l : List Sg) (i m : Nat) (hm : m < l.length) (hne : m ≠ i) {c : Cu} (h : c ∈ byL (l.getD i default) (l.getD m default)) : ∃ j, j < (FS l i).length ∧ (FS l i).getD j default = c := by
 obtain ⟨_, _, h3⟩ := rOneK_strict (l.getD i default) l i l.length
 have hmem : c ∈ FS l i := (h3 c).2 (.inr ⟨m, hm, by omega, h⟩)
 obtain ⟨j, hj, e⟩ := List.getElem_of_mem hmem
 exact ⟨j, hj, by rw [getD_at hj]; exact e⟩
theorem by_pt {s t : Sg} (h : (meetM s t).k = 1) : mkC s (meetM s t).n (meetM s t).d ∈ byL s t ∧ mkC t (meetM s t).m (meetM s t).d ∈ byL t s := by
 have ht := ((turns s t).2 (by omega)).1
 constructor
 ·unfold byL; rw [if_pos h]; simp
 ·unfold byL
  rw [← ht]
  show mkC t (meetM s t).m (meetM s t).d ∈ if (meetM s t).k = 1 then [mkC t (meetM s t).m (meetM s t).d] else _
  rw [if_pos h]; simp
theorem by_ov {s t : Sg} (h : (meetM s t).k = 2) : (atC s (meetM s t).p ∈ byL s t ∧ atC s (meetM s t).q ∈ byL s t) ∧ atC t (meetM s t).p ∈ byL t s ∧ atC t (meetM s t).q ∈ byL t s := by
 obtain ⟨h1, h2, _⟩ := (turns s t).1 h
 refine ⟨?_, ?_⟩
 ·unfold byL; rw [if_neg (by omega), if_pos h]; simp
 ·unfold byL
  rw [if_neg (by omega), if_pos h1]
  rcases h2 with ⟨e1, e2⟩ | ⟨e1, e2⟩ <;> rw [e1, e2] <;> simp
set_option maxRecDepth 100000 in
set_option maxHeartbeats 2000000 in
theorem chas_c (L : List Cu) (x : Ct) (j : Nat) (hj : j < L.length) (he : spL (L.getD j default).1 = spL x) (hl : L.length ≤ 1000000) : ACalls Tryz.prog G 35 [cutsA L, .agg (spL x)] (.bool true) := by
 refine ACalls.of_WA ttok Tryz.func35 rfl rfl _ rfl ?_
 conv => whnf
 repeat (first | refine sq ?_ | refine bk ?_ | ((first | refine rg ttok ?_ | refine dw ttok mixed ?_ | refine cd ?_ | refine sk ?_ | refine xt ?_ | refine rt ?_); conv => whnf))
 refine WA_loopI (fun i : Nat => i ≤ j) (fun i => [(5, .int .i64 (i : Int))]) (fun _ => [.box 34 (spL x)]) (fun i => L.length - i) 0 (Nat.zero_le _) ?_ ?_
 ·conv => whnf
  repeat (first | exact fa | ((first | refine fb ?_ | (refine And.intro ?_ ?_; rotate_left)); conv => whnf))
 ·intro i hi
  conv => whnf
  repeat' (first | refine sq ?_ | refine bk ?_ | ((first | refine rg ttok ?_ | refine dw ttok mixed ?_ | refine cd ?_ | refine sk ?_ | refine xt ?_ | refine rt ?_); conv => whnf) | (refine And.intro (fun h => ?_) (fun h => ?_) <;> (try simp only [brsA] at h) <;> conv => whnf) | ((first | refine wf ?_ | refine wp' ?_ | refine ai ?_ | refine And.intro rfl ?_ | refine an ?_ | fail); conv => whnf))
  all_goals first | contradiction | (exfalso; omega) | rfl | skip
  ·have hne : i ≠ j := fun e => by
    subst e
    have := (sp_eqb (L.getD i default).1 x).2 he
    refine Bool.noConfusion (show false = true from Eq.trans (Eq.symm ?_) this)
    assumption
   refine ⟨i + 1, (by show i + 1 ≤ j; omega), (by show L.length - (i + 1) < L.length - i; omega), ?_⟩
   conv => whnf
   repeat (first | exact fa | ((first | refine fb ?_ | (refine And.intro ?_ ?_; rotate_left)); conv => whnf))
theorem share_ok (l : List Sg) (i m : Nat) (hlen : l.length ≤ 24) (hok : OkS l) (hi : i < l.length) (hm : m < i) :
  (∃ M : Mt, M.k = 0 ∧ ACalls Tryz.prog G 23 [.agg (sgA (l.getD i default)), .agg (sgA (l.getD m default))] (.agg (mtA M))) ∨
  (∃ (M : Mt) (c : Ct), M.k = 1 ∧ ACalls Tryz.prog G 23 [.agg (sgA (l.getD i default)), .agg (sgA (l.getD m default))] (.agg (mtA M)) ∧
   ACalls Tryz.prog G 34 [.agg (sgA (l.getD i default)), .int .i64 M.n, .int .i64 M.d] (.agg (ctL c)) ∧
   ACalls Tryz.prog G 35 [cutsA (FS l (i : Int).toNat), .agg (spL c)] (.bool true) ∧ ACalls Tryz.prog G 35 [cutsA (FS l (m : Int).toNat), .agg (spL c)] (.bool true)) ∨
  (∃ (M : Mt) (c1 c2 : Ct), M.k = 2 ∧ ACalls Tryz.prog G 23 [.agg (sgA (l.getD i default)), .agg (sgA (l.getD m default))] (.agg (mtA M)) ∧
   ACalls Tryz.prog G 30 [.agg (ptA M.p)] (.agg (spL c1)) ∧ ACalls Tryz.prog G 30 [.agg (ptA M.q)] (.agg (spL c2)) ∧
   ACalls Tryz.prog G 35 [cutsA (FS l (i : Int).toNat), .agg (spL c1)] (.bool true) ∧ ACalls Tryz.prog G 35 [cutsA (FS l (m : Int).toNat), .agg (spL c1)] (.bool true) ∧
   ACalls Tryz.prog G 35 [cutsA (FS l (i : Int).toNat), .agg (spL c2)] (.bool true) ∧ ACalls Tryz.prog G 35 [cutsA (FS l (m : Int).toNat), .agg (spL c2)] (.bool true)) := by
 have hF : ∀ j, (FS l j).length ≤ 1000000 := fun j => by
  have := rone_len (l.getD j default) l j l.length
  show (rOneK _ _ _ _).length ≤ _; omega
 have hc := of_c (G := G) (l.getD i default) (l.getD m default)
 have hLi := hok i hi
 rcases meet_kind (l.getD i default) (l.getD m default) with hk | hk | hk
 ·exact .inl ⟨_, hk, hc⟩
 ·refine .inr (.inl ⟨_, (mkC (l.getD i default) (meetM (l.getD i default) (l.getD m default)).n (meetM (l.getD i default) (l.getD m default)).d).1, hk, hc, ?_, ?_, ?_⟩)
  ·exact rMade_c _ _ _ hLi (same_place _ _ hk).2.2.2.2.2.2.1
  ·obtain ⟨b1, b2⟩ := by_pt hk
   obtain ⟨j, hj, e⟩ := fs_mem l i m (by omega) (by omega) b1
   exact chas_c (FS l i) _ j hj (by rw [e]) (hF i)
  ·obtain ⟨b1, b2⟩ := by_pt hk
   obtain ⟨j, hj, e⟩ := fs_mem l m i hi (by omega) b2
   have es := A.agg.inj (spot_meet hk)
   exact chas_c (FS l m) _ j hj (by rw [e]; exact es.symm) (hF m)
 ·obtain ⟨o1, o2, o3, o4⟩ := ov_on hk
  obtain ⟨⟨b1, b2⟩, b3, b4⟩ := by_ov hk
  have q1 := rAt0_c (G := G) (meetM (l.getD i default) (l.getD m default)).p (by have := o1.2.1.1; unfold In29 at this; omega) (by have := o1.2.1.2; unfold In29 at this; omega)
  have q2 := rAt0_c (G := G) (meetM (l.getD i default) (l.getD m default)).q (by have := o2.2.1.1; unfold In29 at this; omega) (by have := o2.2.1.2; unfold In29 at this; omega)
  have e1 := spot_at o1
  have e2 := spot_at o2
  have e3 := spot_at o3
  have e4 := spot_at o4
  rw [← e1] at q1
  rw [← e2] at q2
  obtain ⟨j1, hj1, f1⟩ := fs_mem l i m (by omega) (by omega) b1
  obtain ⟨j2, hj2, f2⟩ := fs_mem l i m (by omega) (by omega) b2
  obtain ⟨j3, hj3, f3⟩ := fs_mem l m i hi (by omega) b3
  obtain ⟨j4, hj4, f4⟩ := fs_mem l m i hi (by omega) b4
  exact .inr (.inr ⟨_, _, _, hk, hc, q1, q2, chas_c (FS l i) _ j1 hj1 (by rw [f1]) (hF i), chas_c (FS l m) _ j3 hj3 (by rw [f3]; exact A.agg.inj (e3.trans e1.symm)) (hF m),
   chas_c (FS l i) _ j2 hj2 (by rw [f2]) (hF i), chas_c (FS l m) _ j4 hj4 (by rw [f4]; exact A.agg.inj (e4.trans e2.symm)) (hF m)⟩)
end Go.Proofs.YtcomiiakkhafpaaGreat

/-
  The law's walk, but for its example.
-/
import Derived.Test.YtcomiiakkhafpaaGreatSpot1
import Derived.Test.YtcomiiakkhafpaaGreatWord2
set_option linter.unusedSimpArgs false
set_option linter.unusedSectionVars false
namespace Go.Proofs.YtcomiiakkhafpaaGreat
open Go.Proofs.YtcomiiakkhafpaaGreat.Am
variable [Inhabited DRT]
variable {G : GInv}
/-! ### Of lines that meet in a point both tell the same spot; spots along a line, in order -/
theorem same_crossY (ux uy vx vy wx wy ay : Int) : uy * (wx * vy - wy * vx) + ay * (ux * vy - uy * vx) = vy * (wx * uy - wy * ux) + (wy + ay) * (ux * vy - uy * vx) := by grind
theorem same_placeY (s t : Sg) (h : (meetM s t).k = 1) : TouchP s t ∧ 0 ≤ (meetM s t).n ∧ 0 ≤ (meetM s t).m ∧ 0 < (meetM s t).d ∧ (meetM s t).n ≤ (meetM s t).d ∧ (meetM s t).m ≤ (meetM s t).d ∧
    (meetM s t).d ≤ 9223372036854775807 ∧
    (s.b.y - s.a.y) * (meetM s t).n + s.a.y * (meetM s t).d = (t.b.y - t.a.y) * (meetM s t).m + t.a.y * (meetM s t).d := by
  unfold meetM at *
  by_cases hT : TouchP s t
  · rw [if_pos hT] at *
    refine ⟨hT, ?_⟩
    by_cases hd : rD s t = 0
    · rw [if_pos hd] at *
      have hA := (along_iff s t hT).2 hd
      obtain ⟨f, l, hE, hR⟩ := exts hT hA
      rw [hR] at h ⊢
      unfold ovM at h ⊢
      by_cases hf : f = l
      · rw [if_neg (fun q => q hf)] at h ⊢
        obtain ⟨o1, o2⟩ := one_end hT hA hE hf
        have ns : s.a ≠ s.b := fun e => hT.1.2.2 (by rw [e]; exact ⟨rfl, rfl⟩)
        have nt : t.a ≠ t.b := fun e => hT.2.1.2.2 (by rw [e]; exact ⟨rfl, rfl⟩)
        refine ⟨?_, ?_, Int.zero_lt_one, ?_, ?_, (by show (1 : Int) ≤ 9223372036854775807; decide), ?_⟩
        · dsimp only; split <;> omega
        · dsimp only; split <;> omega
        · dsimp only; split <;> omega
        · dsimp only; split <;> omega
        · dsimp only
          rcases o1 with o1 | o1
          · rw [if_neg (fun q => ns (o1.symm.trans q))]
            rcases o2 with o2 | o2
            · rw [if_neg (fun q => nt (o2.symm.trans q)), ← o1, ← o2]; omega
            · rw [if_pos o2, ← o1, ← o2]; omega
          · rw [if_pos o1]
            rcases o2 with o2 | o2
            · rw [if_neg (fun q => nt (o2.symm.trans q)), ← o1, ← o2]; omega
            · rw [if_pos o2, ← o1, ← o2]; omega
      · rw [if_pos hf] at h; exact absurd (show (2 : Int) = 1 from h) (by decide)
    · rw [if_neg hd] at *
      obtain ⟨b1, b2, b3, b4, _⟩ := cross_bd hT hd
      obtain ⟨_, _, b5, b6⟩ := rbd hT.1 hT.2.1
      have hbd : -9223372036854775807 ≤ rD s t ∧ rD s t ≤ 9223372036854775807 := by unfold rD; omega
      have e := same_crossY (s.b.x - s.a.x) (s.b.y - s.a.y) (t.b.x - t.a.x) (t.b.y - t.a.y) (t.a.x - s.a.x) (t.a.y - s.a.y) s.a.y
      rw [show t.a.y - s.a.y + s.a.y = t.a.y by omega] at e
      have e' : (s.b.y - s.a.y) * rN s t + s.a.y * rD s t = (t.b.y - t.a.y) * rM s t + t.a.y * rD s t := e
      by_cases hn : rD s t < 0
      · have eq : refCross s t = ⟨1, -(rN s t), -(rM s t), -(rD s t), ⟨0, 0⟩, ⟨0, 0⟩⟩ := by unfold refCross; rw [if_pos hn]
        rw [eq] at b1 b2 b3 b4 ⊢
        dsimp only at b1 b2 b3 b4 ⊢
        refine ⟨b1, b3, by omega, b2, b4, by omega, same_neg _ _ _ _ _ _ _ e'⟩
      · have eq : refCross s t = ⟨1, rN s t, rM s t, rD s t, ⟨0, 0⟩, ⟨0, 0⟩⟩ := by unfold refCross; rw [if_neg hn]
        rw [eq] at b1 b2 b3 b4 ⊢
        dsimp only at b1 b2 b3 b4 ⊢
        refine ⟨b1, b3, by omega, b2, b4, by omega, e'⟩
  · rw [if_neg hT] at h; exact absurd h (by decide)
theorem same_spot (s t : Sg) (h : (meetM s t).k = 1) : xS s (meetM s t).n (meetM s t).d = xS t (meetM s t).m (meetM s t).d ∧ yS s (meetM s t).n (meetM s t).d = yS t (meetM s t).m (meetM s t).d := by
  have a := (same_place s t h).2.2.2.2.2.2.2
  have b := (same_placeY s t h).2.2.2.2.2.2.2
  unfold xS yS
  omega
theorem cmpZ_lt {a b : Int} (h : a < b) : cmpZ a b = -1 := by unfold cmpZ; rw [if_pos h]
theorem cmpZ_gt {a b : Int} (h : b < a) : cmpZ a b = 1 := by unfold cmpZ; rw [if_neg (by omega), if_pos h]
theorem cmpZ_eq (a : Int) : cmpZ a a = 0 := by unfold cmpZ; rw [if_neg (by omega), if_neg (by omega)]
theorem cmpZ_scale {a b k : Int} (hk : 0 < k) : cmpZ (a * k) (b * k) = cmpZ a b := by
  rcases Int.lt_trichotomy a b with h | h | h
  · rw [cmpZ_lt h, cmpZ_lt (Int.mul_lt_mul_of_pos_right h hk)]
  · subst h; rw [cmpZ_eq, cmpZ_eq]
  · rw [cmpZ_gt h, cmpZ_gt (Int.mul_lt_mul_of_pos_right h hk)]
theorem cmpZ_neg (a b : Int) : cmpZ b a = -cmpZ a b := by
  rcases Int.lt_trichotomy a b with h | h | h
  · rw [cmpZ_lt h, cmpZ_gt h]; rfl
  · subst h; rw [cmpZ_eq]; rfl
  · rw [cmpZ_gt h, cmpZ_lt h]
theorem cmpZ_lin (a b n m d : Int) (h : n < m) : cmpZ (a * d + (b - a) * n) (a * d + (b - a) * m) = cmpZ a b := by
  rcases Int.lt_trichotomy a b with q | q | q
  · have := Int.mul_lt_mul_of_pos_left h (show 0 < b - a by omega)
    rw [cmpZ_lt q, cmpZ_lt (by omega)]
  · subst q; rw [Int.sub_self, Int.zero_mul, Int.zero_mul, cmpZ_eq, cmpZ_eq]
  · have := Int.mul_lt_mul_of_neg_left h (show b - a < 0 by omega)
    rw [cmpZ_gt q, cmpZ_gt (by omega)]
theorem qz_mul {x : Int} {g : Nat} (h : g ∣ x.natAbs) : qz x g * g = x := by
  have e := Nat.div_mul_cancel h
  unfold qz
  split
  · rw [Int.neg_mul, ← Int.natCast_mul, e]; omega
  · rw [← Int.natCast_mul, e]; omega
theorem gg_dvd (x y : Int) (w : Nat) : gg x y w ∣ x.natAbs ∧ gg x y w ∣ y.natAbs ∧ gg x y w ∣ w :=
  ⟨Nat.dvd_trans (Nat.gcd_dvd_left _ _) (Nat.gcd_dvd_left _ _), Nat.dvd_trans (Nat.gcd_dvd_left _ _) (Nat.gcd_dvd_right _ _), Nat.gcd_dvd_right _ _⟩
theorem cross_gg {x x' : Int} {g g' w : Nat} (hw : 0 < w) (h1 : g ∣ x.natAbs) (h2 : g' ∣ x'.natAbs) (h3 : g ∣ w) (h4 : g' ∣ w) : cmpZ (qz x g * ((w / g' : Nat) : Int)) (qz x' g' * ((w / g : Nat) : Int)) = cmpZ x x' := by
  have p1 : 0 < g := Nat.pos_of_dvd_of_pos h3 hw
  have p2 : 0 < g' := Nat.pos_of_dvd_of_pos h4 hw
  have hk : (0 : Int) < (g : Int) * (g' : Int) := Int.mul_pos (by omega) (by omega)
  rw [← cmpZ_scale hk]
  have e1 : ((w / g : Nat) : Int) * (g : Int) = w := by rw [← Int.natCast_mul, Nat.div_mul_cancel h3]
  have e2 : ((w / g' : Nat) : Int) * (g' : Int) = w := by rw [← Int.natCast_mul, Nat.div_mul_cancel h4]
  have m1 := qz_mul h1
  have m2 := qz_mul h2
  have a1 : qz x g * ((w / g' : Nat) : Int) * ((g : Int) * (g' : Int)) = x * w := by
    rw [show qz x g * ((w / g' : Nat) : Int) * ((g : Int) * (g' : Int)) = (qz x g * g) * (((w / g' : Nat) : Int) * g') by grind, m1, e2]
  have a2 : qz x' g' * ((w / g : Nat) : Int) * ((g : Int) * (g' : Int)) = x' * w := by
    rw [show qz x' g' * ((w / g : Nat) : Int) * ((g : Int) * (g' : Int)) = (qz x' g' * g') * (((w / g : Nat) : Int) * g) by grind, m2, e1]
  rw [a1, a2]
  exact cmpZ_scale (by omega)
/-- Spots of one line, compared. -/
theorem cmpS_low (x y x' y' : Int) (w : Nat) (hw : 0 < w) : cmpS (qz x (gg x y w)) (qz y (gg x y w)) (w / gg x y w) (qz x' (gg x' y' w)) (qz y' (gg x' y' w)) (w / gg x' y' w) = firstNZ [cmpZ x x', cmpZ y y'] := by
  obtain ⟨a1, a2, a3⟩ := gg_dvd x y w
  obtain ⟨b1, b2, b3⟩ := gg_dvd x' y' w
  unfold cmpS
  rw [cross_gg hw a1 b1 a3 b3, cross_gg hw a2 b2 a3 b3]
theorem cmpS_one (x y x' y' : Int) : cmpS x y 1 x' y' 1 = firstNZ [cmpZ x x', cmpZ y y'] := by
  unfold cmpS
  rw [show ((1 : Nat) : Int) = 1 from rfl, Int.mul_one, Int.mul_one, Int.mul_one, Int.mul_one]
theorem first_neg (a b : Int) : firstNZ [-a, -b] = -firstNZ [a, b] := by
  simp only [firstNZ]
  repeat' split
  all_goals omega
theorem first_bd {a b : Int} (h1 : -1 ≤ a ∧ a ≤ 1) (h2 : -1 ≤ b ∧ b ≤ 1) : -1 ≤ firstNZ [a, b] ∧ firstNZ [a, b] ≤ 1 := by
  simp only [firstNZ]
  repeat' split
  all_goals omega
theorem cmpZ_bd (a b : Int) : -1 ≤ cmpZ a b ∧ cmpZ a b ≤ 1 := by
  unfold cmpZ
  repeat' split
  all_goals omega
theorem along_cmp (s : Sg) (n m d : Int) :
    (n < m → firstNZ [cmpZ (xS s n d) (xS s m d), cmpZ (yS s n d) (yS s m d)] = firstNZ [cmpZ s.a.x s.b.x, cmpZ s.a.y s.b.y]) ∧
    (m < n → firstNZ [cmpZ (xS s n d) (xS s m d), cmpZ (yS s n d) (yS s m d)] = -firstNZ [cmpZ s.a.x s.b.x, cmpZ s.a.y s.b.y]) ∧
    (n = m → firstNZ [cmpZ (xS s n d) (xS s m d), cmpZ (yS s n d) (yS s m d)] = 0) := by
  refine ⟨fun h => ?_, fun h => ?_, fun h => ?_⟩
  · unfold xS yS; rw [cmpZ_lin _ _ _ _ _ h, cmpZ_lin _ _ _ _ _ h]
  · have e1 : cmpZ (xS s n d) (xS s m d) = -cmpZ s.a.x s.b.x := by rw [cmpZ_neg]; unfold xS; rw [cmpZ_lin _ _ _ _ _ h]
    have e2 : cmpZ (yS s n d) (yS s m d) = -cmpZ s.a.y s.b.y := by rw [cmpZ_neg]; unfold yS; rw [cmpZ_lin _ _ _ _ _ h]
    rw [e1, e2, first_neg]
  · subst h
    rw [cmpZ_eq, cmpZ_eq]; rfl
theorem part_bd2 {a b n d : Int} (ha : In29 a) (hb : In29 b) (hn : 0 ≤ n ∧ n ≤ d) (hd : d ≤ 9223372036854775807) : (a * d + (b - a) * n).natAbs < 2 ^ 119 := by
  unfold In29 at ha hb
  have m1 : a.natAbs * d.natAbs ≤ 536870912 * 9223372036854775807 := Nat.mul_le_mul (by omega) (by omega)
  have m2 : (b - a).natAbs * n.natAbs ≤ 1073741824 * 9223372036854775807 := Nat.mul_le_mul (by omega) (by omega)
  rw [← Int.natAbs_mul] at m1 m2
  have h119 : (2 : Nat) ^ 119 = 664613997892457936451903530140172288 := by decide
  rw [h119]
  omega
theorem of_norm {s : Sg} {n d : Int} (h : OfP s n d) (hd : d ≤ 9223372036854775807) : NormP (qz (xS s n d) (gg (xS s n d) (yS s n d) d.toNat)) (qz (yS s n d) (gg (xS s n d) (yS s n d) d.toNat)) (d.toNat / gg (xS s n d) (yS s n d) d.toNat) := by
  obtain ⟨⟨⟨ax, ay⟩, ⟨bx, by'⟩, _⟩, h1, h2, h3⟩ := h
  exact norm_low (part_bd2 ax bx ⟨h2, h3⟩ hd) (part_bd2 ay by' ⟨h2, h3⟩ hd) (by omega) (by omega)
end Go.Proofs.YtcomiiakkhafpaaGreat
set_option linter.unusedSimpArgs false
set_option linter.unusedSectionVars false
namespace Go.Proofs.YtcomiiakkhafpaaGreat
open Go.Proofs.YtcomiiakkhafpaaGreat.Am
variable [Inhabited DRT]
variable {G : GInv}
/-! ### The law of ways, but for its example -/
theorem OfP_at {s t : Sg} (h : (meetM s t).k = 1) : OfP s (meetM s t).n (meetM s t).d ∧ OfP t (meetM s t).m (meetM s t).d ∧ (meetM s t).d ≤ 9223372036854775807 := by
  obtain ⟨hT, h1, h2, h3, h4, h5, h6, _⟩ := same_place s t h
  exact ⟨⟨hT.1, by omega, h1, h4⟩, ⟨hT.2.1, by omega, h2, h5⟩, h6⟩
def argX (n m d : Int) : A := .agg [.int .i64 n, .int .i64 m, .int .i64 d]
set_option maxRecDepth 100000 in
set_option maxHeartbeats 2000000 in
theorem along_bad (ha : ACalls Tryz.prog G 9 [] (.sb true)) (s t : Sg) (n m d : Int) (h : ¬ OfP s n d) : ACalls Tryz.prog G 4 [.agg (sgA s), .agg (sgA t), argX n m d] (.sb true) := by
  have c1 := sOf_bad (G := G) s n d h
  have hl := rline_c (G := G) s
  have h' : ¬ (LineS s ∧ 1 ≤ d ∧ 0 ≤ n ∧ n ≤ d) := h
  unfold spot0 spotL at c1
  unfold argX
  by_cases hL : LineS s
  · rw [decide_eq_true hL] at hl
    refine ACalls.of_WA ttok Tryz.func4 rfl rfl _ rfl ?_
    conv => whnf
    repeat' (first | refine WA_seq ?_ | refine WA_block ?_ | ((first | refine WA_region ttok ?_ | refine WA_draw ttok mixed ?_ | refine WA_cond ?_ | refine WA_skip ?_ | refine WA_exit ?_ | refine WA_ret ?_); conv => whnf) | (refine And.intro (fun h => ?_) (fun h => ?_) <;> (try simp only [brsA] at h) <;> conv => whnf) | (refine Or.inl ?_; (conv => whnf); refine ⟨_, c1, ?_⟩; conv => whnf) | (refine Or.inr (Or.inr (Or.inl ?_)); (conv => whnf); refine ⟨_, c1, ?_⟩; conv => whnf) | (refine Exists.intro _ (And.intro (c1) ?_); conv => whnf) | (refine Or.inl ?_; (conv => whnf); refine ⟨_, hl, ?_⟩; conv => whnf) | (refine Or.inr (Or.inr (Or.inl ?_)); (conv => whnf); refine ⟨_, hl, ?_⟩; conv => whnf) | (refine Exists.intro _ (And.intro (hl) ?_); conv => whnf) | (refine Or.inl ?_; (conv => whnf); refine ⟨_, ha, ?_⟩; conv => whnf) | (refine Or.inr (Or.inr (Or.inl ?_)); (conv => whnf); refine ⟨_, ha, ?_⟩; conv => whnf) | (refine Exists.intro _ (And.intro (ha) ?_); conv => whnf) | (refine WR_fit ?_ ?_; (focus (first | exact wr_i64 (by omega) | exact wr_u64 (by omega) | exact wr_u8 (by omega) | exact wr_i32 (by omega) | exact wr_u32 (by omega))); conv => whnf) | ((first | refine WR_wrap ?_ | (refine And.intro (a := indepB _ _ = true) ?_ ?_; (focus kernel_rfl)) | refine And.intro rfl ?_ | (refine And.intro ?_ ?_; (focus (first | omega | decide | (dsimp only; omega) | (simp at *; omega))))); conv => whnf))
    all_goals first | contradiction | exact absurd (show LineS s ∧ 1 ≤ d ∧ 0 ≤ n ∧ n ≤ d from ⟨hL, by omega, by omega, by omega⟩) h' | rfl | skip
    all_goals trace_state
  · rw [decide_eq_false hL] at hl
    refine ACalls.of_WA ttok Tryz.func4 rfl rfl _ rfl ?_
    conv => whnf
    repeat' (first | refine WA_seq ?_ | refine WA_block ?_ | ((first | refine WA_region ttok ?_ | refine WA_draw ttok mixed ?_ | refine WA_cond ?_ | refine WA_skip ?_ | refine WA_exit ?_ | refine WA_ret ?_); conv => whnf) | (refine And.intro (fun h => ?_) (fun h => ?_) <;> (try simp only [brsA] at h) <;> conv => whnf) | (refine Or.inl ?_; (conv => whnf); refine ⟨_, c1, ?_⟩; conv => whnf) | (refine Or.inr (Or.inr (Or.inl ?_)); (conv => whnf); refine ⟨_, c1, ?_⟩; conv => whnf) | (refine Exists.intro _ (And.intro (c1) ?_); conv => whnf) | (refine Or.inl ?_; (conv => whnf); refine ⟨_, hl, ?_⟩; conv => whnf) | (refine Or.inr (Or.inr (Or.inl ?_)); (conv => whnf); refine ⟨_, hl, ?_⟩; conv => whnf) | (refine Exists.intro _ (And.intro (hl) ?_); conv => whnf) | (refine Or.inl ?_; (conv => whnf); refine ⟨_, ha, ?_⟩; conv => whnf) | (refine Or.inr (Or.inr (Or.inl ?_)); (conv => whnf); refine ⟨_, ha, ?_⟩; conv => whnf) | (refine Exists.intro _ (And.intro (ha) ?_); conv => whnf) | (refine WR_fit ?_ ?_; (focus (first | exact wr_i64 (by omega) | exact wr_u64 (by omega) | exact wr_u8 (by omega) | exact wr_i32 (by omega) | exact wr_u32 (by omega))); conv => whnf) | ((first | refine WR_wrap ?_ | (refine And.intro (a := indepB _ _ = true) ?_ ?_; (focus kernel_rfl)) | refine And.intro rfl ?_ | (refine And.intro ?_ ?_; (focus (first | omega | decide | (dsimp only; omega) | (simp at *; omega))))); conv => whnf))
    all_goals first | contradiction | (exfalso; omega) | rfl | skip
    all_goals trace_state
set_option maxRecDepth 100000 in
set_option maxHeartbeats 8000000 in
theorem along_ok (ha : ACalls Tryz.prog G 9 [] (.sb true)) (s t : Sg) (n m d : Int) (hd : d ≤ 9223372036854775807) (h : OfP s n d) : ACalls Tryz.prog G 4 [.agg (sgA s), .agg (sgA t), argX n m d] (.sb true) := by
  have c1 := sOf_ok (G := G) s n d h hd
  have c2 := rOf_ok (G := G) s n d h hd
  have nA := of_norm h hd
  have c3 := sMay_c (G := G) _ _ _ nA
  have hl := rline_c (G := G) s
  have hls := h.1
  have hdp := h.2
  rw [decide_eq_true h.1] at hl
  have eA : spotA (qz (xS s n d) (gg (xS s n d) (yS s n d) d.toNat)) (qz (yS s n d) (gg (xS s n d) (yS s n d) d.toNat)) (d.toNat / gg (xS s n d) (yS s n d) d.toNat) = lowA (xS s n d) (yS s n d) d.toNat := rfl
  rw [eA] at c3
  have km := of_c (G := G) s t
  have p1 := hls.1
  have p2 := hls.2.1
  have i1 : MayPt s.a := p1
  have i2 : MayPt s.b := p2
  have q1 := sAt_c (G := G) s.a (by have := i1.1; unfold In29 at this; omega) (by have := i1.2; unfold In29 at this; omega)
  have q2 := sAt_c (G := G) s.b (by have := i2.1; unfold In29 at this; omega) (by have := i2.2; unfold In29 at this; omega)
  have q3 := sCmpS_c (G := G) s.a.x s.a.y 1 s.b.x s.b.y 1 (norm_pt i1.1 i1.2) (norm_pt i2.1 i2.2)
  rw [cmpS_one] at q3
  have hz2 := first_bd (cmpZ_bd s.a.x s.b.x) (cmpZ_bd s.a.y s.b.y)
  have hcmp := along_cmp s n m d
  have kD : (meetM s t).k = 1 → ∃ L : A, (∃ p q X Y W, L = .agg (spotL p q X Y W)) ∧ ACalls Tryz.prog G 18 [.agg (sgA s), .int .i64 (meetM s t).n, .int .i64 (meetM s t).d] (.tup [L, .int .i64 0]) ∧ ACalls Tryz.prog G 18 [.agg (sgA t), .int .i64 (meetM s t).m, .int .i64 (meetM s t).d] (.tup [L, .int .i64 0]) := fun hk => by
    obtain ⟨o1, o2, o3⟩ := OfP_at hk
    obtain ⟨e1, e2⟩ := same_spot s t hk
    have u := sOf_ok (G := G) s _ _ o1 o3
    have v := sOf_ok (G := G) t _ _ o2 o3
    rw [← e1, ← e2] at v
    exact ⟨_, low_form _ _ _, u, v⟩
  unfold argX
  by_cases hm : OfP s m d
  · have c4 := sOf_ok (G := G) s m d hm hd
    have nB := of_norm hm hd
    have c5 := sCmpS_c (G := G) _ _ _ _ _ _ nA nB
    rw [cmpS_low _ _ _ _ _ (by omega)] at c5
    have eB : spotA (qz (xS s m d) (gg (xS s m d) (yS s m d) d.toNat)) (qz (yS s m d) (gg (xS s m d) (yS s m d) d.toNat)) (d.toNat / gg (xS s m d) (yS s m d) d.toNat) = lowA (xS s m d) (yS s m d) d.toNat := rfl
    rw [eA, eB] at c5
    obtain ⟨pa, qa, Xa, Ya, Wa, ea⟩ := low_form (xS s n d) (yS s n d) d.toNat
    obtain ⟨pb, qb, Xb, Yb, Wb, eb⟩ := low_form (xS s m d) (yS s m d) d.toNat
    rw [ea] at c1 c2 c3 c5
    rw [eb] at c4 c5
    generalize firstNZ [cmpZ (xS s n d) (xS s m d), cmpZ (yS s n d) (yS s m d)] = z1 at *
    generalize firstNZ [cmpZ s.a.x s.b.x, cmpZ s.a.y s.b.y] = z2 at *
    have f1 : ∃ p q X Y W, spotA s.a.x s.a.y 1 = .agg (spotL p q X Y W) := ⟨_, _, _, _, _, rfl⟩
    have f2 : ∃ p q X Y W, spotA s.b.x s.b.y 1 = .agg (spotL p q X Y W) := ⟨_, _, _, _, _, rfl⟩
    obtain ⟨pc, qc, Xc, Yc, Wc, ec⟩ := f1
    obtain ⟨pd, qd, Xd, Yd, Wd, ed⟩ := f2
    rw [ec] at q1 q3
    rw [ed] at q2 q3
    clear ea eb ec ed nA nB eA eB hls p1 p2 i1 i2 hm h
    by_cases hk : (meetM s t).k = 1
    · obtain ⟨L, ⟨pe, qe, Xe, Ye, We, rfl⟩, u, v⟩ := kD hk
      clear kD
      generalize meetM s t = K at *
      unfold spotL at *
      refine ACalls.of_WA ttok Tryz.func4 rfl rfl _ rfl ?_
      conv => whnf
      repeat' (first | (exact absurd hk (by assumption)) | (exact absurd trivial (by assumption)) | refine WA_seq ?_ | refine WA_block ?_ | ((first | refine WA_region ttok ?_ | refine WA_draw ttok mixed ?_ | refine WA_cond ?_ | refine WA_skip ?_ | refine WA_exit ?_ | refine WA_ret ?_); conv => whnf) | (refine And.intro (fun h => ?_) (fun h => ?_) <;> (try simp only [brsA] at h) <;> conv => whnf) | (refine Or.inl ?_; (conv => whnf); refine ⟨_, hl, ?_⟩; conv => whnf) | (refine Or.inr (Or.inr (Or.inl ?_)); (conv => whnf); refine ⟨_, hl, ?_⟩; conv => whnf) | (refine Exists.intro _ (And.intro (hl) ?_); conv => whnf) | (refine Or.inl ?_; (conv => whnf); refine ⟨_, c1, ?_⟩; conv => whnf) | (refine Or.inr (Or.inr (Or.inl ?_)); (conv => whnf); refine ⟨_, c1, ?_⟩; conv => whnf) | (refine Exists.intro _ (And.intro (c1) ?_); conv => whnf) | (refine Or.inl ?_; (conv => whnf); refine ⟨_, c2, ?_⟩; conv => whnf) | (refine Or.inr (Or.inr (Or.inl ?_)); (conv => whnf); refine ⟨_, c2, ?_⟩; conv => whnf) | (refine Exists.intro _ (And.intro (c2) ?_); conv => whnf) | (refine Or.inl ?_; (conv => whnf); refine ⟨_, c3, ?_⟩; conv => whnf) | (refine Or.inr (Or.inr (Or.inl ?_)); (conv => whnf); refine ⟨_, c3, ?_⟩; conv => whnf) | (refine Exists.intro _ (And.intro (c3) ?_); conv => whnf) | (refine Or.inl ?_; (conv => whnf); refine ⟨_, c4, ?_⟩; conv => whnf) | (refine Or.inr (Or.inr (Or.inl ?_)); (conv => whnf); refine ⟨_, c4, ?_⟩; conv => whnf) | (refine Exists.intro _ (And.intro (c4) ?_); conv => whnf) | (refine Or.inl ?_; (conv => whnf); refine ⟨_, c5, ?_⟩; conv => whnf) | (refine Or.inr (Or.inr (Or.inl ?_)); (conv => whnf); refine ⟨_, c5, ?_⟩; conv => whnf) | (refine Exists.intro _ (And.intro (c5) ?_); conv => whnf) | (refine Or.inl ?_; (conv => whnf); refine ⟨_, q1, ?_⟩; conv => whnf) | (refine Or.inr (Or.inr (Or.inl ?_)); (conv => whnf); refine ⟨_, q1, ?_⟩; conv => whnf) | (refine Exists.intro _ (And.intro (q1) ?_); conv => whnf) | (refine Or.inl ?_; (conv => whnf); refine ⟨_, q2, ?_⟩; conv => whnf) | (refine Or.inr (Or.inr (Or.inl ?_)); (conv => whnf); refine ⟨_, q2, ?_⟩; conv => whnf) | (refine Exists.intro _ (And.intro (q2) ?_); conv => whnf) | (refine Or.inl ?_; (conv => whnf); refine ⟨_, q3, ?_⟩; conv => whnf) | (refine Or.inr (Or.inr (Or.inl ?_)); (conv => whnf); refine ⟨_, q3, ?_⟩; conv => whnf) | (refine Exists.intro _ (And.intro (q3) ?_); conv => whnf) | (refine Or.inl ?_; (conv => whnf); refine ⟨_, km, ?_⟩; conv => whnf) | (refine Or.inr (Or.inr (Or.inl ?_)); (conv => whnf); refine ⟨_, km, ?_⟩; conv => whnf) | (refine Exists.intro _ (And.intro (km) ?_); conv => whnf) | (refine Or.inl ?_; (conv => whnf); refine ⟨_, u, ?_⟩; conv => whnf) | (refine Or.inr (Or.inr (Or.inl ?_)); (conv => whnf); refine ⟨_, u, ?_⟩; conv => whnf) | (refine Exists.intro _ (And.intro (u) ?_); conv => whnf) | (refine Or.inl ?_; (conv => whnf); refine ⟨_, v, ?_⟩; conv => whnf) | (refine Or.inr (Or.inr (Or.inl ?_)); (conv => whnf); refine ⟨_, v, ?_⟩; conv => whnf) | (refine Exists.intro _ (And.intro (v) ?_); conv => whnf) | (refine Or.inl ?_; (conv => whnf); refine ⟨_, ha, ?_⟩; conv => whnf) | (refine Or.inr (Or.inr (Or.inl ?_)); (conv => whnf); refine ⟨_, ha, ?_⟩; conv => whnf) | (refine Exists.intro _ (And.intro (ha) ?_); conv => whnf) | (refine WR_fit ?_ ?_; (focus (first | exact wr_i64 (by omega) | exact wr_u64 (by omega) | exact wr_u8 (by omega) | exact wr_i32 (by omega) | exact wr_u32 (by omega))); conv => whnf) | ((first | refine WR_wrap ?_ | (refine And.intro (a := indepB _ _ = true) ?_ ?_; (focus kernel_rfl)) | refine And.intro rfl ?_ | (refine And.intro ?_ ?_; (focus (first | omega | decide | (dsimp only; omega) | (simp at *; omega))))); conv => whnf))
      all_goals first | contradiction | (exfalso; omega) | rfl | (simp; done) | (exfalso; simp at h; done) | skip
      all_goals trace_state
    · clear kD
      generalize meetM s t = K at *
      unfold spotL at *
      refine ACalls.of_WA ttok Tryz.func4 rfl rfl _ rfl ?_
      conv => whnf
      repeat' (first | (exact absurd (by assumption) hk) | (exact absurd trivial (by assumption)) | refine WA_seq ?_ | refine WA_block ?_ | ((first | refine WA_region ttok ?_ | refine WA_draw ttok mixed ?_ | refine WA_cond ?_ | refine WA_skip ?_ | refine WA_exit ?_ | refine WA_ret ?_); conv => whnf) | (refine And.intro (fun h => ?_) (fun h => ?_) <;> (try simp only [brsA] at h) <;> conv => whnf) | (refine Or.inl ?_; (conv => whnf); refine ⟨_, hl, ?_⟩; conv => whnf) | (refine Or.inr (Or.inr (Or.inl ?_)); (conv => whnf); refine ⟨_, hl, ?_⟩; conv => whnf) | (refine Exists.intro _ (And.intro (hl) ?_); conv => whnf) | (refine Or.inl ?_; (conv => whnf); refine ⟨_, c1, ?_⟩; conv => whnf) | (refine Or.inr (Or.inr (Or.inl ?_)); (conv => whnf); refine ⟨_, c1, ?_⟩; conv => whnf) | (refine Exists.intro _ (And.intro (c1) ?_); conv => whnf) | (refine Or.inl ?_; (conv => whnf); refine ⟨_, c2, ?_⟩; conv => whnf) | (refine Or.inr (Or.inr (Or.inl ?_)); (conv => whnf); refine ⟨_, c2, ?_⟩; conv => whnf) | (refine Exists.intro _ (And.intro (c2) ?_); conv => whnf) | (refine Or.inl ?_; (conv => whnf); refine ⟨_, c3, ?_⟩; conv => whnf) | (refine Or.inr (Or.inr (Or.inl ?_)); (conv => whnf); refine ⟨_, c3, ?_⟩; conv => whnf) | (refine Exists.intro _ (And.intro (c3) ?_); conv => whnf) | (refine Or.inl ?_; (conv => whnf); refine ⟨_, c4, ?_⟩; conv => whnf) | (refine Or.inr (Or.inr (Or.inl ?_)); (conv => whnf); refine ⟨_, c4, ?_⟩; conv => whnf) | (refine Exists.intro _ (And.intro (c4) ?_); conv => whnf) | (refine Or.inl ?_; (conv => whnf); refine ⟨_, c5, ?_⟩; conv => whnf) | (refine Or.inr (Or.inr (Or.inl ?_)); (conv => whnf); refine ⟨_, c5, ?_⟩; conv => whnf) | (refine Exists.intro _ (And.intro (c5) ?_); conv => whnf) | (refine Or.inl ?_; (conv => whnf); refine ⟨_, q1, ?_⟩; conv => whnf) | (refine Or.inr (Or.inr (Or.inl ?_)); (conv => whnf); refine ⟨_, q1, ?_⟩; conv => whnf) | (refine Exists.intro _ (And.intro (q1) ?_); conv => whnf) | (refine Or.inl ?_; (conv => whnf); refine ⟨_, q2, ?_⟩; conv => whnf) | (refine Or.inr (Or.inr (Or.inl ?_)); (conv => whnf); refine ⟨_, q2, ?_⟩; conv => whnf) | (refine Exists.intro _ (And.intro (q2) ?_); conv => whnf) | (refine Or.inl ?_; (conv => whnf); refine ⟨_, q3, ?_⟩; conv => whnf) | (refine Or.inr (Or.inr (Or.inl ?_)); (conv => whnf); refine ⟨_, q3, ?_⟩; conv => whnf) | (refine Exists.intro _ (And.intro (q3) ?_); conv => whnf) | (refine Or.inl ?_; (conv => whnf); refine ⟨_, km, ?_⟩; conv => whnf) | (refine Or.inr (Or.inr (Or.inl ?_)); (conv => whnf); refine ⟨_, km, ?_⟩; conv => whnf) | (refine Exists.intro _ (And.intro (km) ?_); conv => whnf) | (refine Or.inl ?_; (conv => whnf); refine ⟨_, ha, ?_⟩; conv => whnf) | (refine Or.inr (Or.inr (Or.inl ?_)); (conv => whnf); refine ⟨_, ha, ?_⟩; conv => whnf) | (refine Exists.intro _ (And.intro (ha) ?_); conv => whnf) | (refine WR_fit ?_ ?_; (focus (first | exact wr_i64 (by omega) | exact wr_u64 (by omega) | exact wr_u8 (by omega) | exact wr_i32 (by omega) | exact wr_u32 (by omega))); conv => whnf) | ((first | refine WR_wrap ?_ | (refine And.intro (a := indepB _ _ = true) ?_ ?_; (focus kernel_rfl)) | refine And.intro rfl ?_ | (refine And.intro ?_ ?_; (focus (first | omega | decide | (dsimp only; omega) | (simp at *; omega))))); conv => whnf))
      all_goals first | contradiction | (exfalso; omega) | rfl | (simp; done) | (exfalso; simp at h; done) | skip
      all_goals trace_state
  · have c4 := sOf_bad (G := G) s m d hm
    unfold spot0 at c4
    obtain ⟨pa, qa, Xa, Ya, Wa, ea⟩ := low_form (xS s n d) (yS s n d) d.toNat
    rw [ea] at c1 c2 c3
    clear ea nA eA hls p1 p2 i1 i2 hm h q1 q2 q3 hz2 hcmp
    by_cases hk : (meetM s t).k = 1
    · obtain ⟨L, ⟨pe, qe, Xe, Ye, We, rfl⟩, u, v⟩ := kD hk
      clear kD
      generalize meetM s t = K at *
      unfold spotL at *
      refine ACalls.of_WA ttok Tryz.func4 rfl rfl _ rfl ?_
      conv => whnf
      repeat' (first | (exact absurd hk (by assumption)) | (exact absurd trivial (by assumption)) | refine WA_seq ?_ | refine WA_block ?_ | ((first | refine WA_region ttok ?_ | refine WA_draw ttok mixed ?_ | refine WA_cond ?_ | refine WA_skip ?_ | refine WA_exit ?_ | refine WA_ret ?_); conv => whnf) | (refine And.intro (fun h => ?_) (fun h => ?_) <;> (try simp only [brsA] at h) <;> conv => whnf) | (refine Or.inl ?_; (conv => whnf); refine ⟨_, hl, ?_⟩; conv => whnf) | (refine Or.inr (Or.inr (Or.inl ?_)); (conv => whnf); refine ⟨_, hl, ?_⟩; conv => whnf) | (refine Exists.intro _ (And.intro (hl) ?_); conv => whnf) | (refine Or.inl ?_; (conv => whnf); refine ⟨_, c1, ?_⟩; conv => whnf) | (refine Or.inr (Or.inr (Or.inl ?_)); (conv => whnf); refine ⟨_, c1, ?_⟩; conv => whnf) | (refine Exists.intro _ (And.intro (c1) ?_); conv => whnf) | (refine Or.inl ?_; (conv => whnf); refine ⟨_, c2, ?_⟩; conv => whnf) | (refine Or.inr (Or.inr (Or.inl ?_)); (conv => whnf); refine ⟨_, c2, ?_⟩; conv => whnf) | (refine Exists.intro _ (And.intro (c2) ?_); conv => whnf) | (refine Or.inl ?_; (conv => whnf); refine ⟨_, c3, ?_⟩; conv => whnf) | (refine Or.inr (Or.inr (Or.inl ?_)); (conv => whnf); refine ⟨_, c3, ?_⟩; conv => whnf) | (refine Exists.intro _ (And.intro (c3) ?_); conv => whnf) | (refine Or.inl ?_; (conv => whnf); refine ⟨_, c4, ?_⟩; conv => whnf) | (refine Or.inr (Or.inr (Or.inl ?_)); (conv => whnf); refine ⟨_, c4, ?_⟩; conv => whnf) | (refine Exists.intro _ (And.intro (c4) ?_); conv => whnf) | (refine Or.inl ?_; (conv => whnf); refine ⟨_, km, ?_⟩; conv => whnf) | (refine Or.inr (Or.inr (Or.inl ?_)); (conv => whnf); refine ⟨_, km, ?_⟩; conv => whnf) | (refine Exists.intro _ (And.intro (km) ?_); conv => whnf) | (refine Or.inl ?_; (conv => whnf); refine ⟨_, u, ?_⟩; conv => whnf) | (refine Or.inr (Or.inr (Or.inl ?_)); (conv => whnf); refine ⟨_, u, ?_⟩; conv => whnf) | (refine Exists.intro _ (And.intro (u) ?_); conv => whnf) | (refine Or.inl ?_; (conv => whnf); refine ⟨_, v, ?_⟩; conv => whnf) | (refine Or.inr (Or.inr (Or.inl ?_)); (conv => whnf); refine ⟨_, v, ?_⟩; conv => whnf) | (refine Exists.intro _ (And.intro (v) ?_); conv => whnf) | (refine Or.inl ?_; (conv => whnf); refine ⟨_, ha, ?_⟩; conv => whnf) | (refine Or.inr (Or.inr (Or.inl ?_)); (conv => whnf); refine ⟨_, ha, ?_⟩; conv => whnf) | (refine Exists.intro _ (And.intro (ha) ?_); conv => whnf) | (refine WR_fit ?_ ?_; (focus (first | exact wr_i64 (by omega) | exact wr_u64 (by omega) | exact wr_u8 (by omega) | exact wr_i32 (by omega) | exact wr_u32 (by omega))); conv => whnf) | ((first | refine WR_wrap ?_ | (refine And.intro (a := indepB _ _ = true) ?_ ?_; (focus kernel_rfl)) | refine And.intro rfl ?_ | (refine And.intro ?_ ?_; (focus (first | omega | decide | (dsimp only; omega) | (simp at *; omega))))); conv => whnf))
      all_goals first | contradiction | (exfalso; omega) | rfl | (simp; done) | (exfalso; simp at h; done) | skip
      all_goals trace_state
    · clear kD
      generalize meetM s t = K at *
      unfold spotL at *
      refine ACalls.of_WA ttok Tryz.func4 rfl rfl _ rfl ?_
      conv => whnf
      repeat' (first | (exact absurd (by assumption) hk) | (exact absurd trivial (by assumption)) | refine WA_seq ?_ | refine WA_block ?_ | ((first | refine WA_region ttok ?_ | refine WA_draw ttok mixed ?_ | refine WA_cond ?_ | refine WA_skip ?_ | refine WA_exit ?_ | refine WA_ret ?_); conv => whnf) | (refine And.intro (fun h => ?_) (fun h => ?_) <;> (try simp only [brsA] at h) <;> conv => whnf) | (refine Or.inl ?_; (conv => whnf); refine ⟨_, hl, ?_⟩; conv => whnf) | (refine Or.inr (Or.inr (Or.inl ?_)); (conv => whnf); refine ⟨_, hl, ?_⟩; conv => whnf) | (refine Exists.intro _ (And.intro (hl) ?_); conv => whnf) | (refine Or.inl ?_; (conv => whnf); refine ⟨_, c1, ?_⟩; conv => whnf) | (refine Or.inr (Or.inr (Or.inl ?_)); (conv => whnf); refine ⟨_, c1, ?_⟩; conv => whnf) | (refine Exists.intro _ (And.intro (c1) ?_); conv => whnf) | (refine Or.inl ?_; (conv => whnf); refine ⟨_, c2, ?_⟩; conv => whnf) | (refine Or.inr (Or.inr (Or.inl ?_)); (conv => whnf); refine ⟨_, c2, ?_⟩; conv => whnf) | (refine Exists.intro _ (And.intro (c2) ?_); conv => whnf) | (refine Or.inl ?_; (conv => whnf); refine ⟨_, c3, ?_⟩; conv => whnf) | (refine Or.inr (Or.inr (Or.inl ?_)); (conv => whnf); refine ⟨_, c3, ?_⟩; conv => whnf) | (refine Exists.intro _ (And.intro (c3) ?_); conv => whnf) | (refine Or.inl ?_; (conv => whnf); refine ⟨_, c4, ?_⟩; conv => whnf) | (refine Or.inr (Or.inr (Or.inl ?_)); (conv => whnf); refine ⟨_, c4, ?_⟩; conv => whnf) | (refine Exists.intro _ (And.intro (c4) ?_); conv => whnf) | (refine Or.inl ?_; (conv => whnf); refine ⟨_, km, ?_⟩; conv => whnf) | (refine Or.inr (Or.inr (Or.inl ?_)); (conv => whnf); refine ⟨_, km, ?_⟩; conv => whnf) | (refine Exists.intro _ (And.intro (km) ?_); conv => whnf) | (refine Or.inl ?_; (conv => whnf); refine ⟨_, ha, ?_⟩; conv => whnf) | (refine Or.inr (Or.inr (Or.inl ?_)); (conv => whnf); refine ⟨_, ha, ?_⟩; conv => whnf) | (refine Exists.intro _ (And.intro (ha) ?_); conv => whnf) | (refine WR_fit ?_ ?_; (focus (first | exact wr_i64 (by omega) | exact wr_u64 (by omega) | exact wr_u8 (by omega) | exact wr_i32 (by omega) | exact wr_u32 (by omega))); conv => whnf) | ((first | refine WR_wrap ?_ | (refine And.intro (a := indepB _ _ = true) ?_ ?_; (focus kernel_rfl)) | refine And.intro rfl ?_ | (refine And.intro ?_ ?_; (focus (first | omega | decide | (dsimp only; omega) | (simp at *; omega))))); conv => whnf))
      all_goals first | contradiction | (exfalso; omega) | rfl | (simp; done) | (exfalso; simp at h; done) | skip
      all_goals trace_state
theorem spotAlong_c (ha : ACalls Tryz.prog G 9 [] (.sb true)) (s t : Sg) (n m d : Int) (hd : d ≤ 9223372036854775807) : ACalls Tryz.prog G 4 [.agg (sgA s), .agg (sgA t), argX n m d] (.sb true) := by
  by_cases h : OfP s n d
  · exact along_ok ha s t n m d hd h
  · exact along_bad ha s t n m d h
end Go.Proofs.YtcomiiakkhafpaaGreat

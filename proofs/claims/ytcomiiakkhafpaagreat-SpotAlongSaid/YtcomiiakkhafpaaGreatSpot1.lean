/-
  Spots in lowest terms, along a line, of points; which may be; how they compare.
-/
import Derived.Test.YtcomiiakkhafpaaGreatQuot1
import Derived.Test.YtcomiiakkhafpaaGreatMeet1
set_option linter.unusedSimpArgs false
set_option linter.unusedSectionVars false
namespace Go.Proofs.YtcomiiakkhafpaaGreat
open Go.Proofs.YtcomiiakkhafpaaGreat.Am
variable [Inhabited DRT]
variable {G : GInv}
/-! ### Spots -/
def spotL (p q : Bool) (X Y W : Nat → Nat) : List A := [.sb p, .int .u64 (X 0 : Nat), .int .u64 (X 1 : Nat), .int .u64 (X 2 : Nat), .int .u64 (X 3 : Nat), .int .u64 (X 4 : Nat), .int .u64 (X 5 : Nat), .int .u64 (X 6 : Nat), .int .u64 (X 7 : Nat), .sb q, .int .u64 (Y 0 : Nat), .int .u64 (Y 1 : Nat), .int .u64 (Y 2 : Nat), .int .u64 (Y 3 : Nat), .int .u64 (Y 4 : Nat), .int .u64 (Y 5 : Nat), .int .u64 (Y 6 : Nat), .int .u64 (Y 7 : Nat), .int .u64 (W 0 : Nat), .int .u64 (W 1 : Nat), .int .u64 (W 2 : Nat), .int .u64 (W 3 : Nat), .int .u64 (W 4 : Nat), .int .u64 (W 5 : Nat), .int .u64 (W 6 : Nat), .int .u64 (W 7 : Nat)]
def spotA (x y : Int) (w : Nat) : A := .agg (spotL (decide (x < 0)) (decide (y < 0)) (wW x.natAbs) (wW y.natAbs) (wW w))
/-- A whole number over one that divides it. -/
def qz (x : Int) (g : Nat) : Int := if x < 0 then -((x.natAbs / g : Nat) : Int) else ((x.natAbs / g : Nat) : Int)
theorem qz_abs (x : Int) (g : Nat) : (qz x g).natAbs = x.natAbs / g := by unfold qz; generalize x.natAbs / g = k; split <;> omega
theorem qz_neg (x : Int) (g : Nat) : (decide (x < 0) && decide (x.natAbs / g ≠ 0)) = decide (qz x g < 0) := by
  unfold qz
  generalize x.natAbs / g = k
  rw [Bool.eq_iff_iff, Bool.and_eq_true, decide_eq_true_iff, decide_eq_true_iff, decide_eq_true_iff]
  split <;> omega
def gg (x y : Int) (w : Nat) : Nat := Nat.gcd (Nat.gcd x.natAbs y.natAbs) w
def lowA (x y : Int) (w : Nat) : A := spotA (qz x (gg x y w)) (qz y (gg x y w)) (w / gg x y w)
theorem sq_lt {z a b : Nat} (h : z < 2 ^ a) (hab : a + a ≤ b) : z * z < 2 ^ b := Nat.lt_of_lt_of_le (Nat.mul_lt_mul'' h h) (by rw [← Nat.pow_add]; exact Nat.pow_le_pow_right (by omega) hab)
theorem gg_pos {x y : Int} {w : Nat} (h : 0 < w) : 0 < gg x y w := Nat.gcd_pos_of_pos_right _ h
theorem gg_le {x y : Int} {w : Nat} (h : 0 < w) : gg x y w ≤ w := Nat.le_of_dvd h (Nat.gcd_dvd_right _ _)
set_option maxRecDepth 100000 in
set_option maxHeartbeats 4000000 in
theorem lowest_c (x y : Int) (w : Nat) (hx : x.natAbs < 2 ^ 127) (hy : y.natAbs < 2 ^ 127) (h0 : 0 < w) (hw : w < 18446744073709551616) :
    ACalls Tryz.prog G 55 [intN x, intN y, wideN w] (lowA x y w) := by
  have hP := p127
  have h127 : (2 : Nat) ^ 127 = 170141183460469231731687303715884105728 := by decide
  have hg1 : Nat.gcd x.natAbs y.natAbs < 2 ^ 127 := by
    by_cases q : x.natAbs = 0
    · rw [q, Nat.gcd_zero_left]; exact hy
    · exact Nat.lt_of_le_of_lt (Nat.le_of_dvd (by omega) (Nat.gcd_dvd_left _ _)) hx
  have c1 := gcdB_c (G := G) x.natAbs y.natAbs hx hy
  have c2 := gcdB_c (G := G) (Nat.gcd x.natAbs y.natAbs) w hg1 (by omega)
  have hgp := gg_pos (x := x) (y := y) h0
  have hgl := gg_le (x := x) (y := y) h0
  have nx := qz_neg x (gg x y w)
  have ny := qz_neg y (gg x y w)
  have ax := qz_abs x (gg x y w)
  have ay := qz_abs y (gg x y w)
  unfold lowA spotA
  rw [← nx, ← ny, ax, ay]
  have e2 : Nat.gcd (Nat.gcd x.natAbs y.natAbs) w = gg x y w := rfl
  rw [e2] at c2
  clear nx ny ax ay e2
  generalize gg x y w = g at *
  have d1 := over1_c (G := G) x.natAbs g (by omega) hgp (by omega)
  have d2 := over1_c (G := G) y.natAbs g (by omega) hgp (by omega)
  have d3 := over1_c (G := G) w g (by omega) hgp (by omega)
  have f1 := sfix_c (G := G) (decide (x < 0)) (x.natAbs / g) (Nat.lt_of_le_of_lt (Nat.div_le_self _ _) (by omega))
  have f2 := sfix_c (G := G) (decide (y < 0)) (y.natAbs / g) (Nat.lt_of_le_of_lt (Nat.div_le_self _ _) (by omega))
  clear hx hy h0 hw hP h127 hg1 hgp hgl
  unfold intN sgnA wideN wideA spotL at *
  generalize (decide (x < 0) && decide (x.natAbs / g ≠ 0)) = b1 at *
  generalize (decide (y < 0) && decide (y.natAbs / g ≠ 0)) = b2 at *
  generalize decide (x < 0) = p at *
  generalize decide (y < 0) = q at *
  generalize wW (x.natAbs / g) = XQ at *
  generalize wW (y.natAbs / g) = YQ at *
  generalize wW (w / g) = WQ at *
  generalize wW (x.natAbs % g) = XR at *
  generalize wW (y.natAbs % g) = YR at *
  generalize wW (w % g) = WR at *
  generalize wW (Nat.gcd x.natAbs y.natAbs) = G1 at *
  generalize wW x.natAbs = X at *
  generalize wW y.natAbs = Y at *
  generalize wW w = Wd at *
  generalize wW g = Gv at *
  refine ACalls.of_WA ttok Tryz.func55 rfl rfl _ rfl ?_
  conv => whnf
  repeat' (first | refine WA_seq ?_ | refine WA_block ?_ | ((first | refine WA_region ttok ?_ | refine WA_draw ttok mixed ?_ | refine WA_cond ?_ | refine WA_skip ?_ | refine WA_exit ?_ | refine WA_ret ?_); conv => whnf) | (refine And.intro (fun h => ?_) (fun h => ?_) <;> (try simp only [brsA] at h) <;> conv => whnf) | (refine Or.inl ?_; (conv => whnf); refine ⟨_, c1, ?_⟩; conv => whnf) | (refine Or.inr (Or.inr (Or.inl ?_)); (conv => whnf); refine ⟨_, c1, ?_⟩; conv => whnf) | (refine Exists.intro _ (And.intro (c1) ?_); conv => whnf) | (refine Or.inl ?_; (conv => whnf); refine ⟨_, c2, ?_⟩; conv => whnf) | (refine Or.inr (Or.inr (Or.inl ?_)); (conv => whnf); refine ⟨_, c2, ?_⟩; conv => whnf) | (refine Exists.intro _ (And.intro (c2) ?_); conv => whnf) | (refine Or.inl ?_; (conv => whnf); refine ⟨_, d1, ?_⟩; conv => whnf) | (refine Or.inr (Or.inr (Or.inl ?_)); (conv => whnf); refine ⟨_, d1, ?_⟩; conv => whnf) | (refine Exists.intro _ (And.intro (d1) ?_); conv => whnf) | (refine Or.inl ?_; (conv => whnf); refine ⟨_, d2, ?_⟩; conv => whnf) | (refine Or.inr (Or.inr (Or.inl ?_)); (conv => whnf); refine ⟨_, d2, ?_⟩; conv => whnf) | (refine Exists.intro _ (And.intro (d2) ?_); conv => whnf) | (refine Or.inl ?_; (conv => whnf); refine ⟨_, d3, ?_⟩; conv => whnf) | (refine Or.inr (Or.inr (Or.inl ?_)); (conv => whnf); refine ⟨_, d3, ?_⟩; conv => whnf) | (refine Exists.intro _ (And.intro (d3) ?_); conv => whnf) | (refine Or.inl ?_; (conv => whnf); refine ⟨_, f1, ?_⟩; conv => whnf) | (refine Or.inr (Or.inr (Or.inl ?_)); (conv => whnf); refine ⟨_, f1, ?_⟩; conv => whnf) | (refine Exists.intro _ (And.intro (f1) ?_); conv => whnf) | (refine Or.inl ?_; (conv => whnf); refine ⟨_, f2, ?_⟩; conv => whnf) | (refine Or.inr (Or.inr (Or.inl ?_)); (conv => whnf); refine ⟨_, f2, ?_⟩; conv => whnf) | (refine Exists.intro _ (And.intro (f2) ?_); conv => whnf) | (refine WR_fit ?_ ?_; (focus (first | exact wr_i64 (by omega) | exact wr_u64 (by omega) | exact wr_u8 (by omega) | exact wr_i32 (by omega) | exact wr_u32 (by omega))); conv => whnf) | ((first | refine WR_wrap ?_ | (refine And.intro (a := indepB _ _ = true) ?_ ?_; (focus kernel_rfl)) | refine And.intro rfl ?_ | (refine And.intro ?_ ?_; (focus (first | omega | decide | (dsimp only; omega) | (simp at *; omega))))); conv => whnf))
  all_goals first | contradiction | (exfalso; omega) | skip
  all_goals trace_state
set_option maxRecDepth 100000 in
set_option maxHeartbeats 4000000 in
theorem rlowest_c (x y : Int) (w : Nat) (hx : x.natAbs < 2 ^ 127) (hy : y.natAbs < 2 ^ 127) (h0 : 0 < w) (hw : w < 18446744073709551616) :
    ACalls Tryz.prog G 47 [intN x, intN y, wideN w] (lowA x y w) := by
  have hP := p127
  have h127 : (2 : Nat) ^ 127 = 170141183460469231731687303715884105728 := by decide
  have hg1 : Nat.gcd x.natAbs y.natAbs < 2 ^ 127 := by
    by_cases q : x.natAbs = 0
    · rw [q, Nat.gcd_zero_left]; exact hy
    · exact Nat.lt_of_le_of_lt (Nat.le_of_dvd (by omega) (Nat.gcd_dvd_left _ _)) hx
  have hs1 := sq_lt (b := 990) hy (by decide)
  have hs2 := sq_lt (b := 990) (show w < 2 ^ 127 by omega) (by decide)
  have c1 := gcd_c (G := G) x.natAbs y.natAbs (by omega) (by omega) hs1
  have c2 := gcd_c (G := G) (Nat.gcd x.natAbs y.natAbs) w (by omega) (by omega) hs2
  have hgp := gg_pos (x := x) (y := y) h0
  have hgl := gg_le (x := x) (y := y) h0
  have nx := qz_neg x (gg x y w)
  have ny := qz_neg y (gg x y w)
  have ax := qz_abs x (gg x y w)
  have ay := qz_abs y (gg x y w)
  unfold lowA spotA
  rw [← nx, ← ny, ax, ay]
  have e2 : Nat.gcd (Nat.gcd x.natAbs y.natAbs) w = gg x y w := rfl
  rw [e2] at c2
  clear nx ny ax ay e2
  generalize gg x y w = g at *
  have d1 := overN_c (G := G) x.natAbs g (by omega) (by omega) hgp
  have d2 := overN_c (G := G) y.natAbs g (by omega) (by omega) hgp
  have d3 := overN_c (G := G) w g (by omega) (by omega) hgp
  have f1 := fix_c (G := G) (decide (x < 0)) (x.natAbs / g) (Nat.lt_of_le_of_lt (Nat.div_le_self _ _) (by omega))
  have f2 := fix_c (G := G) (decide (y < 0)) (y.natAbs / g) (Nat.lt_of_le_of_lt (Nat.div_le_self _ _) (by omega))
  clear hx hy h0 hw hP h127 hg1 hgp hgl hs1 hs2
  unfold intN sgnA wideN wideA spotL at *
  generalize (decide (x < 0) && decide (x.natAbs / g ≠ 0)) = b1 at *
  generalize (decide (y < 0) && decide (y.natAbs / g ≠ 0)) = b2 at *
  generalize decide (x < 0) = p at *
  generalize decide (y < 0) = q at *
  generalize wW (x.natAbs / g) = XQ at *
  generalize wW (y.natAbs / g) = YQ at *
  generalize wW (w / g) = WQ at *
  generalize wW (x.natAbs % g) = XR at *
  generalize wW (y.natAbs % g) = YR at *
  generalize wW (w % g) = WR at *
  generalize wW (Nat.gcd x.natAbs y.natAbs) = G1 at *
  generalize wW x.natAbs = X at *
  generalize wW y.natAbs = Y at *
  generalize wW w = Wd at *
  generalize wW g = Gv at *
  refine ACalls.of_WA ttok Tryz.func47 rfl rfl _ rfl ?_
  conv => whnf
  repeat' (first | refine WA_seq ?_ | refine WA_block ?_ | ((first | refine WA_region ttok ?_ | refine WA_draw ttok mixed ?_ | refine WA_cond ?_ | refine WA_skip ?_ | refine WA_exit ?_ | refine WA_ret ?_); conv => whnf) | (refine And.intro (fun h => ?_) (fun h => ?_) <;> (try simp only [brsA] at h) <;> conv => whnf) | (refine Or.inl ?_; (conv => whnf); refine ⟨_, c1, ?_⟩; conv => whnf) | (refine Or.inr (Or.inr (Or.inl ?_)); (conv => whnf); refine ⟨_, c1, ?_⟩; conv => whnf) | (refine Exists.intro _ (And.intro (c1) ?_); conv => whnf) | (refine Or.inl ?_; (conv => whnf); refine ⟨_, c2, ?_⟩; conv => whnf) | (refine Or.inr (Or.inr (Or.inl ?_)); (conv => whnf); refine ⟨_, c2, ?_⟩; conv => whnf) | (refine Exists.intro _ (And.intro (c2) ?_); conv => whnf) | (refine Or.inl ?_; (conv => whnf); refine ⟨_, d1, ?_⟩; conv => whnf) | (refine Or.inr (Or.inr (Or.inl ?_)); (conv => whnf); refine ⟨_, d1, ?_⟩; conv => whnf) | (refine Exists.intro _ (And.intro (d1) ?_); conv => whnf) | (refine Or.inl ?_; (conv => whnf); refine ⟨_, d2, ?_⟩; conv => whnf) | (refine Or.inr (Or.inr (Or.inl ?_)); (conv => whnf); refine ⟨_, d2, ?_⟩; conv => whnf) | (refine Exists.intro _ (And.intro (d2) ?_); conv => whnf) | (refine Or.inl ?_; (conv => whnf); refine ⟨_, d3, ?_⟩; conv => whnf) | (refine Or.inr (Or.inr (Or.inl ?_)); (conv => whnf); refine ⟨_, d3, ?_⟩; conv => whnf) | (refine Exists.intro _ (And.intro (d3) ?_); conv => whnf) | (refine Or.inl ?_; (conv => whnf); refine ⟨_, f1, ?_⟩; conv => whnf) | (refine Or.inr (Or.inr (Or.inl ?_)); (conv => whnf); refine ⟨_, f1, ?_⟩; conv => whnf) | (refine Exists.intro _ (And.intro (f1) ?_); conv => whnf) | (refine Or.inl ?_; (conv => whnf); refine ⟨_, f2, ?_⟩; conv => whnf) | (refine Or.inr (Or.inr (Or.inl ?_)); (conv => whnf); refine ⟨_, f2, ?_⟩; conv => whnf) | (refine Exists.intro _ (And.intro (f2) ?_); conv => whnf) | (refine WR_fit ?_ ?_; (focus (first | exact wr_i64 (by omega) | exact wr_u64 (by omega) | exact wr_u8 (by omega) | exact wr_i32 (by omega) | exact wr_u32 (by omega))); conv => whnf) | ((first | refine WR_wrap ?_ | (refine And.intro (a := indepB _ _ = true) ?_ ?_; (focus kernel_rfl)) | refine And.intro rfl ?_ | (refine And.intro ?_ ?_; (focus (first | omega | decide | (dsimp only; omega) | (simp at *; omega))))); conv => whnf))
  all_goals first | contradiction | (exfalso; omega) | skip
  all_goals trace_state
set_option maxRecDepth 100000 in
theorem spart_c (a b n d : Int) (ha : -1073741824 ≤ a ∧ a ≤ 1073741824) (hb : -1073741824 ≤ b ∧ b ≤ 1073741824) (hn : 0 ≤ n ∧ n ≤ d) (hd : d ≤ 9223372036854775807) :
    ACalls Tryz.prog G 56 [.int .i64 a, .int .i64 b, .int .i64 n, .int .i64 d] (intN (a * d + (b - a) * n)) := by
  have o1 := sOf_c (G := G) a (by omega) (by omega)
  have o2 := sOf_c (G := G) d (by omega) (by omega)
  have o3 := sOf_c (G := G) (b - a) (by omega) (by omega)
  have o4 := sOf_c (G := G) n (by omega) (by omega)
  have m1 : a.natAbs * d.natAbs ≤ 1073741824 * 9223372036854775807 := Nat.mul_le_mul (by omega) (by omega)
  have m2 : (b - a).natAbs * n.natAbs ≤ 2147483648 * 9223372036854775807 := Nat.mul_le_mul (by omega) (by omega)
  have p1 := sMul_c (G := G) a d (by rw [pow512]; omega) (by omega) (by rw [pow512]; omega)
  have p2 := sMul_c (G := G) (b - a) n (by rw [pow512]; omega) (by omega) (by rw [pow512]; omega)
  have s1 := sAdd_c (G := G) (a * d) ((b - a) * n) (by rw [pow512, Int.natAbs_mul, Int.natAbs_mul]; omega)
  clear m1 m2
  generalize a * d + (b - a) * n = r at *
  generalize (b - a) * n = r2 at *
  generalize a * d = r1 at *
  unfold intN sgnA at *
  generalize wW a.natAbs = V1 at *
  generalize wW d.natAbs = V2 at *
  generalize wW (b - a).natAbs = V3 at *
  generalize wW n.natAbs = V4 at *
  generalize wW r.natAbs = V5 at *
  generalize wW r1.natAbs = V6 at *
  generalize wW r2.natAbs = V7 at *
  refine ACalls.of_WA ttok Tryz.func56 rfl rfl _ rfl ?_
  conv => whnf
  repeat' (first | refine WA_seq ?_ | refine WA_block ?_ | ((first | refine WA_region ttok ?_ | refine WA_draw ttok mixed ?_ | refine WA_cond ?_ | refine WA_skip ?_ | refine WA_exit ?_ | refine WA_ret ?_); conv => whnf) | (refine And.intro (fun h => ?_) (fun h => ?_) <;> (try simp only [brsA] at h) <;> conv => whnf) | (refine Or.inl ?_; (conv => whnf); refine ⟨_, o1, ?_⟩; conv => whnf) | (refine Or.inr (Or.inr (Or.inl ?_)); (conv => whnf); refine ⟨_, o1, ?_⟩; conv => whnf) | (refine Exists.intro _ (And.intro (o1) ?_); conv => whnf) | (refine Or.inl ?_; (conv => whnf); refine ⟨_, o2, ?_⟩; conv => whnf) | (refine Or.inr (Or.inr (Or.inl ?_)); (conv => whnf); refine ⟨_, o2, ?_⟩; conv => whnf) | (refine Exists.intro _ (And.intro (o2) ?_); conv => whnf) | (refine Or.inl ?_; (conv => whnf); refine ⟨_, o3, ?_⟩; conv => whnf) | (refine Or.inr (Or.inr (Or.inl ?_)); (conv => whnf); refine ⟨_, o3, ?_⟩; conv => whnf) | (refine Exists.intro _ (And.intro (o3) ?_); conv => whnf) | (refine Or.inl ?_; (conv => whnf); refine ⟨_, o4, ?_⟩; conv => whnf) | (refine Or.inr (Or.inr (Or.inl ?_)); (conv => whnf); refine ⟨_, o4, ?_⟩; conv => whnf) | (refine Exists.intro _ (And.intro (o4) ?_); conv => whnf) | (refine Or.inl ?_; (conv => whnf); refine ⟨_, p1, ?_⟩; conv => whnf) | (refine Or.inr (Or.inr (Or.inl ?_)); (conv => whnf); refine ⟨_, p1, ?_⟩; conv => whnf) | (refine Exists.intro _ (And.intro (p1) ?_); conv => whnf) | (refine Or.inl ?_; (conv => whnf); refine ⟨_, p2, ?_⟩; conv => whnf) | (refine Or.inr (Or.inr (Or.inl ?_)); (conv => whnf); refine ⟨_, p2, ?_⟩; conv => whnf) | (refine Exists.intro _ (And.intro (p2) ?_); conv => whnf) | (refine Or.inl ?_; (conv => whnf); refine ⟨_, s1, ?_⟩; conv => whnf) | (refine Or.inr (Or.inr (Or.inl ?_)); (conv => whnf); refine ⟨_, s1, ?_⟩; conv => whnf) | (refine Exists.intro _ (And.intro (s1) ?_); conv => whnf) | (refine WR_fit ?_ ?_; (focus (first | exact wr_i64 (by omega) | exact wr_u64 (by omega) | exact wr_u8 (by omega) | exact wr_i32 (by omega) | exact wr_u32 (by omega))); conv => whnf) | ((first | refine WR_wrap ?_ | (refine And.intro (a := indepB _ _ = true) ?_ ?_; (focus kernel_rfl)) | refine And.intro rfl ?_ | (refine And.intro ?_ ?_; (focus (first | omega | decide | (dsimp only; omega) | (simp at *; omega))))); conv => whnf))
  all_goals first | contradiction | (exfalso; omega) | skip
  all_goals trace_state
end Go.Proofs.YtcomiiakkhafpaaGreat
set_option linter.unusedSimpArgs false
set_option linter.unusedSectionVars false
namespace Go.Proofs.YtcomiiakkhafpaaGreat
open Go.Proofs.YtcomiiakkhafpaaGreat.Am
variable [Inhabited DRT]
variable {G : GInv}
/-! ### Spots along a line -/
theorem mul_sgn (x y : Int) : sgnA ((decide (x < 0) != decide (y < 0)) && decide (x.natAbs * y.natAbs ≠ 0)) (x.natAbs * y.natAbs) = intN (x * y) := sgn_is (Int.natAbs_mul x y).symm (by
    rw [Bool.eq_iff_iff, Bool.and_eq_true, decide_eq_true_iff, decide_eq_true_iff, ← Int.natAbs_mul]
    have hm : (x * y).natAbs ≠ 0 ↔ x ≠ 0 ∧ y ≠ 0 := by rw [Ne, Int.natAbs_eq_zero, Int.mul_eq_zero]; omega
    rw [hm]
    rcases Int.lt_or_le x 0 with a | a <;> rcases Int.lt_or_le y 0 with b | b
    · have := Int.mul_nonneg_of_nonpos_of_nonpos (Int.le_of_lt a) (Int.le_of_lt b)
      rw [decide_eq_true a, decide_eq_true b]; simp; omega
    · rw [decide_eq_true a, decide_eq_false (by omega)]
      constructor
      · rintro ⟨_, q1, q2⟩; exact Int.mul_neg_of_neg_of_pos a (by omega)
      · intro q
        refine ⟨rfl, by omega, fun q2 => ?_⟩
        rw [q2, Int.mul_zero] at q; omega
    · rw [decide_eq_false (by omega), decide_eq_true b]
      constructor
      · rintro ⟨_, q1, q2⟩; exact Int.mul_neg_of_pos_of_neg (by omega) b
      · intro q
        refine ⟨rfl, fun q2 => ?_, by omega⟩
        rw [q2, Int.zero_mul] at q; omega
    · have := Int.mul_nonneg a b
      rw [decide_eq_false (by omega), decide_eq_false (by omega)]; simp; omega)
theorem add_sgn (x y : Int) : sgnA (addS (decide (x < 0)) (decide (y < 0)) x.natAbs y.natAbs && decide (addV (decide (x < 0)) (decide (y < 0)) x.natAbs y.natAbs ≠ 0)) (addV (decide (x < 0)) (decide (y < 0)) x.natAbs y.natAbs) = intN (x + y) := by
  refine sgn_is ?_ ?_
  · unfold addV
    by_cases a : x < 0 <;> by_cases b : y < 0 <;> simp only [a, b, decide_true, decide_false, if_true, if_false, Bool.false_eq_true, Bool.true_eq_false] <;> (try split) <;> omega
  · rw [Bool.eq_iff_iff, Bool.and_eq_true, decide_eq_true_iff, decide_eq_true_iff]
    unfold addV addS
    by_cases a : x < 0 <;> by_cases b : y < 0 <;> simp only [a, b, decide_true, decide_false, if_true, if_false, Bool.false_eq_true, Bool.true_eq_false] <;> (try split) <;> simp only [Bool.false_eq_true, false_and, true_and, false_iff, iff_true, true_iff] <;> omega
set_option maxRecDepth 100000 in
theorem way_c (a b n d : Int) (ha : -1073741824 ≤ a ∧ a ≤ 1073741824) (hb : -1073741824 ≤ b ∧ b ≤ 1073741824) (hn : 0 ≤ n ∧ n ≤ d) (hd : d ≤ 9223372036854775807) :
    ACalls Tryz.prog G 59 [.int .i64 a, .int .i64 b, .int .i64 n, .int .i64 d] (intN (a * d + (b - a) * n)) := by
  have er : a * (d - n) + b * n = a * d + (b - a) * n := by rw [Int.mul_sub, Int.sub_mul]; omega
  have o1 := of5_c (G := G) a (by omega) (by omega)
  have o2 := of5_c (G := G) (d - n) (by omega) (by omega)
  have o3 := of5_c (G := G) b (by omega) (by omega)
  have o4 := of5_c (G := G) n (by omega) (by omega)
  have m1 : a.natAbs * (d - n).natAbs ≤ 1073741824 * 9223372036854775807 := Nat.mul_le_mul (by omega) (by omega)
  have m2 : b.natAbs * n.natAbs ≤ 1073741824 * 9223372036854775807 := Nat.mul_le_mul (by omega) (by omega)
  have p1 := mul5_c (G := G) (decide (a < 0)) (decide (d - n < 0)) a.natAbs (d - n).natAbs (by rw [pow512]; omega) (by rw [pow512]; omega) (by rw [pow512]; omega)
  have p2 := mul5_c (G := G) (decide (b < 0)) (decide (n < 0)) b.natAbs n.natAbs (by rw [pow512]; omega) (by rw [pow512]; omega) (by rw [pow512]; omega)
  rw [mul_sgn] at p1 p2
  have s1 := add5_c (G := G) (decide (a * (d - n) < 0)) (decide (b * n < 0)) (a * (d - n)).natAbs (b * n).natAbs (by rw [pow512, Int.natAbs_mul]; omega) (by rw [pow512, Int.natAbs_mul]; omega) (by rw [pow512, Int.natAbs_mul, Int.natAbs_mul]; omega)
  rw [add_sgn, er] at s1
  clear m1 m2
  generalize a * d + (b - a) * n = r at *
  generalize b * n = r2 at *
  generalize a * (d - n) = r1 at *
  unfold intN sgnA at *
  generalize wW a.natAbs = V1 at *
  generalize wW (d - n).natAbs = V2 at *
  generalize wW b.natAbs = V3 at *
  generalize wW n.natAbs = V4 at *
  generalize wW r.natAbs = V5 at *
  generalize wW r1.natAbs = V6 at *
  generalize wW r2.natAbs = V7 at *
  refine ACalls.of_WA ttok Tryz.func59 rfl rfl _ rfl ?_
  conv => whnf
  repeat' (first | refine WA_seq ?_ | refine WA_block ?_ | ((first | refine WA_region ttok ?_ | refine WA_draw ttok mixed ?_ | refine WA_cond ?_ | refine WA_skip ?_ | refine WA_exit ?_ | refine WA_ret ?_); conv => whnf) | (refine And.intro (fun h => ?_) (fun h => ?_) <;> (try simp only [brsA] at h) <;> conv => whnf) | (refine Or.inl ?_; (conv => whnf); refine ⟨_, o1, ?_⟩; conv => whnf) | (refine Or.inr (Or.inr (Or.inl ?_)); (conv => whnf); refine ⟨_, o1, ?_⟩; conv => whnf) | (refine Exists.intro _ (And.intro (o1) ?_); conv => whnf) | (refine Or.inl ?_; (conv => whnf); refine ⟨_, o2, ?_⟩; conv => whnf) | (refine Or.inr (Or.inr (Or.inl ?_)); (conv => whnf); refine ⟨_, o2, ?_⟩; conv => whnf) | (refine Exists.intro _ (And.intro (o2) ?_); conv => whnf) | (refine Or.inl ?_; (conv => whnf); refine ⟨_, o3, ?_⟩; conv => whnf) | (refine Or.inr (Or.inr (Or.inl ?_)); (conv => whnf); refine ⟨_, o3, ?_⟩; conv => whnf) | (refine Exists.intro _ (And.intro (o3) ?_); conv => whnf) | (refine Or.inl ?_; (conv => whnf); refine ⟨_, o4, ?_⟩; conv => whnf) | (refine Or.inr (Or.inr (Or.inl ?_)); (conv => whnf); refine ⟨_, o4, ?_⟩; conv => whnf) | (refine Exists.intro _ (And.intro (o4) ?_); conv => whnf) | (refine Or.inl ?_; (conv => whnf); refine ⟨_, p1, ?_⟩; conv => whnf) | (refine Or.inr (Or.inr (Or.inl ?_)); (conv => whnf); refine ⟨_, p1, ?_⟩; conv => whnf) | (refine Exists.intro _ (And.intro (p1) ?_); conv => whnf) | (refine Or.inl ?_; (conv => whnf); refine ⟨_, p2, ?_⟩; conv => whnf) | (refine Or.inr (Or.inr (Or.inl ?_)); (conv => whnf); refine ⟨_, p2, ?_⟩; conv => whnf) | (refine Exists.intro _ (And.intro (p2) ?_); conv => whnf) | (refine Or.inl ?_; (conv => whnf); refine ⟨_, s1, ?_⟩; conv => whnf) | (refine Or.inr (Or.inr (Or.inl ?_)); (conv => whnf); refine ⟨_, s1, ?_⟩; conv => whnf) | (refine Exists.intro _ (And.intro (s1) ?_); conv => whnf) | (refine WR_fit ?_ ?_; (focus (first | exact wr_i64 (by omega) | exact wr_u64 (by omega) | exact wr_u8 (by omega) | exact wr_i32 (by omega) | exact wr_u32 (by omega))); conv => whnf) | ((first | refine WR_wrap ?_ | (refine And.intro (a := indepB _ _ = true) ?_ ?_; (focus kernel_rfl)) | refine And.intro rfl ?_ | (refine And.intro ?_ ?_; (focus (first | omega | decide | (dsimp only; omega) | (simp at *; omega))))); conv => whnf))
  all_goals first | contradiction | (exfalso; omega) | skip
  all_goals trace_state
end Go.Proofs.YtcomiiakkhafpaaGreat
set_option linter.unusedSimpArgs false
set_option linter.unusedSectionVars false
namespace Go.Proofs.YtcomiiakkhafpaaGreat
open Go.Proofs.YtcomiiakkhafpaaGreat.Am
variable [Inhabited DRT]
variable {G : GInv}
/-! ### Spots of lines and of points -/
def xS (s : Sg) (n d : Int) : Int := s.a.x * d + (s.b.x - s.a.x) * n
def yS (s : Sg) (n d : Int) : Int := s.a.y * d + (s.b.y - s.a.y) * n
def spot0 : A := .agg (spotL false false (fun _ => 0) (fun _ => 0) (fun _ => 0))
def OfP (s : Sg) (n d : Int) : Prop := LineS s ∧ 1 ≤ d ∧ 0 ≤ n ∧ n ≤ d
instance (s : Sg) (n d : Int) : Decidable (OfP s n d) := inferInstanceAs (Decidable (_ ∧ _))
theorem part_bd {a b n d : Int} (ha : In29 a) (hb : In29 b) (hn : 0 ≤ n ∧ n ≤ d) (hd : d ≤ 9223372036854775807) : (a * d + (b - a) * n).natAbs < 2 ^ 127 := by
  unfold In29 at ha hb
  have m1 : a.natAbs * d.natAbs ≤ 536870912 * 9223372036854775807 := Nat.mul_le_mul (by omega) (by omega)
  have m2 : (b - a).natAbs * n.natAbs ≤ 1073741824 * 9223372036854775807 := Nat.mul_le_mul (by omega) (by omega)
  rw [← Int.natAbs_mul] at m1 m2
  have h127 : (2 : Nat) ^ 127 = 170141183460469231731687303715884105728 := by decide
  rw [h127]
  omega
theorem low_form (x y : Int) (w : Nat) : ∃ p q X Y W, lowA x y w = .agg (spotL p q X Y W) := ⟨_, _, _, _, _, rfl⟩
set_option maxRecDepth 100000 in
set_option maxHeartbeats 1000000 in
theorem sOf_bad (s : Sg) (n d : Int) (h : ¬ OfP s n d) : ACalls Tryz.prog G 18 [.agg (sgA s), .int .i64 n, .int .i64 d] (.tup [spot0, .int .i64 1]) := by
  have hl := pline_c (G := G) s
  have h' : ¬ (LineS s ∧ 1 ≤ d ∧ 0 ≤ n ∧ n ≤ d) := h
  unfold spot0 spotL
  by_cases hL : LineS s
  · rw [decide_eq_true hL] at hl
    refine ACalls.of_WA ttok Tryz.func18 rfl rfl _ rfl ?_
    conv => whnf
    repeat' (first | refine WA_seq ?_ | refine WA_block ?_ | ((first | refine WA_region ttok ?_ | refine WA_draw ttok mixed ?_ | refine WA_cond ?_ | refine WA_skip ?_ | refine WA_exit ?_ | refine WA_ret ?_); conv => whnf) | (refine And.intro (fun h => ?_) (fun h => ?_) <;> (try simp only [brsA] at h) <;> conv => whnf) | (refine Or.inl ?_; (conv => whnf); refine ⟨_, hl, ?_⟩; conv => whnf) | (refine Or.inr (Or.inr (Or.inl ?_)); (conv => whnf); refine ⟨_, hl, ?_⟩; conv => whnf) | (refine Exists.intro _ (And.intro (hl) ?_); conv => whnf) | (refine WR_fit ?_ ?_; (focus (first | exact wr_i64 (by omega) | exact wr_u64 (by omega) | exact wr_u8 (by omega) | exact wr_i32 (by omega) | exact wr_u32 (by omega))); conv => whnf) | ((first | refine WR_wrap ?_ | (refine And.intro (a := indepB _ _ = true) ?_ ?_; (focus kernel_rfl)) | refine And.intro rfl ?_ | (refine And.intro ?_ ?_; (focus (first | omega | decide | (dsimp only; omega) | (simp at *; omega))))); conv => whnf))
    all_goals first | contradiction | exact absurd (show LineS s ∧ 1 ≤ d ∧ 0 ≤ n ∧ n ≤ d from ⟨hL, by omega, by omega, by omega⟩) h' | skip
    all_goals trace_state
  · rw [decide_eq_false hL] at hl
    refine ACalls.of_WA ttok Tryz.func18 rfl rfl _ rfl ?_
    conv => whnf
    repeat' (first | refine WA_seq ?_ | refine WA_block ?_ | ((first | refine WA_region ttok ?_ | refine WA_draw ttok mixed ?_ | refine WA_cond ?_ | refine WA_skip ?_ | refine WA_exit ?_ | refine WA_ret ?_); conv => whnf) | (refine And.intro (fun h => ?_) (fun h => ?_) <;> (try simp only [brsA] at h) <;> conv => whnf) | (refine Or.inl ?_; (conv => whnf); refine ⟨_, hl, ?_⟩; conv => whnf) | (refine Or.inr (Or.inr (Or.inl ?_)); (conv => whnf); refine ⟨_, hl, ?_⟩; conv => whnf) | (refine Exists.intro _ (And.intro (hl) ?_); conv => whnf) | (refine WR_fit ?_ ?_; (focus (first | exact wr_i64 (by omega) | exact wr_u64 (by omega) | exact wr_u8 (by omega) | exact wr_i32 (by omega) | exact wr_u32 (by omega))); conv => whnf) | ((first | refine WR_wrap ?_ | (refine And.intro (a := indepB _ _ = true) ?_ ?_; (focus kernel_rfl)) | refine And.intro rfl ?_ | (refine And.intro ?_ ?_; (focus (first | omega | decide | (dsimp only; omega) | (simp at *; omega))))); conv => whnf))
    all_goals first | contradiction | (exfalso; omega) | skip
    all_goals trace_state
set_option maxRecDepth 100000 in
set_option maxHeartbeats 1000000 in
theorem sOf_ok (s : Sg) (n d : Int) (h : OfP s n d) (hd : d ≤ 9223372036854775807) : ACalls Tryz.prog G 18 [.agg (sgA s), .int .i64 n, .int .i64 d] (.tup [lowA (xS s n d) (yS s n d) d.toNat, .int .i64 0]) := by
  obtain ⟨hL, h1, h2, h3⟩ := h
  have hl := pline_c (G := G) s
  rw [decide_eq_true hL] at hl
  obtain ⟨⟨ax, ay⟩, ⟨bx, by'⟩, _⟩ := hL
  have c1 := spart_c (G := G) s.a.x s.b.x n d (by unfold In29 at ax; omega) (by unfold In29 at bx; omega) ⟨h2, h3⟩ hd
  have c2 := spart_c (G := G) s.a.y s.b.y n d (by unfold In29 at ay; omega) (by unfold In29 at by'; omega) ⟨h2, h3⟩ hd
  have b1 := part_bd ax bx ⟨h2, h3⟩ hd
  have b2 := part_bd ay by' ⟨h2, h3⟩ hd
  obtain ⟨D, rfl⟩ : ∃ D : Nat, d = D := ⟨d.toNat, by omega⟩
  have c3 := wideOf_c (G := G) D
  have c4 := lowest_c (G := G) (xS s n D) (yS s n D) D b1 b2 (by omega) (by omega)
  have hw := wide1_eq (b := D) (by omega)
  rw [← hw] at c3
  have ex : s.a.x * (D : Int) + (s.b.x - s.a.x) * n = xS s n D := rfl
  have ey : s.a.y * (D : Int) + (s.b.y - s.a.y) * n = yS s n D := rfl
  rw [ex] at c1
  rw [ey] at c2
  have et : ((D : Nat) : Int).toNat = D := Int.toNat_natCast D
  rw [et]
  clear hw b1 b2 ex ey ax ay bx by' et
  obtain ⟨p, q, X, Y, W, hLo⟩ := low_form (xS s n D) (yS s n D) D
  rw [hLo] at c4 ⊢
  clear hLo
  unfold intN sgnA spotL at *
  unfold wideN wideA at *
  generalize decide (xS s n D < 0) = p1 at *
  generalize decide (yS s n D < 0) = q1 at *
  generalize wW (xS s n D).natAbs = V1 at *
  generalize wW (yS s n D).natAbs = V2 at *
  generalize wW D = V3 at *
  refine ACalls.of_WA ttok Tryz.func18 rfl rfl _ rfl ?_
  conv => whnf
  repeat' (first | (exact absurd (show (D : Int) < 1 by assumption) (by omega)) | (exact absurd (show n < 0 by assumption) (by omega)) | (exact absurd h3 (by assumption)) | refine WA_seq ?_ | refine WA_block ?_ | ((first | refine WA_region ttok ?_ | refine WA_draw ttok mixed ?_ | refine WA_cond ?_ | refine WA_skip ?_ | refine WA_exit ?_ | refine WA_ret ?_); conv => whnf) | (refine And.intro (fun h => ?_) (fun h => ?_) <;> (try simp only [brsA] at h) <;> conv => whnf) | (refine Or.inl ?_; (conv => whnf); refine ⟨_, hl, ?_⟩; conv => whnf) | (refine Or.inr (Or.inr (Or.inl ?_)); (conv => whnf); refine ⟨_, hl, ?_⟩; conv => whnf) | (refine Exists.intro _ (And.intro (hl) ?_); conv => whnf) | (refine Or.inl ?_; (conv => whnf); refine ⟨_, c1, ?_⟩; conv => whnf) | (refine Or.inr (Or.inr (Or.inl ?_)); (conv => whnf); refine ⟨_, c1, ?_⟩; conv => whnf) | (refine Exists.intro _ (And.intro (c1) ?_); conv => whnf) | (refine Or.inl ?_; (conv => whnf); refine ⟨_, c2, ?_⟩; conv => whnf) | (refine Or.inr (Or.inr (Or.inl ?_)); (conv => whnf); refine ⟨_, c2, ?_⟩; conv => whnf) | (refine Exists.intro _ (And.intro (c2) ?_); conv => whnf) | (refine Or.inl ?_; (conv => whnf); refine ⟨_, c3, ?_⟩; conv => whnf) | (refine Or.inr (Or.inr (Or.inl ?_)); (conv => whnf); refine ⟨_, c3, ?_⟩; conv => whnf) | (refine Exists.intro _ (And.intro (c3) ?_); conv => whnf) | (refine Or.inl ?_; (conv => whnf); refine ⟨_, c4, ?_⟩; conv => whnf) | (refine Or.inr (Or.inr (Or.inl ?_)); (conv => whnf); refine ⟨_, c4, ?_⟩; conv => whnf) | (refine Exists.intro _ (And.intro (c4) ?_); conv => whnf) | (refine WR_fit ?_ ?_; (focus (first | exact wr_i64 (by omega) | exact wr_u64 (by omega) | exact wr_u8 (by omega) | exact wr_i32 (by omega) | exact wr_u32 (by omega))); conv => whnf) | ((first | refine WR_wrap ?_ | (refine And.intro (a := indepB _ _ = true) ?_ ?_; (focus kernel_rfl)) | refine And.intro rfl ?_ | (refine And.intro ?_ ?_; (focus (first | omega | decide | (dsimp only; omega) | (simp at *; omega))))); conv => whnf))
  all_goals first | contradiction | (exfalso; omega) | skip
  all_goals trace_state
set_option maxRecDepth 100000 in
set_option maxHeartbeats 1000000 in
theorem rOf_ok (s : Sg) (n d : Int) (h : OfP s n d) (hd : d ≤ 9223372036854775807) : ACalls Tryz.prog G 20 [.agg (sgA s), .int .i64 n, .int .i64 d] (lowA (xS s n d) (yS s n d) d.toNat) := by
  obtain ⟨hL, h1, h2, h3⟩ := h
  obtain ⟨⟨ax, ay⟩, ⟨bx, by'⟩, _⟩ := hL
  have c1 := way_c (G := G) s.a.x s.b.x n d (by unfold In29 at ax; omega) (by unfold In29 at bx; omega) ⟨h2, h3⟩ hd
  have c2 := way_c (G := G) s.a.y s.b.y n d (by unfold In29 at ay; omega) (by unfold In29 at by'; omega) ⟨h2, h3⟩ hd
  have b1 := part_bd ax bx ⟨h2, h3⟩ hd
  have b2 := part_bd ay by' ⟨h2, h3⟩ hd
  obtain ⟨D, rfl⟩ : ∃ D : Nat, d = D := ⟨d.toNat, by omega⟩
  have c3 := of5_c (G := G) (D : Int) (by omega) hd
  have c4 := rlowest_c (G := G) (xS s n D) (yS s n D) D b1 b2 (by omega) (by omega)
  have ex : s.a.x * (D : Int) + (s.b.x - s.a.x) * n = xS s n D := rfl
  have ey : s.a.y * (D : Int) + (s.b.y - s.a.y) * n = yS s n D := rfl
  rw [ex] at c1
  rw [ey] at c2
  have et : ((D : Nat) : Int).toNat = D := Int.toNat_natCast D
  have en : ((D : Nat) : Int).natAbs = D := Int.natAbs_natCast D
  unfold intN sgnA at c3
  rw [en] at c3
  rw [et]
  clear b1 b2 ex ey ax ay bx by' et en
  obtain ⟨p, q, X, Y, W, hLo⟩ := low_form (xS s n D) (yS s n D) D
  rw [hLo] at c4 ⊢
  clear hLo
  unfold intN sgnA spotL at *
  unfold wideN wideA at *
  generalize decide (xS s n D < 0) = p1 at *
  generalize decide (yS s n D < 0) = q1 at *
  generalize decide ((D : Int) < 0) = r1 at *
  generalize wW (xS s n D).natAbs = V1 at *
  generalize wW (yS s n D).natAbs = V2 at *
  generalize wW D = V3 at *
  refine ACalls.of_WA ttok Tryz.func20 rfl rfl _ rfl ?_
  conv => whnf
  repeat' (first | refine WA_seq ?_ | refine WA_block ?_ | ((first | refine WA_region ttok ?_ | refine WA_draw ttok mixed ?_ | refine WA_cond ?_ | refine WA_skip ?_ | refine WA_exit ?_ | refine WA_ret ?_); conv => whnf) | (refine And.intro (fun h => ?_) (fun h => ?_) <;> (try simp only [brsA] at h) <;> conv => whnf) | (refine Or.inl ?_; (conv => whnf); refine ⟨_, c1, ?_⟩; conv => whnf) | (refine Or.inr (Or.inr (Or.inl ?_)); (conv => whnf); refine ⟨_, c1, ?_⟩; conv => whnf) | (refine Exists.intro _ (And.intro (c1) ?_); conv => whnf) | (refine Or.inl ?_; (conv => whnf); refine ⟨_, c2, ?_⟩; conv => whnf) | (refine Or.inr (Or.inr (Or.inl ?_)); (conv => whnf); refine ⟨_, c2, ?_⟩; conv => whnf) | (refine Exists.intro _ (And.intro (c2) ?_); conv => whnf) | (refine Or.inl ?_; (conv => whnf); refine ⟨_, c3, ?_⟩; conv => whnf) | (refine Or.inr (Or.inr (Or.inl ?_)); (conv => whnf); refine ⟨_, c3, ?_⟩; conv => whnf) | (refine Exists.intro _ (And.intro (c3) ?_); conv => whnf) | (refine Or.inl ?_; (conv => whnf); refine ⟨_, c4, ?_⟩; conv => whnf) | (refine Or.inr (Or.inr (Or.inl ?_)); (conv => whnf); refine ⟨_, c4, ?_⟩; conv => whnf) | (refine Exists.intro _ (And.intro (c4) ?_); conv => whnf) | (refine WR_fit ?_ ?_; (focus (first | exact wr_i64 (by omega) | exact wr_u64 (by omega) | exact wr_u8 (by omega) | exact wr_i32 (by omega) | exact wr_u32 (by omega))); conv => whnf) | ((first | refine WR_wrap ?_ | (refine And.intro (a := indepB _ _ = true) ?_ ?_; (focus kernel_rfl)) | refine And.intro rfl ?_ | (refine And.intro ?_ ?_; (focus (first | omega | decide | (dsimp only; omega) | (simp at *; omega))))); conv => whnf))
  all_goals first | contradiction | (exfalso; omega) | skip
  all_goals trace_state
end Go.Proofs.YtcomiiakkhafpaaGreat
set_option linter.unusedSimpArgs false
set_option linter.unusedSectionVars false
namespace Go.Proofs.YtcomiiakkhafpaaGreat
open Go.Proofs.YtcomiiakkhafpaaGreat.Am
variable [Inhabited DRT]
variable {G : GInv}
/-! ### How many bits -/
set_option maxRecDepth 100000 in
theorem wlen_c (y L : Nat) (h0 : 0 < y) (hy : y < 18446744073709551616) (hL : 1 ≤ L) (h1 : 2 ^ (L - 1) ≤ y) (h2 : y < 2 ^ L) : ACalls Tryz.prog G 109 [.int .u64 y] (.int .i64 L) := by
  have c := len64_c (G := G) y L h0 hy hL h1 h2
  refine ACalls.of_WA ttok Tryz.func109 rfl rfl _ rfl ?_
  conv => whnf
  repeat' (first | refine WA_seq ?_ | refine WA_block ?_ | ((first | refine WA_region ttok ?_ | refine WA_draw ttok mixed ?_ | refine WA_cond ?_ | refine WA_skip ?_ | refine WA_exit ?_ | refine WA_ret ?_); conv => whnf) | (refine And.intro (fun h => ?_) (fun h => ?_) <;> (try simp only [brsA] at h) <;> conv => whnf) | (refine Or.inl ?_; (conv => whnf); refine ⟨_, c, ?_⟩; conv => whnf) | (refine Or.inr (Or.inr (Or.inl ?_)); (conv => whnf); refine ⟨_, c, ?_⟩; conv => whnf) | (refine Exists.intro _ (And.intro (c) ?_); conv => whnf) | (refine WR_fit ?_ ?_; (focus (first | exact wr_i64 (by omega) | exact wr_u64 (by omega) | exact wr_u8 (by omega) | exact wr_i32 (by omega) | exact wr_u32 (by omega))); conv => whnf) | ((first | refine WR_wrap ?_ | (refine And.intro (a := indepB _ _ = true) ?_ ?_; (focus kernel_rfl)) | refine And.intro rfl ?_ | (refine And.intro ?_ ?_; (focus (first | omega | decide | (dsimp only; omega) | (simp at *; omega))))); conv => whnf))
  all_goals first | contradiction | (exfalso; omega) | skip
  all_goals trace_state
set_option maxRecDepth 100000 in
set_option maxHeartbeats 1000000 in
theorem len_0 (A : Nat → Nat) (L : Nat) (hL : L ≤ 64) (hz : ∀ k, 0 < k → k < 8 → A k = 0) (hj : A 0 ≠ 0) (hl : ACalls Tryz.prog G 109 [.int .u64 (A 0 : Int)] (.int .i64 (L : Int))) :
    ACalls Tryz.prog G 61 [wideA A] (.int .i64 ((64 * 0 + L : Nat) : Int)) := by
  unfold wideA
  refine ACalls.of_WA ttok Tryz.func61 rfl rfl _ rfl ?_
  conv => whnf
  repeat (first | refine WA_seq ?_ | refine WA_block ?_ | ((first | refine WA_region ttok ?_ | refine WA_draw ttok mixed ?_ | refine WA_cond ?_ | refine WA_skip ?_ | refine WA_exit ?_ | refine WA_ret ?_); conv => whnf))
  refine WA_loopI (fun t : Nat => t ≤ 7) (fun t => [(3, .int .i64 (7 - (t : Int)))]) (fun t => [bxF A]) (fun t => 8 - t) 0 (by omega) ?_ ?_
  · conv => whnf
    repeat (first | exact rfl | exact trivial | exact Or.inl (fun _ _ => rfl) | exact (fun _ => rfl) | exact (fun _ _ => rfl) | exact Or.inl (fun _ hi => absurd hi (Nat.not_lt_zero _)) | ((first | refine And.intro rfl ?_ | refine And.intro (Or.inl (fun _ _ => rfl)) ?_ | refine And.intro (fun _ => rfl) ?_ | refine And.intro (fun _ _ => rfl) ?_ | (refine And.intro ?_ ?_; rotate_left)); conv => whnf))
    all_goals trace_state
  · intro i hi
    have e : i = 0 ∨ i = 1 ∨ i = 2 ∨ i = 3 ∨ i = 4 ∨ i = 5 ∨ i = 6 ∨ i = 7 := by omega
    have z1 := hz 1 (by omega) (by omega)
    have z2 := hz 2 (by omega) (by omega)
    have z3 := hz 3 (by omega) (by omega)
    have z4 := hz 4 (by omega) (by omega)
    have z5 := hz 5 (by omega) (by omega)
    have z6 := hz 6 (by omega) (by omega)
    have z7 := hz 7 (by omega) (by omega)
    rcases e with rfl | rfl | rfl | rfl | rfl | rfl | rfl | rfl
    all_goals
      conv => whnf
      repeat' (first | (exact absurd (Int.ofNat_eq_zero.1 (by assumption)) hj) | (exact absurd (congrArg Nat.cast (hz _ (by omega) (by omega))) (by assumption)) | refine WA_seq ?_ | refine WA_block ?_ | ((first | refine WA_region ttok ?_ | refine WA_draw ttok mixed ?_ | refine WA_cond ?_ | refine WA_skip ?_ | refine WA_exit ?_ | refine WA_ret ?_); conv => whnf) | (refine And.intro (fun h => ?_) (fun h => ?_) <;> (try simp only [brsA] at h) <;> conv => whnf) | (refine Or.inl ?_; (conv => whnf); refine ⟨_, hl, ?_⟩; conv => whnf) | (refine Or.inr (Or.inr (Or.inl ?_)); (conv => whnf); refine ⟨_, hl, ?_⟩; conv => whnf) | (refine Exists.intro _ (And.intro (hl) ?_); conv => whnf) | (refine WR_fit ?_ ?_; (focus (first | exact wr_i64 (by omega) | exact wr_u64 (by omega) | exact wr_u8 (by omega) | exact wr_i32 (by omega) | exact wr_u32 (by omega))); conv => whnf) | ((first | refine WR_wrap ?_ | (refine And.intro (a := indepB _ _ = true) ?_ ?_; (focus kernel_rfl)) | refine And.intro rfl ?_ | (refine And.intro ?_ ?_; (focus (first | omega | decide | (dsimp only; omega) | (simp at *; omega))))); conv => whnf))
    all_goals first | contradiction | (exfalso; omega) | skip
    all_goals first | refine ⟨1, by decide, by decide, ?_⟩ | refine ⟨2, by decide, by decide, ?_⟩ | refine ⟨3, by decide, by decide, ?_⟩ | refine ⟨4, by decide, by decide, ?_⟩ | refine ⟨5, by decide, by decide, ?_⟩ | refine ⟨6, by decide, by decide, ?_⟩ | refine ⟨7, by decide, by decide, ?_⟩ | skip
    all_goals first | omega | skip
    all_goals
      conv => whnf
      repeat (first | exact rfl | exact trivial | exact Or.inl (fun _ _ => rfl) | exact (fun _ => rfl) | exact (fun _ _ => rfl) | exact Or.inl (fun _ hi => absurd hi (Nat.not_lt_zero _)) | ((first | refine And.intro rfl ?_ | refine And.intro (Or.inl (fun _ _ => rfl)) ?_ | refine And.intro (fun _ => rfl) ?_ | refine And.intro (fun _ _ => rfl) ?_ | (refine And.intro ?_ ?_; rotate_left)); conv => whnf))
set_option maxRecDepth 100000 in
set_option maxHeartbeats 1000000 in
theorem len_1 (A : Nat → Nat) (L : Nat) (hL : L ≤ 64) (hz : ∀ k, 1 < k → k < 8 → A k = 0) (hj : A 1 ≠ 0) (hl : ACalls Tryz.prog G 109 [.int .u64 (A 1 : Int)] (.int .i64 (L : Int))) :
    ACalls Tryz.prog G 61 [wideA A] (.int .i64 ((64 * 1 + L : Nat) : Int)) := by
  unfold wideA
  refine ACalls.of_WA ttok Tryz.func61 rfl rfl _ rfl ?_
  conv => whnf
  repeat (first | refine WA_seq ?_ | refine WA_block ?_ | ((first | refine WA_region ttok ?_ | refine WA_draw ttok mixed ?_ | refine WA_cond ?_ | refine WA_skip ?_ | refine WA_exit ?_ | refine WA_ret ?_); conv => whnf))
  refine WA_loopI (fun t : Nat => t ≤ 6) (fun t => [(3, .int .i64 (7 - (t : Int)))]) (fun t => [bxF A]) (fun t => 8 - t) 0 (by omega) ?_ ?_
  · conv => whnf
    repeat (first | exact rfl | exact trivial | exact Or.inl (fun _ _ => rfl) | exact (fun _ => rfl) | exact (fun _ _ => rfl) | exact Or.inl (fun _ hi => absurd hi (Nat.not_lt_zero _)) | ((first | refine And.intro rfl ?_ | refine And.intro (Or.inl (fun _ _ => rfl)) ?_ | refine And.intro (fun _ => rfl) ?_ | refine And.intro (fun _ _ => rfl) ?_ | (refine And.intro ?_ ?_; rotate_left)); conv => whnf))
    all_goals trace_state
  · intro i hi
    have e : i = 0 ∨ i = 1 ∨ i = 2 ∨ i = 3 ∨ i = 4 ∨ i = 5 ∨ i = 6 := by omega
    have z2 := hz 2 (by omega) (by omega)
    have z3 := hz 3 (by omega) (by omega)
    have z4 := hz 4 (by omega) (by omega)
    have z5 := hz 5 (by omega) (by omega)
    have z6 := hz 6 (by omega) (by omega)
    have z7 := hz 7 (by omega) (by omega)
    rcases e with rfl | rfl | rfl | rfl | rfl | rfl | rfl
    all_goals
      conv => whnf
      repeat' (first | (exact absurd (Int.ofNat_eq_zero.1 (by assumption)) hj) | (exact absurd (congrArg Nat.cast (hz _ (by omega) (by omega))) (by assumption)) | refine WA_seq ?_ | refine WA_block ?_ | ((first | refine WA_region ttok ?_ | refine WA_draw ttok mixed ?_ | refine WA_cond ?_ | refine WA_skip ?_ | refine WA_exit ?_ | refine WA_ret ?_); conv => whnf) | (refine And.intro (fun h => ?_) (fun h => ?_) <;> (try simp only [brsA] at h) <;> conv => whnf) | (refine Or.inl ?_; (conv => whnf); refine ⟨_, hl, ?_⟩; conv => whnf) | (refine Or.inr (Or.inr (Or.inl ?_)); (conv => whnf); refine ⟨_, hl, ?_⟩; conv => whnf) | (refine Exists.intro _ (And.intro (hl) ?_); conv => whnf) | (refine WR_fit ?_ ?_; (focus (first | exact wr_i64 (by omega) | exact wr_u64 (by omega) | exact wr_u8 (by omega) | exact wr_i32 (by omega) | exact wr_u32 (by omega))); conv => whnf) | ((first | refine WR_wrap ?_ | (refine And.intro (a := indepB _ _ = true) ?_ ?_; (focus kernel_rfl)) | refine And.intro rfl ?_ | (refine And.intro ?_ ?_; (focus (first | omega | decide | (dsimp only; omega) | (simp at *; omega))))); conv => whnf))
    all_goals first | contradiction | (exfalso; omega) | skip
    all_goals first | refine ⟨1, by decide, by decide, ?_⟩ | refine ⟨2, by decide, by decide, ?_⟩ | refine ⟨3, by decide, by decide, ?_⟩ | refine ⟨4, by decide, by decide, ?_⟩ | refine ⟨5, by decide, by decide, ?_⟩ | refine ⟨6, by decide, by decide, ?_⟩ | skip
    all_goals first | omega | skip
    all_goals
      conv => whnf
      repeat (first | exact rfl | exact trivial | exact Or.inl (fun _ _ => rfl) | exact (fun _ => rfl) | exact (fun _ _ => rfl) | exact Or.inl (fun _ hi => absurd hi (Nat.not_lt_zero _)) | ((first | refine And.intro rfl ?_ | refine And.intro (Or.inl (fun _ _ => rfl)) ?_ | refine And.intro (fun _ => rfl) ?_ | refine And.intro (fun _ _ => rfl) ?_ | (refine And.intro ?_ ?_; rotate_left)); conv => whnf))
set_option maxRecDepth 100000 in
set_option maxHeartbeats 1000000 in
theorem len_none (A : Nat → Nat) (hz : ∀ k, k < 8 → A k = 0) : ACalls Tryz.prog G 61 [wideA A] (.int .i64 0) := by
  unfold wideA
  refine ACalls.of_WA ttok Tryz.func61 rfl rfl _ rfl ?_
  conv => whnf
  repeat (first | refine WA_seq ?_ | refine WA_block ?_ | ((first | refine WA_region ttok ?_ | refine WA_draw ttok mixed ?_ | refine WA_cond ?_ | refine WA_skip ?_ | refine WA_exit ?_ | refine WA_ret ?_); conv => whnf))
  refine WA_loopI (fun t : Nat => t ≤ 8) (fun t => [(3, .int .i64 (7 - (t : Int)))]) (fun t => [bxF A]) (fun t => 8 - t) 0 (by omega) ?_ ?_
  · conv => whnf
    repeat (first | exact rfl | exact trivial | exact Or.inl (fun _ _ => rfl) | exact (fun _ => rfl) | exact (fun _ _ => rfl) | exact Or.inl (fun _ hi => absurd hi (Nat.not_lt_zero _)) | ((first | refine And.intro rfl ?_ | refine And.intro (Or.inl (fun _ _ => rfl)) ?_ | refine And.intro (fun _ => rfl) ?_ | refine And.intro (fun _ _ => rfl) ?_ | (refine And.intro ?_ ?_; rotate_left)); conv => whnf))
    all_goals trace_state
  · intro i hi
    have e : i = 0 ∨ i = 1 ∨ i = 2 ∨ i = 3 ∨ i = 4 ∨ i = 5 ∨ i = 6 ∨ i = 7 ∨ i = 8 := by omega
    have z0 := hz 0 (by omega)
    have z1 := hz 1 (by omega)
    have z2 := hz 2 (by omega)
    have z3 := hz 3 (by omega)
    have z4 := hz 4 (by omega)
    have z5 := hz 5 (by omega)
    have z6 := hz 6 (by omega)
    have z7 := hz 7 (by omega)
    rcases e with rfl | rfl | rfl | rfl | rfl | rfl | rfl | rfl | rfl
    all_goals
      conv => whnf
      repeat' (first | (exact absurd (congrArg Nat.cast (hz _ (by omega))) (by assumption)) | refine WA_seq ?_ | refine WA_block ?_ | ((first | refine WA_region ttok ?_ | refine WA_draw ttok mixed ?_ | refine WA_cond ?_ | refine WA_skip ?_ | refine WA_exit ?_ | refine WA_ret ?_); conv => whnf) | (refine And.intro (fun h => ?_) (fun h => ?_) <;> (try simp only [brsA] at h) <;> conv => whnf) | (refine WR_fit ?_ ?_; (focus (first | exact wr_i64 (by omega) | exact wr_u64 (by omega) | exact wr_u8 (by omega) | exact wr_i32 (by omega) | exact wr_u32 (by omega))); conv => whnf) | ((first | refine WR_wrap ?_ | (refine And.intro (a := indepB _ _ = true) ?_ ?_; (focus kernel_rfl)) | refine And.intro rfl ?_ | (refine And.intro ?_ ?_; (focus (first | omega | decide | (dsimp only; omega) | (simp at *; omega))))); conv => whnf))
    all_goals first | contradiction | (exfalso; omega) | skip
    all_goals first | refine ⟨1, by decide, by decide, ?_⟩ | refine ⟨2, by decide, by decide, ?_⟩ | refine ⟨3, by decide, by decide, ?_⟩ | refine ⟨4, by decide, by decide, ?_⟩ | refine ⟨5, by decide, by decide, ?_⟩ | refine ⟨6, by decide, by decide, ?_⟩ | refine ⟨7, by decide, by decide, ?_⟩ | refine ⟨8, by decide, by decide, ?_⟩
    all_goals
      conv => whnf
      repeat (first | exact rfl | exact trivial | exact Or.inl (fun _ _ => rfl) | exact (fun _ => rfl) | exact (fun _ _ => rfl) | exact Or.inl (fun _ hi => absurd hi (Nat.not_lt_zero _)) | ((first | refine And.intro rfl ?_ | refine And.intro (Or.inl (fun _ _ => rfl)) ?_ | refine And.intro (fun _ => rfl) ?_ | refine And.intro (fun _ _ => rfl) ?_ | (refine And.intro ?_ ?_; rotate_left)); conv => whnf))
      all_goals trace_state
theorem wW_high {v : Nat} (h : v < 2 ^ 128) {k : Nat} (hk : 2 ≤ k) : wW v k = 0 := by
  unfold wW
  have hp : (2 : Nat) ^ 128 ≤ 18446744073709551616 ^ k := by
    rw [show (18446744073709551616 : Nat) = 2 ^ 64 from rfl, ← Nat.pow_mul]
    exact Nat.pow_le_pow_right (by omega) (by omega)
  rw [Nat.div_eq_of_lt (Nat.lt_of_lt_of_le h hp)]
/-- A number below 2^120 has 120 bits at most. -/
theorem len_ex (v : Nat) (hv : v < 2 ^ 120) : ∃ L : Nat, L ≤ 120 ∧ ACalls Tryz.prog G 61 [wideN v] (.int .i64 (L : Int)) := by
  have hv8 : v < 2 ^ 128 := Nat.lt_trans hv (by decide)
  have h512 : v < 65536 ^ 32 := Nat.lt_trans hv (by decide)
  have hx := wv_expl (wW_ok v)
  rw [wv_wW h512, wW_high hv8 (k := 2) (by omega), wW_high hv8 (k := 3) (by omega), wW_high hv8 (k := 4) (by omega), wW_high hv8 (k := 5) (by omega), wW_high hv8 (k := 6) (by omega), wW_high hv8 (k := 7) (by omega)] at hx
  have w0 := wW_ok v 0
  have w1 := wW_ok v 1
  have lg : ∀ y : Nat, y ≠ 0 → y < 18446744073709551616 → ∃ L : Nat, 1 ≤ L ∧ L ≤ 64 ∧ 2 ^ (L - 1) ≤ y ∧ ACalls Tryz.prog G 109 [.int .u64 y] (.int .i64 L) := fun y h0 hy => by
    have a := Nat.log2_self_le h0
    have b := Nat.lt_log2_self (n := y)
    refine ⟨y.log2 + 1, by omega, ?_, by rw [Nat.add_sub_cancel]; exact a, wlen_c y _ (by omega) hy (by omega) (by rw [Nat.add_sub_cancel]; exact a) b⟩
    have : 2 ^ y.log2 < 2 ^ 64 := Nat.lt_of_le_of_lt a hy
    have := (Nat.pow_lt_pow_iff_right (a := 2) (by omega)).1 this
    omega
  by_cases h1 : wW v 1 = 0
  · by_cases h0 : wW v 0 = 0
    · refine ⟨0, by omega, len_none (wW v) fun k hk => ?_⟩
      by_cases q : 2 ≤ k
      · exact wW_high hv8 q
      · have : k = 0 ∨ k = 1 := by omega
        rcases this with rfl | rfl
        · exact h0
        · exact h1
    · obtain ⟨L, l1, l2, l3, l4⟩ := lg _ h0 w0
      refine ⟨64 * 0 + L, by omega, len_0 (wW v) L l2 (fun k hk1 hk => ?_) h0 l4⟩
      by_cases q : 2 ≤ k
      · exact wW_high hv8 q
      · obtain rfl : k = 1 := by omega
        exact h1
  · obtain ⟨L, l1, l2, l3, l4⟩ := lg _ h1 w1
    refine ⟨64 * 1 + L, ?_, len_1 (wW v) L l2 (fun k hk1 hk => wW_high hv8 (by omega)) h1 l4⟩
    have hle : 18446744073709551616 * 2 ^ (L - 1) ≤ v := by
      have := Nat.mul_le_mul_left 18446744073709551616 l3
      omega
    have h2 : 2 ^ (64 + (L - 1)) < 2 ^ 120 := by
      rw [Nat.pow_add]
      exact Nat.lt_of_le_of_lt hle hv
    have := (Nat.pow_lt_pow_iff_right (a := 2) (by omega)).1 h2
    omega
end Go.Proofs.YtcomiiakkhafpaaGreat
set_option linter.unusedSimpArgs false
set_option linter.unusedSectionVars false
namespace Go.Proofs.YtcomiiakkhafpaaGreat
open Go.Proofs.YtcomiiakkhafpaaGreat.Am
variable [Inhabited DRT]
variable {G : GInv}
/-! ### Spots that may be; spots compared -/
/-- In lowest terms, and not too great. -/
def NormP (a b : Int) (c : Nat) : Prop := gg a b c = 1 ∧ a.natAbs < 2 ^ 119 ∧ b.natAbs < 2 ^ 119 ∧ 0 < c ∧ c < 18446744073709551616
theorem qz_one (x : Int) : qz x 1 = x := by unfold qz; rw [Nat.div_one]; split <;> omega
theorem low_norm {a b : Int} {c : Nat} (h : NormP a b c) : lowA a b c = spotA a b c := by
  unfold lowA
  rw [h.1, qz_one, qz_one, Nat.div_one]
theorem norm_low {x y : Int} {w : Nat} (hx : x.natAbs < 2 ^ 119) (hy : y.natAbs < 2 ^ 119) (h0 : 0 < w) (hw : w < 18446744073709551616) : NormP (qz x (gg x y w)) (qz y (gg x y w)) (w / gg x y w) := by
  have hgp := gg_pos (x := x) (y := y) h0
  have hgl := gg_le (x := x) (y := y) h0
  have d1 : gg x y w ∣ x.natAbs := Nat.dvd_trans (Nat.gcd_dvd_left _ _) (Nat.gcd_dvd_left _ _)
  have d2 : gg x y w ∣ y.natAbs := Nat.dvd_trans (Nat.gcd_dvd_left _ _) (Nat.gcd_dvd_right _ _)
  have d3 : gg x y w ∣ w := Nat.gcd_dvd_right _ _
  refine ⟨?_, ?_, ?_, Nat.div_pos hgl hgp, Nat.lt_of_le_of_lt (Nat.div_le_self _ _) hw⟩
  · have e : gg x y w = Nat.gcd (Nat.gcd x.natAbs y.natAbs) w := rfl
    unfold gg at *
    rw [qz_abs, qz_abs, Nat.gcd_div d1 d2, Nat.gcd_div (Nat.gcd_dvd_left _ _) d3]
    exact Nat.div_self hgp
  · rw [qz_abs]; exact Nat.lt_of_le_of_lt (Nat.div_le_self _ _) hx
  · rw [qz_abs]; exact Nat.lt_of_le_of_lt (Nat.div_le_self _ _) hy
set_option maxRecDepth 100000 in
set_option maxHeartbeats 1000000 in
theorem sMay_c (a b : Int) (c : Nat) (h : NormP a b c) : ACalls Tryz.prog G 21 [spotA a b c] (.sb true) := by
  have h128 : (2 : Nat) ^ 119 < 2 ^ 127 := by decide
  have h120 : (2 : Nat) ^ 119 < 2 ^ 120 := by decide
  have h64 : (18446744073709551616 : Nat) < 2 ^ 120 := by decide
  have hlo := lowest_c (G := G) a b c (Nat.lt_trans h.2.1 h128) (Nat.lt_trans h.2.2.1 h128) h.2.2.2.1 h.2.2.2.2
  rw [low_norm h] at hlo
  obtain ⟨hn, ha, hb, hc0, hc⟩ := h
  obtain ⟨L1, l1, k1⟩ := len_ex (G := G) a.natAbs (Nat.lt_trans ha h120)
  obtain ⟨L2, l2, k2⟩ := len_ex (G := G) b.natAbs (Nat.lt_trans hb h120)
  obtain ⟨L3, l3, k3⟩ := len_ex (G := G) c (Nat.lt_trans hc h64)
  have hz := wideZero_c (G := G) c (by rw [pow512]; omega)
  rw [decide_eq_false (by omega)] at hz
  clear ha hb hn h128 h120 h64 hc hc0
  unfold spotA intN sgnA spotL at *
  unfold wideN wideA at *
  generalize decide (a < 0) = p at *
  generalize decide (b < 0) = q at *
  generalize wW a.natAbs = X at *
  generalize wW b.natAbs = Y at *
  generalize wW c = W at *
  refine ACalls.of_WA ttok Tryz.func21 rfl rfl _ rfl ?_
  conv => whnf
  repeat' (first | refine WA_seq ?_ | refine WA_block ?_ | ((first | refine WA_region ttok ?_ | refine WA_draw ttok mixed ?_ | refine WA_cond ?_ | refine WA_skip ?_ | refine WA_exit ?_ | refine WA_ret ?_); conv => whnf) | (refine And.intro (fun h => ?_) (fun h => ?_) <;> (try simp only [brsA] at h) <;> conv => whnf) | (refine WR_fit ?_ ?_; (focus (first | exact wr_i64 (by omega) | exact wr_u64 (by omega) | exact wr_u8 (by omega) | exact wr_i32 (by omega) | exact wr_u32 (by omega))); conv => whnf) | ((first | refine WR_wrap ?_ | (refine And.intro (a := indepB _ _ = true) ?_ ?_; (focus kernel_rfl)) | refine And.intro rfl ?_ | (refine And.intro ?_ ?_; (focus (first | omega | decide | (dsimp only; omega) | (simp at *; omega))))); conv => whnf))
  all_goals first | contradiction | (exfalso; omega) | skip
  refine WA_loopI (fun i : Nat => i ≤ 3) (fun i => [(15, .int .i64 (i : Int))]) (fun i => [.box 34 (spotL p q X Y W), .row 30 8 3 (fun i => takeL 8 (List.drop (i * 8) [.int .u64 (X 0 : Nat), .int .u64 (X 1 : Nat), .int .u64 (X 2 : Nat), .int .u64 (X 3 : Nat), .int .u64 (X 4 : Nat), .int .u64 (X 5 : Nat), .int .u64 (X 6 : Nat), .int .u64 (X 7 : Nat), .int .u64 (Y 0 : Nat), .int .u64 (Y 1 : Nat), .int .u64 (Y 2 : Nat), .int .u64 (Y 3 : Nat), .int .u64 (Y 4 : Nat), .int .u64 (Y 5 : Nat), .int .u64 (Y 6 : Nat), .int .u64 (Y 7 : Nat), .int .u64 (W 0 : Nat), .int .u64 (W 1 : Nat), .int .u64 (W 2 : Nat), .int .u64 (W 3 : Nat), .int .u64 (W 4 : Nat), .int .u64 (W 5 : Nat), .int .u64 (W 6 : Nat), .int .u64 (W 7 : Nat)]))]) (fun i => 3 - i) 0 (by omega) ?_ ?_
  · conv => whnf
    repeat (first | exact rfl | exact trivial | exact Or.inl (fun _ _ => rfl) | exact (fun _ => rfl) | exact (fun _ _ => rfl) | exact Or.inl (fun _ hi => absurd hi (Nat.not_lt_zero _)) | ((first | refine And.intro rfl ?_ | refine And.intro (Or.inl (fun _ _ => rfl)) ?_ | refine And.intro (fun _ => rfl) ?_ | refine And.intro (fun _ _ => rfl) ?_ | (refine And.intro ?_ ?_; rotate_left)); conv => whnf))
    all_goals trace_state
  · intro i hi
    have e : i = 0 ∨ i = 1 ∨ i = 2 ∨ i = 3 := by omega
    rcases e with rfl | rfl | rfl | rfl
    · conv => whnf
      repeat' (first | refine WA_seq ?_ | refine WA_block ?_ | ((first | refine WA_region ttok ?_ | refine WA_draw ttok mixed ?_ | refine WA_cond ?_ | refine WA_skip ?_ | refine WA_exit ?_ | refine WA_ret ?_); conv => whnf) | (refine And.intro (fun h => ?_) (fun h => ?_) <;> (try simp only [brsA] at h) <;> conv => whnf) | (refine Or.inl ?_; (conv => whnf); refine ⟨_, k1, ?_⟩; conv => whnf) | (refine Or.inr (Or.inr (Or.inl ?_)); (conv => whnf); refine ⟨_, k1, ?_⟩; conv => whnf) | (refine Exists.intro _ (And.intro (k1) ?_); conv => whnf) | (refine WR_fit ?_ ?_; (focus (first | exact wr_i64 (by omega) | exact wr_u64 (by omega) | exact wr_u8 (by omega) | exact wr_i32 (by omega) | exact wr_u32 (by omega))); conv => whnf) | ((first | refine WR_wrap ?_ | (refine And.intro (a := indepB _ _ = true) ?_ ?_; (focus kernel_rfl)) | refine And.intro rfl ?_ | (refine And.intro ?_ ?_; (focus (first | omega | decide | (dsimp only; omega) | (simp at *; omega))))); conv => whnf))
      all_goals first | contradiction | (exfalso; omega) | skip
      refine ⟨1, (by show 1 ≤ 3; omega), (by show 3 - 1 < 3 - 0; omega), ?_⟩
      conv => whnf
      repeat (first | exact rfl | exact trivial | exact Or.inl (fun _ _ => rfl) | exact (fun _ => rfl) | exact (fun _ _ => rfl) | exact Or.inl (fun _ hi => absurd hi (Nat.not_lt_zero _)) | ((first | refine And.intro rfl ?_ | refine And.intro (Or.inl (fun _ _ => rfl)) ?_ | refine And.intro (fun _ => rfl) ?_ | refine And.intro (fun _ _ => rfl) ?_ | (refine And.intro ?_ ?_; rotate_left)); conv => whnf))
      all_goals trace_state
    · conv => whnf
      repeat' (first | refine WA_seq ?_ | refine WA_block ?_ | ((first | refine WA_region ttok ?_ | refine WA_draw ttok mixed ?_ | refine WA_cond ?_ | refine WA_skip ?_ | refine WA_exit ?_ | refine WA_ret ?_); conv => whnf) | (refine And.intro (fun h => ?_) (fun h => ?_) <;> (try simp only [brsA] at h) <;> conv => whnf) | (refine Or.inl ?_; (conv => whnf); refine ⟨_, k2, ?_⟩; conv => whnf) | (refine Or.inr (Or.inr (Or.inl ?_)); (conv => whnf); refine ⟨_, k2, ?_⟩; conv => whnf) | (refine Exists.intro _ (And.intro (k2) ?_); conv => whnf) | (refine WR_fit ?_ ?_; (focus (first | exact wr_i64 (by omega) | exact wr_u64 (by omega) | exact wr_u8 (by omega) | exact wr_i32 (by omega) | exact wr_u32 (by omega))); conv => whnf) | ((first | refine WR_wrap ?_ | (refine And.intro (a := indepB _ _ = true) ?_ ?_; (focus kernel_rfl)) | refine And.intro rfl ?_ | (refine And.intro ?_ ?_; (focus (first | omega | decide | (dsimp only; omega) | (simp at *; omega))))); conv => whnf))
      all_goals first | contradiction | (exfalso; omega) | skip
      refine ⟨2, (by show 2 ≤ 3; omega), (by show 3 - 2 < 3 - 1; omega), ?_⟩
      conv => whnf
      repeat (first | exact rfl | exact trivial | exact Or.inl (fun _ _ => rfl) | exact (fun _ => rfl) | exact (fun _ _ => rfl) | exact Or.inl (fun _ hi => absurd hi (Nat.not_lt_zero _)) | ((first | refine And.intro rfl ?_ | refine And.intro (Or.inl (fun _ _ => rfl)) ?_ | refine And.intro (fun _ => rfl) ?_ | refine And.intro (fun _ _ => rfl) ?_ | (refine And.intro ?_ ?_; rotate_left)); conv => whnf))
      all_goals trace_state
    · conv => whnf
      repeat' (first | refine WA_seq ?_ | refine WA_block ?_ | ((first | refine WA_region ttok ?_ | refine WA_draw ttok mixed ?_ | refine WA_cond ?_ | refine WA_skip ?_ | refine WA_exit ?_ | refine WA_ret ?_); conv => whnf) | (refine And.intro (fun h => ?_) (fun h => ?_) <;> (try simp only [brsA] at h) <;> conv => whnf) | (refine Or.inl ?_; (conv => whnf); refine ⟨_, k3, ?_⟩; conv => whnf) | (refine Or.inr (Or.inr (Or.inl ?_)); (conv => whnf); refine ⟨_, k3, ?_⟩; conv => whnf) | (refine Exists.intro _ (And.intro (k3) ?_); conv => whnf) | (refine WR_fit ?_ ?_; (focus (first | exact wr_i64 (by omega) | exact wr_u64 (by omega) | exact wr_u8 (by omega) | exact wr_i32 (by omega) | exact wr_u32 (by omega))); conv => whnf) | ((first | refine WR_wrap ?_ | (refine And.intro (a := indepB _ _ = true) ?_ ?_; (focus kernel_rfl)) | refine And.intro rfl ?_ | (refine And.intro ?_ ?_; (focus (first | omega | decide | (dsimp only; omega) | (simp at *; omega))))); conv => whnf))
      all_goals first | contradiction | (exfalso; omega) | skip
      refine ⟨3, (by show 3 ≤ 3; omega), (by show 3 - 3 < 3 - 2; omega), ?_⟩
      conv => whnf
      repeat (first | exact rfl | exact trivial | exact Or.inl (fun _ _ => rfl) | exact (fun _ => rfl) | exact (fun _ _ => rfl) | exact Or.inl (fun _ hi => absurd hi (Nat.not_lt_zero _)) | ((first | refine And.intro rfl ?_ | refine And.intro (Or.inl (fun _ _ => rfl)) ?_ | refine And.intro (fun _ => rfl) ?_ | refine And.intro (fun _ _ => rfl) ?_ | (refine And.intro ?_ ?_; rotate_left)); conv => whnf))
      all_goals trace_state
    · conv => whnf
      repeat' (first | refine WA_seq ?_ | refine WA_block ?_ | ((first | refine WA_region ttok ?_ | refine WA_draw ttok mixed ?_ | refine WA_cond ?_ | refine WA_skip ?_ | refine WA_exit ?_ | refine WA_ret ?_); conv => whnf) | (refine And.intro (fun h => ?_) (fun h => ?_) <;> (try simp only [brsA] at h) <;> conv => whnf) | (refine Or.inl ?_; (conv => whnf); refine ⟨_, hz, ?_⟩; conv => whnf) | (refine Or.inr (Or.inr (Or.inl ?_)); (conv => whnf); refine ⟨_, hz, ?_⟩; conv => whnf) | (refine Exists.intro _ (And.intro (hz) ?_); conv => whnf) | (refine Or.inl ?_; (conv => whnf); refine ⟨_, hlo, ?_⟩; conv => whnf) | (refine Or.inr (Or.inr (Or.inl ?_)); (conv => whnf); refine ⟨_, hlo, ?_⟩; conv => whnf) | (refine Exists.intro _ (And.intro (hlo) ?_); conv => whnf) | (refine WR_fit ?_ ?_; (focus (first | exact wr_i64 (by omega) | exact wr_u64 (by omega) | exact wr_u8 (by omega) | exact wr_i32 (by omega) | exact wr_u32 (by omega))); conv => whnf) | ((first | refine WR_wrap ?_ | (refine And.intro (a := indepB _ _ = true) ?_ ?_; (focus kernel_rfl)) | refine And.intro rfl ?_ | (refine And.intro ?_ ?_; (focus (first | omega | decide | (dsimp only; omega) | (simp at *; omega))))); conv => whnf))
      all_goals first | contradiction | (exfalso; omega) | (simp; done) | skip
      all_goals trace_state
end Go.Proofs.YtcomiiakkhafpaaGreat
set_option linter.unusedSimpArgs false
set_option linter.unusedSectionVars false
namespace Go.Proofs.YtcomiiakkhafpaaGreat
open Go.Proofs.YtcomiiakkhafpaaGreat.Am
variable [Inhabited DRT]
variable {G : GInv}
theorem intN_nat (w : Nat) : intN (w : Int) = sgnA false w := by
  unfold intN
  rw [decide_eq_false (by omega), Int.natAbs_natCast]
set_option maxRecDepth 100000 in
theorem times_s (a : Int) (w : Nat) (ha : a.natAbs < 2 ^ 119) (hw : w < 18446744073709551616) : ACalls Tryz.prog G 89 [intN a, wideN w] (intN (a * w)) := by
  have h119 : (2 : Nat) ^ 119 = 664613997892457936451903530140172288 := by decide
  rw [h119] at ha
  have m : a.natAbs * w ≤ 664613997892457936451903530140172288 * 18446744073709551616 := Nat.mul_le_mul (by omega) (by omega)
  have c := sMul_c (G := G) a (w : Int) (by rw [pow512]; omega) (by rw [Int.natAbs_natCast]; exact hw) (by rw [Int.natAbs_natCast, pow512]; omega)
  rw [intN_nat w] at c
  clear m h119 ha hw
  unfold intN sgnA at *
  unfold wideN wideA
  generalize a * (w : Int) = r at *
  generalize wW a.natAbs = X at *
  generalize wW w = W at *
  generalize wW r.natAbs = Z at *
  generalize decide (a < 0) = p at *
  generalize decide (r < 0) = q at *
  have c := c.fit (args' := [.agg [.sb p, .int .u64 (X 0 : Nat), .int .u64 (X 1 : Nat), .int .u64 (X 2 : Nat), .int .u64 (X 3 : Nat), .int .u64 (X 4 : Nat), .int .u64 (X 5 : Nat), .int .u64 (X 6 : Nat), .int .u64 (X 7 : Nat)], .agg [.bool false, .int .u64 (W 0 : Nat), .int .u64 (W 1 : Nat), .int .u64 (W 2 : Nat), .int .u64 (W 3 : Nat), .int .u64 (W 4 : Nat), .int .u64 (W 5 : Nat), .int .u64 (W 6 : Nat), .int .u64 (W 7 : Nat)]]) (by
    conv => whnf
    repeat (first | exact rfl | exact trivial | exact Or.inl (fun _ _ => rfl) | exact (fun _ => rfl) | exact (fun _ _ => rfl) | exact Or.inl (fun _ hi => absurd hi (Nat.not_lt_zero _)) | ((first | refine And.intro rfl ?_ | refine And.intro (Or.inl (fun _ _ => rfl)) ?_ | refine And.intro (fun _ => rfl) ?_ | refine And.intro (fun _ _ => rfl) ?_ | (refine And.intro ?_ ?_; rotate_left)); conv => whnf)))
  refine ACalls.of_WA ttok Tryz.func89 rfl rfl _ rfl ?_
  conv => whnf
  repeat' (first | refine WA_seq ?_ | refine WA_block ?_ | ((first | refine WA_region ttok ?_ | refine WA_draw ttok mixed ?_ | refine WA_cond ?_ | refine WA_skip ?_ | refine WA_exit ?_ | refine WA_ret ?_); conv => whnf) | (refine And.intro (fun h => ?_) (fun h => ?_) <;> (try simp only [brsA] at h) <;> conv => whnf) | (refine Or.inl ?_; (conv => whnf); refine ⟨_, c, ?_⟩; conv => whnf) | (refine Or.inr (Or.inr (Or.inl ?_)); (conv => whnf); refine ⟨_, c, ?_⟩; conv => whnf) | (refine Exists.intro _ (And.intro (c) ?_); conv => whnf) | (refine WR_fit ?_ ?_; (focus (first | exact wr_i64 (by omega) | exact wr_u64 (by omega) | exact wr_u8 (by omega) | exact wr_i32 (by omega) | exact wr_u32 (by omega))); conv => whnf) | ((first | refine WR_wrap ?_ | (refine And.intro (a := indepB _ _ = true) ?_ ?_; (focus kernel_rfl)) | refine And.intro rfl ?_ | (refine And.intro ?_ ?_; (focus (first | omega | decide | (dsimp only; omega) | (simp at *; omega))))); conv => whnf))
  all_goals first | contradiction | (exfalso; omega) | skip
  all_goals trace_state
def cmpS (a b : Int) (c : Nat) (a' b' : Int) (c' : Nat) : Int := firstNZ [cmpZ (a * c') (a' * c), cmpZ (b * c') (b' * c)]
set_option maxRecDepth 100000 in
set_option maxHeartbeats 1000000 in
theorem compare_s (a b : Int) (c : Nat) (a' b' : Int) (c' : Nat) (h : NormP a b c) (h' : NormP a' b' c') : ACalls Tryz.prog G 44 [spotA a b c, spotA a' b' c'] (.int .i64 (cmpS a b c a' b' c')) := by
  obtain ⟨_, ha, hb, hc0, hc⟩ := h
  obtain ⟨_, ha', hb', hc0', hc'⟩ := h'
  have t1 := times_s (G := G) a c' ha hc'
  have t2 := times_s (G := G) a' c ha' hc
  have t3 := times_s (G := G) b c' hb hc'
  have t4 := times_s (G := G) b' c hb' hc
  have h119 : (2 : Nat) ^ 119 = 664613997892457936451903530140172288 := by decide
  rw [h119] at ha hb ha' hb'
  have bd : ∀ (x : Int) (w : Nat), x.natAbs < 664613997892457936451903530140172288 → w < 18446744073709551616 → (x * w).natAbs < 65536 ^ 32 := fun x w h1 h2 => by
    rw [Int.natAbs_mul, Int.natAbs_natCast, pow512]
    have m : x.natAbs * w ≤ 664613997892457936451903530140172288 * 18446744073709551616 := Nat.mul_le_mul (by omega) (by omega)
    omega
  have k1 := sCmp_c (G := G) (a * c') (a' * c) (bd _ _ ha hc') (bd _ _ ha' hc)
  have k2 := sCmp_c (G := G) (b * c') (b' * c) (bd _ _ hb hc') (bd _ _ hb' hc)
  have ko := or_c (G := G) [cmpZ (a * c') (a' * c), cmpZ (b * c') (b' * c)] (by simp)
  unfold cmpS
  generalize cmpZ (a * c') (a' * c) = z1 at *
  generalize cmpZ (b * c') (b' * c) = z2 at *
  generalize firstNZ [z1, z2] = z at *
  have ko := ko.fit (args' := [.sl 2 1 (fun i => takeL 1 (List.drop (i * 1) [.int .i64 z1, .int .i64 z2]))]) (by
    conv => whnf
    repeat (first | exact rfl | exact trivial | exact Or.inl (fun _ _ => rfl) | exact (fun _ => rfl) | exact (fun _ _ => rfl) | exact Or.inl (fun _ hi => absurd hi (Nat.not_lt_zero _)) | ((first | refine And.intro rfl ?_ | refine And.intro (Or.inl (fun _ _ => rfl)) ?_ | refine And.intro (fun _ => rfl) ?_ | refine And.intro (fun _ _ => rfl) ?_ | (refine And.intro ?_ ?_; rotate_left)); conv => whnf))
    all_goals (refine Or.inl fun i hi => ?_; rcases i with _ | _ | _ | _ | i <;> first | rfl | omega))
  clear bd h119 ha hb ha' hb' hc hc' hc0 hc0'
  unfold spotA intN sgnA spotL at *
  unfold wideN wideA at *
  generalize decide (a < 0) = p1 at *
  generalize decide (b < 0) = p2 at *
  generalize decide (a' < 0) = p3 at *
  generalize decide (b' < 0) = p4 at *
  generalize decide (a * (c' : Int) < 0) = p5 at *
  generalize decide (b * (c' : Int) < 0) = p6 at *
  generalize decide (a' * (c : Int) < 0) = p7 at *
  generalize decide (b' * (c : Int) < 0) = p8 at *
  generalize wW a.natAbs = V1 at *
  generalize wW b.natAbs = V2 at *
  generalize wW a'.natAbs = V3 at *
  generalize wW b'.natAbs = V4 at *
  generalize wW (a * (c' : Int)).natAbs = V5 at *
  generalize wW (b * (c' : Int)).natAbs = V6 at *
  generalize wW (a' * (c : Int)).natAbs = V7 at *
  generalize wW (b' * (c : Int)).natAbs = V8 at *
  generalize wW c = V9 at *
  generalize wW c' = V0 at *
  refine ACalls.of_WA ttok Tryz.func44 rfl rfl _ rfl ?_
  conv => whnf
  repeat' (first | refine WA_seq ?_ | refine WA_block ?_ | ((first | refine WA_region ttok ?_ | refine WA_draw ttok mixed ?_ | refine WA_cond ?_ | refine WA_skip ?_ | refine WA_exit ?_ | refine WA_ret ?_); conv => whnf) | (refine And.intro (fun h => ?_) (fun h => ?_) <;> (try simp only [brsA] at h) <;> conv => whnf) | (refine Or.inl ?_; (conv => whnf); refine ⟨_, t1, ?_⟩; conv => whnf) | (refine Or.inr (Or.inr (Or.inl ?_)); (conv => whnf); refine ⟨_, t1, ?_⟩; conv => whnf) | (refine Exists.intro _ (And.intro (t1) ?_); conv => whnf) | (refine Or.inl ?_; (conv => whnf); refine ⟨_, t2, ?_⟩; conv => whnf) | (refine Or.inr (Or.inr (Or.inl ?_)); (conv => whnf); refine ⟨_, t2, ?_⟩; conv => whnf) | (refine Exists.intro _ (And.intro (t2) ?_); conv => whnf) | (refine Or.inl ?_; (conv => whnf); refine ⟨_, t3, ?_⟩; conv => whnf) | (refine Or.inr (Or.inr (Or.inl ?_)); (conv => whnf); refine ⟨_, t3, ?_⟩; conv => whnf) | (refine Exists.intro _ (And.intro (t3) ?_); conv => whnf) | (refine Or.inl ?_; (conv => whnf); refine ⟨_, t4, ?_⟩; conv => whnf) | (refine Or.inr (Or.inr (Or.inl ?_)); (conv => whnf); refine ⟨_, t4, ?_⟩; conv => whnf) | (refine Exists.intro _ (And.intro (t4) ?_); conv => whnf) | (refine Or.inl ?_; (conv => whnf); refine ⟨_, k1, ?_⟩; conv => whnf) | (refine Or.inr (Or.inr (Or.inl ?_)); (conv => whnf); refine ⟨_, k1, ?_⟩; conv => whnf) | (refine Exists.intro _ (And.intro (k1) ?_); conv => whnf) | (refine Or.inl ?_; (conv => whnf); refine ⟨_, k2, ?_⟩; conv => whnf) | (refine Or.inr (Or.inr (Or.inl ?_)); (conv => whnf); refine ⟨_, k2, ?_⟩; conv => whnf) | (refine Exists.intro _ (And.intro (k2) ?_); conv => whnf) | (refine Or.inl ?_; (conv => whnf); refine ⟨_, ko, ?_⟩; conv => whnf) | (refine Or.inr (Or.inr (Or.inl ?_)); (conv => whnf); refine ⟨_, ko, ?_⟩; conv => whnf) | (refine Exists.intro _ (And.intro (ko) ?_); conv => whnf) | (refine Or.inr (Or.inr (Or.inl ?_)); (conv => whnf); refine ⟨_, ko, ?_⟩; conv => whnf) | (refine Exists.intro _ (And.intro (ko) ?_); conv => whnf) | (refine Or.inr (Or.inr (Or.inr ?_)); (conv => whnf); refine ⟨_, _, ko, ?_⟩; conv => whnf) | (refine Or.inr ?_; (conv => whnf); refine ⟨_, _, ko, ?_⟩; conv => whnf) | (refine Exists.intro _ (And.intro (ko) ?_); conv => whnf) | (refine WR_fit ?_ ?_; (focus (first | exact wr_i64 (by omega) | exact wr_u64 (by omega) | exact wr_u8 (by omega) | exact wr_i32 (by omega) | exact wr_u32 (by omega))); conv => whnf) | ((first | refine WR_wrap ?_ | (refine And.intro (a := indepB _ _ = true) ?_ ?_; (focus kernel_rfl)) | refine And.intro rfl ?_ | (refine And.intro ?_ ?_; (focus (first | omega | decide | (dsimp only; omega) | (simp at *; omega))))); conv => whnf))
  all_goals first | contradiction | (exfalso; omega) | skip
  all_goals trace_state
set_option maxRecDepth 100000 in
set_option maxHeartbeats 1000000 in
theorem sCmpS_c (a b : Int) (c : Nat) (a' b' : Int) (c' : Nat) (h : NormP a b c) (h' : NormP a' b' c') : ACalls Tryz.prog G 12 [spotA a b c, spotA a' b' c'] (.tup [.int .i64 (cmpS a b c a' b' c'), .int .i64 0]) := by
  have m1 := sMay_c (G := G) a b c h
  have m2 := sMay_c (G := G) a' b' c' h'
  have k := compare_s (G := G) a b c a' b' c' h h'
  generalize cmpS a b c a' b' c' = z at *
  unfold spotA spotL at *
  generalize decide (a < 0) = p1 at *
  generalize decide (b < 0) = p2 at *
  generalize decide (a' < 0) = p3 at *
  generalize decide (b' < 0) = p4 at *
  generalize wW a.natAbs = V1 at *
  generalize wW b.natAbs = V2 at *
  generalize wW a'.natAbs = V3 at *
  generalize wW b'.natAbs = V4 at *
  generalize wW c = V9 at *
  generalize wW c' = V0 at *
  refine ACalls.of_WA ttok Tryz.func12 rfl rfl _ rfl ?_
  conv => whnf
  repeat' (first | refine WA_seq ?_ | refine WA_block ?_ | ((first | refine WA_region ttok ?_ | refine WA_draw ttok mixed ?_ | refine WA_cond ?_ | refine WA_skip ?_ | refine WA_exit ?_ | refine WA_ret ?_); conv => whnf) | (refine And.intro (fun h => ?_) (fun h => ?_) <;> (try simp only [brsA] at h) <;> conv => whnf) | (refine Or.inl ?_; (conv => whnf); refine ⟨_, m1, ?_⟩; conv => whnf) | (refine Or.inr (Or.inr (Or.inl ?_)); (conv => whnf); refine ⟨_, m1, ?_⟩; conv => whnf) | (refine Exists.intro _ (And.intro (m1) ?_); conv => whnf) | (refine Or.inl ?_; (conv => whnf); refine ⟨_, m2, ?_⟩; conv => whnf) | (refine Or.inr (Or.inr (Or.inl ?_)); (conv => whnf); refine ⟨_, m2, ?_⟩; conv => whnf) | (refine Exists.intro _ (And.intro (m2) ?_); conv => whnf) | (refine Or.inl ?_; (conv => whnf); refine ⟨_, k, ?_⟩; conv => whnf) | (refine Or.inr (Or.inr (Or.inl ?_)); (conv => whnf); refine ⟨_, k, ?_⟩; conv => whnf) | (refine Exists.intro _ (And.intro (k) ?_); conv => whnf) | (refine WR_fit ?_ ?_; (focus (first | exact wr_i64 (by omega) | exact wr_u64 (by omega) | exact wr_u8 (by omega) | exact wr_i32 (by omega) | exact wr_u32 (by omega))); conv => whnf) | ((first | refine WR_wrap ?_ | (refine And.intro (a := indepB _ _ = true) ?_ ?_; (focus kernel_rfl)) | refine And.intro rfl ?_ | (refine And.intro ?_ ?_; (focus (first | omega | decide | (dsimp only; omega) | (simp at *; omega))))); conv => whnf))
  all_goals first | contradiction | (exfalso; omega) | skip
  all_goals trace_state
theorem norm_pt {x y : Int} (hx : In29 x) (hy : In29 y) : NormP x y 1 := by
  unfold In29 at hx hy
  have h119 : (2 : Nat) ^ 119 = 664613997892457936451903530140172288 := by decide
  refine ⟨?_, by rw [h119]; omega, by rw [h119]; omega, by omega, by omega⟩
  unfold gg
  exact Nat.gcd_one_right _
set_option maxRecDepth 100000 in
set_option maxHeartbeats 1000000 in
theorem sAt_c (p : Pt) (h1 : -9223372036854775808 ≤ p.x ∧ p.x ≤ 9223372036854775807) (h2 : -9223372036854775808 ≤ p.y ∧ p.y ≤ 9223372036854775807) : ACalls Tryz.prog G 22 [.agg (ptA p)] (spotA p.x p.y 1) := by
  have o1 := sOf_c (G := G) p.x h1.1 h1.2
  have o2 := sOf_c (G := G) p.y h2.1 h2.2
  have o3 := wideOf_c (G := G) 1
  rw [← wide1_eq (by omega)] at o3
  unfold spotA spotL ptA
  unfold intN sgnA at *
  unfold wideN wideA at *
  generalize decide (p.x < 0) = p1 at *
  generalize decide (p.y < 0) = p2 at *
  generalize wW p.x.natAbs = V1 at *
  generalize wW p.y.natAbs = V2 at *
  generalize wW 1 = V9 at *
  refine ACalls.of_WA ttok Tryz.func22 rfl rfl _ rfl ?_
  conv => whnf
  repeat' (first | refine WA_seq ?_ | refine WA_block ?_ | ((first | refine WA_region ttok ?_ | refine WA_draw ttok mixed ?_ | refine WA_cond ?_ | refine WA_skip ?_ | refine WA_exit ?_ | refine WA_ret ?_); conv => whnf) | (refine And.intro (fun h => ?_) (fun h => ?_) <;> (try simp only [brsA] at h) <;> conv => whnf) | (refine Or.inl ?_; (conv => whnf); refine ⟨_, o1, ?_⟩; conv => whnf) | (refine Or.inr (Or.inr (Or.inl ?_)); (conv => whnf); refine ⟨_, o1, ?_⟩; conv => whnf) | (refine Exists.intro _ (And.intro (o1) ?_); conv => whnf) | (refine Or.inl ?_; (conv => whnf); refine ⟨_, o2, ?_⟩; conv => whnf) | (refine Or.inr (Or.inr (Or.inl ?_)); (conv => whnf); refine ⟨_, o2, ?_⟩; conv => whnf) | (refine Exists.intro _ (And.intro (o2) ?_); conv => whnf) | (refine Or.inl ?_; (conv => whnf); refine ⟨_, o3, ?_⟩; conv => whnf) | (refine Or.inr (Or.inr (Or.inl ?_)); (conv => whnf); refine ⟨_, o3, ?_⟩; conv => whnf) | (refine Exists.intro _ (And.intro (o3) ?_); conv => whnf) | (refine WR_fit ?_ ?_; (focus (first | exact wr_i64 (by omega) | exact wr_u64 (by omega) | exact wr_u8 (by omega) | exact wr_i32 (by omega) | exact wr_u32 (by omega))); conv => whnf) | ((first | refine WR_wrap ?_ | (refine And.intro (a := indepB _ _ = true) ?_ ?_; (focus kernel_rfl)) | refine And.intro rfl ?_ | (refine And.intro ?_ ?_; (focus (first | omega | decide | (dsimp only; omega) | (simp at *; omega))))); conv => whnf))
  all_goals first | contradiction | (exfalso; omega) | skip
  all_goals trace_state
end Go.Proofs.YtcomiiakkhafpaaGreat

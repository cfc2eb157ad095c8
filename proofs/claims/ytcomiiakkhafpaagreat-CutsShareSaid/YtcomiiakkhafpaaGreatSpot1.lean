/-
  Spots in lowest terms, along a line, of points.
-/
import Derived.Test.YtcomiiakkhafpaaGreatQuot1
import Derived.Test.YtcomiiakkhafpaaGreatMeet1
import Derived.Test.YtcomiiakkhafpaaGreatWord2
set_option linter.unusedSimpArgs false
set_option linter.unusedSectionVars false
namespace Go.Proofs.YtcomiiakkhafpaaGreat
open Go.Proofs.YtcomiiakkhafpaaGreat.Am
variable [Inhabited DRT]
variable {G : GInv}
/-! ### Spots -/
def spotL (p q : Bool) (X Y W : Nat → Nat) : List A := [.sb p, .int .u64 (X 0 : Nat), .int .u64 (X 1 : Nat), .int .u64 (X 2 : Nat), .int .u64 (X 3 : Nat), .int .u64 (X 4 : Nat), .int .u64 (X 5 : Nat), .int .u64 (X 6 : Nat), .int .u64 (X 7 : Nat), .sb q, .int .u64 (Y 0 : Nat), .int .u64 (Y 1 : Nat), .int .u64 (Y 2 : Nat), .int .u64 (Y 3 : Nat), .int .u64 (Y 4 : Nat), .int .u64 (Y 5 : Nat), .int .u64 (Y 6 : Nat), .int .u64 (Y 7 : Nat), .int .u64 (W 0 : Nat), .int .u64 (W 1 : Nat), .int .u64 (W 2 : Nat), .int .u64 (W 3 : Nat), .int .u64 (W 4 : Nat), .int .u64 (W 5 : Nat), .int .u64 (W 6 : Nat), .int .u64 (W 7 : Nat)]
def spotA (x y : Int) (w : Nat) : A := .agg (spotL (decide (x < 0)) (decide (y < 0)) (wW x.natAbs) (wW y.natAbs) (wW w))
/-- A whole number over one that divides it. -/
def qz (x : Int) (g : Nat) : Int := if x < 0 then -((x.natAbs / g : Nat) : Int) else ((x.natAbs / g : Nat) : Int)
theorem qz_abs (x : Int) (g : Nat) : (qz x g).natAbs = x.natAbs / g := by unfold qz; generalize x.natAbs / g = k; split <;> omega
theorem qz_neg (x : Int) (g : Nat) : (decide (x < 0) && decide (x.natAbs / g ≠ 0)) = decide (qz x g < 0) := by
 unfold qz
 generalize x.natAbs / g = k
 rw [Bool.eq_iff_iff, Bool.and_eq_true, decide_eq_true_iff, decide_eq_true_iff, decide_eq_true_iff]
 split <;> omega
def gg (x y : Int) (w : Nat) : Nat := Nat.gcd (Nat.gcd x.natAbs y.natAbs) w
def lowA (x y : Int) (w : Nat) : A := spotA (qz x (gg x y w)) (qz y (gg x y w)) (w / gg x y w)
theorem sq_lt {z a b : Nat} (h : z < 2 ^ a) (hab : a + a ≤ b) : z * z < 2 ^ b := Nat.lt_of_lt_of_le (Nat.mul_lt_mul'' h h) (by rw [← Nat.pow_add]; exact Nat.pow_le_pow_right (by omega) hab)
theorem gg_pos {x y : Int} {w : Nat} (h : 0 < w) : 0 < gg x y w := Nat.gcd_pos_of_pos_right _ h
theorem gg_le {x y : Int} {w : Nat} (h : 0 < w) : gg x y w ≤ w := Nat.le_of_dvd h (Nat.gcd_dvd_right _ _)
set_option maxRecDepth 100000 in
set_option maxHeartbeats 4000000 in
theorem lowest_c (x y : Int) (w : Nat) (hx : x.natAbs < 2 ^ 127) (hy : y.natAbs < 2 ^ 127) (h0 : 0 < w) (hw : w < 18446744073709551616) :
  ACalls Tryz.prog G 55 [intN x, intN y, wideN w] (lowA x y w) := by
 have hP := p127
 have h127 : (2 : Nat) ^ 127 = 170141183460469231731687303715884105728 := by decide
 have hg1 : Nat.gcd x.natAbs y.natAbs < 2 ^ 127 := by
  by_cases q : x.natAbs = 0
  ·rw [q, Nat.gcd_zero_left]; exact hy
  ·exact Nat.lt_of_le_of_lt (Nat.le_of_dvd (by omega) (Nat.gcd_dvd_left _ _)) hx
 have c1 := gcdB_c (G := G) x.natAbs y.natAbs hx hy
 have c2 := gcdB_c (G := G) (Nat.gcd x.natAbs y.natAbs) w hg1 (by omega)
 have hgp := gg_pos (x := x) (y := y) h0
 have hgl := gg_le (x := x) (y := y) h0
 have nx := qz_neg x (gg x y w)
 have ny := qz_neg y (gg x y w)
 have ax := qz_abs x (gg x y w)
 have ay := qz_abs y (gg x y w)
 unfold lowA spotA
 rw [← nx, ← ny, ax, ay]
 have e2 : Nat.gcd (Nat.gcd x.natAbs y.natAbs) w = gg x y w := rfl
 rw [e2] at c2
 clear nx ny ax ay e2
 generalize gg x y w = g at *
 have d1 := over1_c (G := G) x.natAbs g (by omega) hgp (by omega)
 have d2 := over1_c (G := G) y.natAbs g (by omega) hgp (by omega)
 have d3 := over1_c (G := G) w g (by omega) hgp (by omega)
 have f1 := sfix_c (G := G) (decide (x < 0)) (x.natAbs / g) (Nat.lt_of_le_of_lt (Nat.div_le_self _ _) (by omega))
 have f2 := sfix_c (G := G) (decide (y < 0)) (y.natAbs / g) (Nat.lt_of_le_of_lt (Nat.div_le_self _ _) (by omega))
 clear hx hy h0 hw hP h127 hg1 hgp hgl
 unfold intN sgnA wideN wideA spotL at *
 generalize (decide (x < 0) && decide (x.natAbs / g ≠ 0)) = b1 at *
 generalize (decide (y < 0) && decide (y.natAbs / g ≠ 0)) = b2 at *
 generalize decide (x < 0) = p at *
 generalize decide (y < 0) = q at *
 generalize wW (x.natAbs / g) = XQ at *
 generalize wW (y.natAbs / g) = YQ at *
 generalize wW (w / g) = WQ at *
 generalize wW (x.natAbs % g) = XR at *
 generalize wW (y.natAbs % g) = YR at *
 generalize wW (w % g) = WR at *
 generalize wW (Nat.gcd x.natAbs y.natAbs) = G1 at *
 generalize wW x.natAbs = X at *
 generalize wW y.natAbs = Y at *
 generalize wW w = Wd at *
 generalize wW g = Gv at *
 refine ACalls.of_WA ttok Tryz.func55 rfl rfl _ rfl ?_
 conv => whnf
 repeat' (first | refine sq ?_ | refine bk ?_ | ((first | refine rg ttok ?_ | refine dw ttok mixed ?_ | refine cd ?_ | refine sk ?_ | refine xt ?_ | refine rt ?_); conv => whnf) | (refine And.intro (fun h => ?_) (fun h => ?_) <;> (try simp only [brsA] at h) <;> conv => whnf) | (refine Or.inl ?_; (conv => whnf); (first | refine ⟨_, c1, ?_⟩ | refine ⟨_, c2, ?_⟩ | refine ⟨_, d1, ?_⟩ | refine ⟨_, d2, ?_⟩ | refine ⟨_, d3, ?_⟩ | refine ⟨_, f1, ?_⟩ | refine ⟨_, f2, ?_⟩); conv => whnf) | ((first | refine wf ?_ | refine wp' ?_ | refine ai ?_ | refine And.intro rfl ?_ | refine an ?_ | fail); conv => whnf))
 all_goals first | contradiction | (exfalso; omega) | skip
set_option maxRecDepth 100000 in
set_option maxHeartbeats 4000000 in
theorem rlowest_c (x y : Int) (w : Nat) (hx : x.natAbs < 2 ^ 127) (hy : y.natAbs < 2 ^ 127) (h0 : 0 < w) (hw : w < 18446744073709551616) :
  ACalls Tryz.prog G 47 [intN x, intN y, wideN w] (lowA x y w) := by
 have hP := p127
 have h127 : (2 : Nat) ^ 127 = 170141183460469231731687303715884105728 := by decide
 have hg1 : Nat.gcd x.natAbs y.natAbs < 2 ^ 127 := by
  by_cases q : x.natAbs = 0
  ·rw [q, Nat.gcd_zero_left]; exact hy
  ·exact Nat.lt_of_le_of_lt (Nat.le_of_dvd (by omega) (Nat.gcd_dvd_left _ _)) hx
 have hs1 := sq_lt (b := 990) hy (by decide)
 have hs2 := sq_lt (b := 990) (show w < 2 ^ 127 by omega) (by decide)
 have c1 := gcd_c (G := G) x.natAbs y.natAbs (by omega) (by omega) hs1
 have c2 := gcd_c (G := G) (Nat.gcd x.natAbs y.natAbs) w (by omega) (by omega) hs2
 have hgp := gg_pos (x := x) (y := y) h0
 have hgl := gg_le (x := x) (y := y) h0
 have nx := qz_neg x (gg x y w)
 have ny := qz_neg y (gg x y w)
 have ax := qz_abs x (gg x y w)
 have ay := qz_abs y (gg x y w)
 unfold lowA spotA
 rw [← nx, ← ny, ax, ay]
 have e2 : Nat.gcd (Nat.gcd x.natAbs y.natAbs) w = gg x y w := rfl
 rw [e2] at c2
 clear nx ny ax ay e2
 generalize gg x y w = g at *
 have d1 := overN_c (G := G) x.natAbs g (by omega) (by omega) hgp
 have d2 := overN_c (G := G) y.natAbs g (by omega) (by omega) hgp
 have d3 := overN_c (G := G) w g (by omega) (by omega) hgp
 have f1 := fix_c (G := G) (decide (x < 0)) (x.natAbs / g) (Nat.lt_of_le_of_lt (Nat.div_le_self _ _) (by omega))
 have f2 := fix_c (G := G) (decide (y < 0)) (y.natAbs / g) (Nat.lt_of_le_of_lt (Nat.div_le_self _ _) (by omega))
 clear hx hy h0 hw hP h127 hg1 hgp hgl hs1 hs2
 unfold intN sgnA wideN wideA spotL at *
 generalize (decide (x < 0) && decide (x.natAbs / g ≠ 0)) = b1 at *
 generalize (decide (y < 0) && decide (y.natAbs / g ≠ 0)) = b2 at *
 generalize decide (x < 0) = p at *
 generalize decide (y < 0) = q at *
 generalize wW (x.natAbs / g) = XQ at *
 generalize wW (y.natAbs / g) = YQ at *
 generalize wW (w / g) = WQ at *
 generalize wW (x.natAbs % g) = XR at *
 generalize wW (y.natAbs % g) = YR at *
 generalize wW (w % g) = WR at *
 generalize wW (Nat.gcd x.natAbs y.natAbs) = G1 at *
 generalize wW x.natAbs = X at *
 generalize wW y.natAbs = Y at *
 generalize wW w = Wd at *
 generalize wW g = Gv at *
 refine ACalls.of_WA ttok Tryz.func47 rfl rfl _ rfl ?_
 conv => whnf
 repeat' (first | refine sq ?_ | refine bk ?_ | ((first | refine rg ttok ?_ | refine dw ttok mixed ?_ | refine cd ?_ | refine sk ?_ | refine xt ?_ | refine rt ?_); conv => whnf) | (refine And.intro (fun h => ?_) (fun h => ?_) <;> (try simp only [brsA] at h) <;> conv => whnf) | (refine Or.inl ?_; (conv => whnf); (first | refine ⟨_, c1, ?_⟩ | refine ⟨_, c2, ?_⟩ | refine ⟨_, d1, ?_⟩ | refine ⟨_, d2, ?_⟩ | refine ⟨_, d3, ?_⟩ | refine ⟨_, f1, ?_⟩ | refine ⟨_, f2, ?_⟩); conv => whnf) | ((first | refine wf ?_ | refine wp' ?_ | refine ai ?_ | refine And.intro rfl ?_ | refine an ?_ | fail); conv => whnf))
 all_goals first | contradiction | (exfalso; omega) | skip
set_option maxRecDepth 100000 in
theorem spart_c (a b n d : Int) (ha : -1073741824 ≤ a ∧ a ≤ 1073741824) (hb : -1073741824 ≤ b ∧ b ≤ 1073741824) (hn : 0 ≤ n ∧ n ≤ d) (hd : d ≤ 9223372036854775807) :
  ACalls Tryz.prog G 56 [.int .i64 a, .int .i64 b, .int .i64 n, .int .i64 d] (intN (a * d + (b - a) * n)) := by
 have o1 := sOf_c (G := G) a (by omega) (by omega)
 have o2 := sOf_c (G := G) d (by omega) (by omega)
 have o3 := sOf_c (G := G) (b - a) (by omega) (by omega)
 have o4 := sOf_c (G := G) n (by omega) (by omega)
 have m1 : a.natAbs * d.natAbs ≤ 1073741824 * 9223372036854775807 := Nat.mul_le_mul (by omega) (by omega)
 have m2 : (b - a).natAbs * n.natAbs ≤ 2147483648 * 9223372036854775807 := Nat.mul_le_mul (by omega) (by omega)
 have p1 := sMul_c (G := G) a d (by rw [pow512]; omega) (by omega) (by rw [pow512]; omega)
 have p2 := sMul_c (G := G) (b - a) n (by rw [pow512]; omega) (by omega) (by rw [pow512]; omega)
 have s1 := sAdd_c (G := G) (a * d) ((b - a) * n) (by rw [pow512, Int.natAbs_mul, Int.natAbs_mul]; omega)
 clear m1 m2
 generalize a * d + (b - a) * n = r at *
 generalize (b - a) * n = r2 at *
 generalize a * d = r1 at *
 unfold intN sgnA at *
 generalize wW a.natAbs = V1 at *
 generalize wW d.natAbs = V2 at *
 generalize wW (b - a).natAbs = V3 at *
 generalize wW n.natAbs = V4 at *
 generalize wW r.natAbs = V5 at *
 generalize wW r1.natAbs = V6 at *
 generalize wW r2.natAbs = V7 at *
 refine ACalls.of_WA ttok Tryz.func56 rfl rfl _ rfl ?_
 conv => whnf
 repeat' (first | refine sq ?_ | refine bk ?_ | ((first | refine rg ttok ?_ | refine dw ttok mixed ?_ | refine cd ?_ | refine sk ?_ | refine xt ?_ | refine rt ?_); conv => whnf) | (refine And.intro (fun h => ?_) (fun h => ?_) <;> (try simp only [brsA] at h) <;> conv => whnf) | (refine Or.inl ?_; (conv => whnf); (first | refine ⟨_, o1, ?_⟩ | refine ⟨_, o2, ?_⟩ | refine ⟨_, o3, ?_⟩ | refine ⟨_, o4, ?_⟩ | refine ⟨_, p1, ?_⟩ | refine ⟨_, p2, ?_⟩ | refine ⟨_, s1, ?_⟩); conv => whnf) | ((first | refine wf ?_ | refine wp' ?_ | refine ai ?_ | refine And.intro rfl ?_ | refine an ?_ | fail); conv => whnf))
 all_goals first | contradiction | (exfalso; omega) | skip
end Go.Proofs.YtcomiiakkhafpaaGreat
namespace Go.Proofs.YtcomiiakkhafpaaGreat
open Go.Proofs.YtcomiiakkhafpaaGreat.Am
variable [Inhabited DRT]
variable {G : GInv}
/-! ### Spots along a line -/
theorem mul_sgn (x y : Int) : sgnA ((decide (x < 0) != decide (y < 0)) && decide (x.natAbs * y.natAbs ≠ 0)) (x.natAbs * y.natAbs) = intN (x * y) := sgn_is (Int.natAbs_mul x y).symm (by
  rw [Bool.eq_iff_iff, Bool.and_eq_true, decide_eq_true_iff, decide_eq_true_iff, ← Int.natAbs_mul]
  have hm : (x * y).natAbs ≠ 0 ↔ x ≠ 0 ∧ y ≠ 0 := by rw [Ne, Int.natAbs_eq_zero, Int.mul_eq_zero]; omega
  rw [hm]
  rcases Int.lt_or_le x 0 with a | a <;> rcases Int.lt_or_le y 0 with b | b
  ·have := Int.mul_nonneg_of_nonpos_of_nonpos (Int.le_of_lt a) (Int.le_of_lt b)
   rw [decide_eq_true a, decide_eq_true b]; simp; omega
  ·rw [decide_eq_true a, decide_eq_false (by omega)]
   constructor
   ·rintro ⟨_, q1, q2⟩; exact Int.mul_neg_of_neg_of_pos a (by omega)
   ·intro q
    refine ⟨rfl, by omega, fun q2 => ?_⟩
    rw [q2, Int.mul_zero] at q; omega
  ·rw [decide_eq_false (by omega), decide_eq_true b]
   constructor
   ·rintro ⟨_, q1, q2⟩; exact Int.mul_neg_of_pos_of_neg (by omega) b
   ·intro q
    refine ⟨rfl, fun q2 => ?_, by omega⟩
    rw [q2, Int.zero_mul] at q; omega
  ·have := Int.mul_nonneg a b
   rw [decide_eq_false (by omega), decide_eq_false (by omega)]; simp; omega)
theorem add_sgn (x y : Int) : sgnA (addS (decide (x < 0)) (decide (y < 0)) x.natAbs y.natAbs && decide (addV (decide (x < 0)) (decide (y < 0)) x.natAbs y.natAbs ≠ 0)) (addV (decide (x < 0)) (decide (y < 0)) x.natAbs y.natAbs) = intN (x + y) := by
 refine sgn_is ?_ ?_
 ·unfold addV
  by_cases a : x < 0 <;> by_cases b : y < 0 <;> simp only [a, b, decide_true, decide_false, if_true, if_false, Bool.false_eq_true, Bool.true_eq_false] <;> (try split) <;> omega
 ·rw [Bool.eq_iff_iff, Bool.and_eq_true, decide_eq_true_iff, decide_eq_true_iff]
  unfold addV addS
  by_cases a : x < 0 <;> by_cases b : y < 0 <;> simp only [a, b, decide_true, decide_false, if_true, if_false, Bool.false_eq_true, Bool.true_eq_false] <;> (try split) <;> simp only [Bool.false_eq_true, false_and, true_and, false_iff, iff_true, true_iff] <;> omega
set_option maxRecDepth 100000 in
theorem way_c (a b n d : Int) (ha : -1073741824 ≤ a ∧ a ≤ 1073741824) (hb : -1073741824 ≤ b ∧ b ≤ 1073741824) (hn : 0 ≤ n ∧ n ≤ d) (hd : d ≤ 9223372036854775807) :
  ACalls Tryz.prog G 59 [.int .i64 a, .int .i64 b, .int .i64 n, .int .i64 d] (intN (a * d + (b - a) * n)) := by
 have er : a * (d - n) + b * n = a * d + (b - a) * n := by rw [Int.mul_sub, Int.sub_mul]; omega
 have o1 := of5_c (G := G) a (by omega) (by omega)
 have o2 := of5_c (G := G) (d - n) (by omega) (by omega)
 have o3 := of5_c (G := G) b (by omega) (by omega)
 have o4 := of5_c (G := G) n (by omega) (by omega)
 have m1 : a.natAbs * (d - n).natAbs ≤ 1073741824 * 9223372036854775807 := Nat.mul_le_mul (by omega) (by omega)
 have m2 : b.natAbs * n.natAbs ≤ 1073741824 * 9223372036854775807 := Nat.mul_le_mul (by omega) (by omega)
 have p1 := mul5_c (G := G) (decide (a < 0)) (decide (d - n < 0)) a.natAbs (d - n).natAbs (by rw [pow512]; omega) (by rw [pow512]; omega) (by rw [pow512]; omega)
 have p2 := mul5_c (G := G) (decide (b < 0)) (decide (n < 0)) b.natAbs n.natAbs (by rw [pow512]; omega) (by rw [pow512]; omega) (by rw [pow512]; omega)
 rw [mul_sgn] at p1 p2
 have s1 := add5_c (G := G) (decide (a * (d - n) < 0)) (decide (b * n < 0)) (a * (d - n)).natAbs (b * n).natAbs (by rw [pow512, Int.natAbs_mul]; omega) (by rw [pow512, Int.natAbs_mul]; omega) (by rw [pow512, Int.natAbs_mul, Int.natAbs_mul]; omega)
 rw [add_sgn, er] at s1
 clear m1 m2
 generalize a * d + (b - a) * n = r at *
 generalize b * n = r2 at *
 generalize a * (d - n) = r1 at *
 unfold intN sgnA at *
 generalize wW a.natAbs = V1 at *
 generalize wW (d - n).natAbs = V2 at *
 generalize wW b.natAbs = V3 at *
 generalize wW n.natAbs = V4 at *
 generalize wW r.natAbs = V5 at *
 generalize wW r1.natAbs = V6 at *
 generalize wW r2.natAbs = V7 at *
 refine ACalls.of_WA ttok Tryz.func59 rfl rfl _ rfl ?_
 conv => whnf
 repeat' (first | refine sq ?_ | refine bk ?_ | ((first | refine rg ttok ?_ | refine dw ttok mixed ?_ | refine cd ?_ | refine sk ?_ | refine xt ?_ | refine rt ?_); conv => whnf) | (refine And.intro (fun h => ?_) (fun h => ?_) <;> (try simp only [brsA] at h) <;> conv => whnf) | (refine Or.inl ?_; (conv => whnf); (first | refine ⟨_, o1, ?_⟩ | refine ⟨_, o2, ?_⟩ | refine ⟨_, o3, ?_⟩ | refine ⟨_, o4, ?_⟩ | refine ⟨_, p1, ?_⟩ | refine ⟨_, p2, ?_⟩ | refine ⟨_, s1, ?_⟩); conv => whnf) | ((first | refine wf ?_ | refine wp' ?_ | refine ai ?_ | refine And.intro rfl ?_ | refine an ?_ | fail); conv => whnf))
 all_goals first | contradiction | (exfalso; omega) | skip
end Go.Proofs.YtcomiiakkhafpaaGreat
namespace Go.Proofs.YtcomiiakkhafpaaGreat
open Go.Proofs.YtcomiiakkhafpaaGreat.Am
variable [Inhabited DRT]
variable {G : GInv}
/-! ### Spots of lines and of points -/
def xS (s : Sg) (n d : Int) : Int := s.a.x * d + (s.b.x - s.a.x) * n
def yS (s : Sg) (n d : Int) : Int := s.a.y * d + (s.b.y - s.a.y) * n
def OfP (s : Sg) (n d : Int) : Prop := LineS s ∧ 1 ≤ d ∧ 0 ≤ n ∧ n ≤ d
instance (s : Sg) (n d : Int) : Decidable (OfP s n d) := inferInstanceAs (Decidable (_ ∧ _))
theorem part_bd {a b n d : Int} (ha : In29 a) (hb : In29 b) (hn : 0 ≤ n ∧ n ≤ d) (hd : d ≤ 9223372036854775807) : (a * d + (b - a) * n).natAbs < 2 ^ 127 := by
 unfold In29 at ha hb
 have m1 : a.natAbs * d.natAbs ≤ 536870912 * 9223372036854775807 := Nat.mul_le_mul (by omega) (by omega)
 have m2 : (b - a).natAbs * n.natAbs ≤ 1073741824 * 9223372036854775807 := Nat.mul_le_mul (by omega) (by omega)
 rw [← Int.natAbs_mul] at m1 m2
 have h127 : (2 : Nat) ^ 127 = 170141183460469231731687303715884105728 := by decide
 rw [h127]
 omega
theorem low_form (x y : Int) (w : Nat) : ∃ p q X Y W, lowA x y w = .agg (spotL p q X Y W) := ⟨_, _, _, _, _, rfl⟩
set_option maxRecDepth 100000 in
set_option maxHeartbeats 1000000 in
theorem sOf_ok (s : Sg) (n d : Int) (h : OfP s n d) (hd : d ≤ 9223372036854775807) : ACalls Tryz.prog G 18 [.agg (sgA s), .int .i64 n, .int .i64 d] (.tup [lowA (xS s n d) (yS s n d) d.toNat, .int .i64 0]) := by
 obtain ⟨hL, h1, h2, h3⟩ := h
 have hl := pline_c (G := G) s
 rw [decide_eq_true hL] at hl
 obtain ⟨⟨ax, ay⟩, ⟨bx, by'⟩, _⟩ := hL
 have c1 := spart_c (G := G) s.a.x s.b.x n d (by unfold In29 at ax; omega) (by unfold In29 at bx; omega) ⟨h2, h3⟩ hd
 have c2 := spart_c (G := G) s.a.y s.b.y n d (by unfold In29 at ay; omega) (by unfold In29 at by'; omega) ⟨h2, h3⟩ hd
 have b1 := part_bd ax bx ⟨h2, h3⟩ hd
 have b2 := part_bd ay by' ⟨h2, h3⟩ hd
 obtain ⟨D, rfl⟩ : ∃ D : Nat, d = D := ⟨d.toNat, by omega⟩
 have c3 := wideOf_c (G := G) D
 have c4 := lowest_c (G := G) (xS s n D) (yS s n D) D b1 b2 (by omega) (by omega)
 have hw := wide1_eq (b := D) (by omega)
 rw [← hw] at c3
 have ex : s.a.x * (D : Int) + (s.b.x - s.a.x) * n = xS s n D := rfl
 have ey : s.a.y * (D : Int) + (s.b.y - s.a.y) * n = yS s n D := rfl
 rw [ex] at c1
 rw [ey] at c2
 have et : ((D : Nat) : Int).toNat = D := Int.toNat_natCast D
 rw [et]
 clear hw b1 b2 ex ey ax ay bx by' et
 obtain ⟨p, q, X, Y, W, hLo⟩ := low_form (xS s n D) (yS s n D) D
 rw [hLo] at c4 ⊢
 clear hLo
 unfold intN sgnA spotL at *
 unfold wideN wideA at *
 generalize decide (xS s n D < 0) = p1 at *
 generalize decide (yS s n D < 0) = q1 at *
 generalize wW (xS s n D).natAbs = V1 at *
 generalize wW (yS s n D).natAbs = V2 at *
 generalize wW D = V3 at *
 refine ACalls.of_WA ttok Tryz.func18 rfl rfl _ rfl ?_
 conv => whnf
 repeat' (first | (exact absurd (show (D : Int) < 1 by assumption) (by omega)) | (exact absurd (show n < 0 by assumption) (by omega)) | (exact absurd h3 (by assumption)) | refine sq ?_ | refine bk ?_ | ((first | refine rg ttok ?_ | refine dw ttok mixed ?_ | refine cd ?_ | refine sk ?_ | refine xt ?_ | refine rt ?_); conv => whnf) | (refine And.intro (fun h => ?_) (fun h => ?_) <;> (try simp only [brsA] at h) <;> conv => whnf) | (refine Or.inl ?_; (conv => whnf); (first | refine ⟨_, hl, ?_⟩ | refine ⟨_, c1, ?_⟩ | refine ⟨_, c2, ?_⟩ | refine ⟨_, c3, ?_⟩ | refine ⟨_, c4, ?_⟩); conv => whnf) | ((first | refine wf ?_ | refine wp' ?_ | refine ai ?_ | refine And.intro rfl ?_ | refine an ?_ | fail); conv => whnf))
 all_goals first | contradiction | (exfalso; omega) | skip
set_option maxRecDepth 100000 in
set_option maxHeartbeats 1000000 in
theorem rOf_ok (s : Sg) (n d : Int) (h : OfP s n d) (hd : d ≤ 9223372036854775807) : ACalls Tryz.prog G 20 [.agg (sgA s), .int .i64 n, .int .i64 d] (lowA (xS s n d) (yS s n d) d.toNat) := by
 obtain ⟨hL, h1, h2, h3⟩ := h
 obtain ⟨⟨ax, ay⟩, ⟨bx, by'⟩, _⟩ := hL
 have c1 := way_c (G := G) s.a.x s.b.x n d (by unfold In29 at ax; omega) (by unfold In29 at bx; omega) ⟨h2, h3⟩ hd
 have c2 := way_c (G := G) s.a.y s.b.y n d (by unfold In29 at ay; omega) (by unfold In29 at by'; omega) ⟨h2, h3⟩ hd
 have b1 := part_bd ax bx ⟨h2, h3⟩ hd
 have b2 := part_bd ay by' ⟨h2, h3⟩ hd
 obtain ⟨D, rfl⟩ : ∃ D : Nat, d = D := ⟨d.toNat, by omega⟩
 have c3 := of5_c (G := G) (D : Int) (by omega) hd
 have c4 := rlowest_c (G := G) (xS s n D) (yS s n D) D b1 b2 (by omega) (by omega)
 have ex : s.a.x * (D : Int) + (s.b.x - s.a.x) * n = xS s n D := rfl
 have ey : s.a.y * (D : Int) + (s.b.y - s.a.y) * n = yS s n D := rfl
 rw [ex] at c1
 rw [ey] at c2
 have et : ((D : Nat) : Int).toNat = D := Int.toNat_natCast D
 have en : ((D : Nat) : Int).natAbs = D := Int.natAbs_natCast D
 unfold intN sgnA at c3
 rw [en] at c3
 rw [et]
 clear b1 b2 ex ey ax ay bx by' et en
 obtain ⟨p, q, X, Y, W, hLo⟩ := low_form (xS s n D) (yS s n D) D
 rw [hLo] at c4 ⊢
 clear hLo
 unfold intN sgnA spotL at *
 unfold wideN wideA at *
 generalize decide (xS s n D < 0) = p1 at *
 generalize decide (yS s n D < 0) = q1 at *
 generalize decide ((D : Int) < 0) = r1 at *
 generalize wW (xS s n D).natAbs = V1 at *
 generalize wW (yS s n D).natAbs = V2 at *
 generalize wW D = V3 at *
 refine ACalls.of_WA ttok Tryz.func20 rfl rfl _ rfl ?_
 conv => whnf
 repeat' (first | refine sq ?_ | refine bk ?_ | ((first | refine rg ttok ?_ | refine dw ttok mixed ?_ | refine cd ?_ | refine sk ?_ | refine xt ?_ | refine rt ?_); conv => whnf) | (refine And.intro (fun h => ?_) (fun h => ?_) <;> (try simp only [brsA] at h) <;> conv => whnf) | (refine Or.inl ?_; (conv => whnf); (first | refine ⟨_, c1, ?_⟩ | refine ⟨_, c2, ?_⟩ | refine ⟨_, c3, ?_⟩ | refine ⟨_, c4, ?_⟩); conv => whnf) | ((first | refine wf ?_ | refine wp' ?_ | refine ai ?_ | refine And.intro rfl ?_ | refine an ?_ | fail); conv => whnf))
 all_goals first | contradiction | (exfalso; omega) | skip
end Go.Proofs.YtcomiiakkhafpaaGreat
namespace Go.Proofs.YtcomiiakkhafpaaGreat
open Go.Proofs.YtcomiiakkhafpaaGreat.Am
variable [Inhabited DRT]
variable {G : GInv}
end Go.Proofs.YtcomiiakkhafpaaGreat
namespace Go.Proofs.YtcomiiakkhafpaaGreat
open Go.Proofs.YtcomiiakkhafpaaGreat.Am
variable [Inhabited DRT]
variable {G : GInv}
/-! ### Spots that may be; spots compared -/
/-- In lowest terms, and not too great. -/
def NormP (a b : Int) (c : Nat) : Prop := gg a b c = 1 ∧ a.natAbs < 2 ^ 119 ∧ b.natAbs < 2 ^ 119 ∧ 0 < c ∧ c < 18446744073709551616
theorem qz_one (x : Int) : qz x 1 = x := by unfold qz; rw [Nat.div_one]; split <;> omega
theorem low_norm {a b : Int} {c : Nat} (h : NormP a b c) : lowA a b c = spotA a b c := by
 unfold lowA
 rw [h.1, qz_one, qz_one, Nat.div_one]
end Go.Proofs.YtcomiiakkhafpaaGreat
namespace Go.Proofs.YtcomiiakkhafpaaGreat
open Go.Proofs.YtcomiiakkhafpaaGreat.Am
variable [Inhabited DRT]
variable {G : GInv}
theorem norm_pt {x y : Int} (hx : In29 x) (hy : In29 y) : NormP x y 1 := by
 unfold In29 at hx hy
 have h119 : (2 : Nat) ^ 119 = 664613997892457936451903530140172288 := by decide
 refine ⟨?_, by rw [h119]; omega, by rw [h119]; omega, by omega, by omega⟩
 unfold gg
 exact Nat.gcd_one_right _
end Go.Proofs.YtcomiiakkhafpaaGreat
namespace Go.Proofs.YtcomiiakkhafpaaGreat
open Go.Proofs.YtcomiiakkhafpaaGreat.Am
variable [Inhabited DRT]
variable {G : GInv}
end Go.Proofs.YtcomiiakkhafpaaGreat

/-
  Parts in lowest terms, cuts, what one line cuts of another, cuts in order; a line's cuts by others.
-/
import Derived.Test.YtcomiiakkhafpaaGreatMeet1
import Derived.Test.YtcomiiakkhafpaaGreatSpot1
import Derived.Test.YtcomiiakkhafpaaGreatAm6
import Derived.Test.YtcomiiakkhafpaaGreatBox1
set_option linter.unusedSimpArgs false
set_option linter.unusedSectionVars false
namespace Go.Proofs.YtcomiiakkhafpaaGreat
open Go.Proofs.YtcomiiakkhafpaaGreat.Am
variable [Inhabited DRT]
variable {G : GInv}
/-! ### Parts in lowest terms -/
def BadP (n d : Int) : Prop := n < 0 ∨ d < 1 ∨ d < n
instance (n d : Int) : Decidable (BadP n d) := inferInstanceAs (Decidable (_ ∨ _))
def gP (n d : Int) : Nat := Nat.gcd n.toNat d.toNat
def lowN (n d : Int) : Int := if BadP n d then 0 else ((n.toNat / gP n d : Nat) : Int)
def lowD (n d : Int) : Int := if BadP n d then 1 else ((d.toNat / gP n d : Nat) : Int)
theorem low_ok (n d : Int) (hd : d ≤ 9223372036854775807) : 0 ≤ lowN n d ∧ lowN n d ≤ lowD n d ∧ 1 ≤ lowD n d ∧ lowD n d ≤ 9223372036854775807 := by
 unfold lowN lowD
 by_cases h : BadP n d
 ·rw [if_pos h, if_pos h]; decide
 ·rw [if_neg h, if_neg h]
  unfold BadP at h
  have hp : 0 < gP n d := Nat.gcd_pos_of_pos_right _ (by omega)
  have h1 : n.toNat / gP n d ≤ d.toNat / gP n d := Nat.div_le_div_right (by omega)
  have h2 : 0 < d.toNat / gP n d := Nat.div_pos (Nat.le_of_dvd (by omega) (Nat.gcd_dvd_right _ _)) hp
  have h3 : d.toNat / gP n d ≤ d.toNat := Nat.div_le_self _ _
  generalize n.toNat / gP n d = u at *
  generalize d.toNat / gP n d = v at *
  omega
theorem low_end {a b D : Nat} (ha : 0 < a) (hb : 0 < b) (hp : a * b * 2 ^ 200 ≤ D * D) (hD : D ≤ 9223372036854775807) : False := by
 have e1 : 1 ≤ a * b := Nat.mul_pos ha hb
 have e3 : D * D ≤ 9223372036854775807 * 9223372036854775807 := Nat.mul_le_mul hD hD
 have e4 : 9223372036854775807 * 9223372036854775807 < 2 ^ 200 := by decide
 generalize hz : 2 ^ 200 = z at *
 have e2 := Nat.mul_le_mul_right z e1
 omega
theorem wd64 (N g D : Nat) (h : N ≤ D) (hD : (D : Int) ≤ 9223372036854775807) : IntKind.i64.wrap ((N : Int).tdiv (g : Int)) = ((N / g : Nat) : Int) := by
 have e : (N : Int).tdiv (g : Int) = ((N / g : Nat) : Int) := rfl
 have := Nat.div_le_self N g
 rw [e]
 generalize N / g = q at *
 rw [IntKind.wrap_i64]
 omega
set_option maxRecDepth 100000 in
theorem cLow_c (n d : Int) (hd : d ≤ 9223372036854775807) : ACalls Tryz.prog G 25 [.int .i64 n, .int .i64 d] (.tup [.int .i64 (lowN n d), .int .i64 (lowD n d)]) := by
 unfold lowN lowD
 by_cases hB : BadP n d
 ·rw [if_pos hB, if_pos hB]
  unfold BadP at hB
  refine ACalls.of_WA ttok Tryz.func25 rfl rfl _ rfl ?_
  conv => whnf
  repeat' (first | refine sq ?_ | refine bk ?_ | ((first | refine rg ttok ?_ | refine dw ttok mixed ?_ | refine cd ?_ | refine sk ?_ | refine xt ?_ | refine rt ?_); conv => whnf) | (refine And.intro (fun h => ?_) (fun h => ?_) <;> (try simp only [brsA] at h) <;> conv => whnf) | ((first | refine wf ?_ | refine wp' ?_ | refine ai ?_ | refine And.intro rfl ?_ | refine an ?_ | fail); conv => whnf))
  all_goals first | contradiction | (exfalso; omega) | skip
 ·rw [if_neg hB, if_neg hB]
  have h1 : 0 ≤ n ∧ 1 ≤ d ∧ n ≤ d := by unfold BadP at hB; omega
  obtain ⟨N, rfl⟩ : ∃ N : Nat, n = N := ⟨n.toNat, by omega⟩
  obtain ⟨D, rfl⟩ : ∃ D : Nat, d = D := ⟨d.toNat, by omega⟩
  unfold gP
  rw [Int.toNat_natCast, Int.toNat_natCast]
  refine ACalls.of_WA ttok Tryz.func25 rfl rfl _ rfl ?_
  conv => whnf
  repeat' (first | (exact absurd (show ((N : Nat) : Int) < 0 by assumption) (by omega)) | (exact absurd (show ((D : Nat) : Int) < 1 by assumption) (by omega)) | (exact absurd (show ((D : Nat) : Int) < N by assumption) (by omega)) | refine sq ?_ | refine bk ?_ | ((first | refine rg ttok ?_ | refine dw ttok mixed ?_ | refine cd ?_ | refine sk ?_ | refine xt ?_ | refine rt ?_); conv => whnf) | (refine And.intro (fun h => ?_) (fun h => ?_) <;> (try simp only [brsA] at h) <;> conv => whnf) | ((first | refine wf ?_ | refine wp' ?_ | refine ai ?_ | refine And.intro rfl ?_ | refine an ?_ | fail); conv => whnf))
  refine WA_loopI (fun x : Nat × Nat => Nat.gcd x.1 x.2 = Nat.gcd N D ∧ 0 < x.2 ∧ x.1 ≤ D ∧ x.2 ≤ D) (fun x => match x with | (a, b) => [(6, .int .i64 (a : Int)), (7, .int .i64 (b : Int))]) (fun _ => []) (fun x => x.1) (N, D) ⟨rfl, by omega, by omega, Nat.le_refl _⟩ ?_ ?_
  ·conv => whnf
   repeat (first | exact fa | ((first | refine fb ?_ | (refine And.intro ?_ ?_; rotate_left)); conv => whnf))
  ·rintro ⟨a, b⟩ ⟨hg, hb, ha1, hb1⟩
   simp only at hg hb ha1 hb1
   conv => whnf
   repeat' (first | refine sq ?_ | refine bk ?_ | ((first | refine rg ttok ?_ | refine dw ttok mixed ?_ | refine cd ?_ | refine sk ?_ | refine xt ?_ | refine rt ?_); conv => whnf) | (refine And.intro (fun h => ?_) (fun h => ?_) <;> (try simp only [brsA] at h) <;> conv => whnf) | ((first | refine wf ?_ | refine wp' ?_ | refine ai ?_ | refine And.intro rfl ?_ | refine an ?_ | fail); conv => whnf))
   ·have ha : 0 < a := by omega
    have hm := Nat.mod_lt b ha
    refine ⟨(b % a, a), ⟨by show Nat.gcd (b % a) a = _; rw [← hg, ← Nat.gcd_rec], ha, (by show b % a ≤ D; omega), ha1⟩, hm, ?_⟩
    conv => whnf
    repeat (first | exact fa | ((first | refine fb ?_ | (refine And.intro ?_ ?_; rotate_left)); conv => whnf))
   ·have ha : a = 0 := by omega
    subst ha
    rw [Nat.gcd_zero_left] at hg
    subst hg
    repeat' (first | refine sq ?_ | refine bk ?_ | ((first | refine rg ttok ?_ | refine dw ttok mixed ?_ | refine cd ?_ | refine sk ?_ | refine xt ?_ | refine rt ?_); conv => whnf) | (refine And.intro (fun h => ?_) (fun h => ?_) <;> (try simp only [brsA] at h) <;> conv => whnf) | ((first | refine wf ?_ | refine wp' ?_ | refine ai ?_ | refine And.intro rfl ?_ | refine an ?_ | fail); conv => whnf))
    refine ⟨wd64 N _ D (by omega) hd, ?_⟩
    conv => whnf
    first | exact wd64 D _ D (Nat.le_refl _) hd | exact ⟨wd64 D _ D (Nat.le_refl _) hd, trivial⟩
set_option maxRecDepth 100000 in
theorem rcLow_c (n d : Int) (hd : d ≤ 9223372036854775807) : ACalls Tryz.prog G 26 [.int .i64 n, .int .i64 d] (.tup [.int .i64 (lowN n d), .int .i64 (lowD n d)]) := by
 unfold lowN lowD
 by_cases hB : BadP n d
 ·rw [if_pos hB, if_pos hB]
  unfold BadP at hB
  refine ACalls.of_WA ttok Tryz.func26 rfl rfl _ rfl ?_
  conv => whnf
  repeat' (first | refine sq ?_ | refine bk ?_ | ((first | refine rg ttok ?_ | refine dw ttok mixed ?_ | refine cd ?_ | refine sk ?_ | refine xt ?_ | refine rt ?_); conv => whnf) | (refine And.intro (fun h => ?_) (fun h => ?_) <;> (try simp only [brsA] at h) <;> conv => whnf) | ((first | refine wf ?_ | refine wp' ?_ | refine ai ?_ | refine And.intro rfl ?_ | refine an ?_ | fail); conv => whnf))
  all_goals first | contradiction | (exfalso; omega) | skip
 ·rw [if_neg hB, if_neg hB]
  have h1 : 0 ≤ n ∧ 1 ≤ d ∧ n ≤ d := by unfold BadP at hB; omega
  obtain ⟨N, rfl⟩ : ∃ N : Nat, n = N := ⟨n.toNat, by omega⟩
  obtain ⟨D, rfl⟩ : ∃ D : Nat, d = D := ⟨d.toNat, by omega⟩
  have hND : N ≤ D := by omega
  have hD2 : D ≤ 9223372036854775807 := by omega
  unfold gP
  rw [Int.toNat_natCast, Int.toNat_natCast]
  refine ACalls.of_WA ttok Tryz.func26 rfl rfl _ rfl ?_
  conv => whnf
  repeat' (first | (exact absurd (show ((N : Nat) : Int) < 0 by assumption) (by omega)) | (exact absurd (show ((D : Nat) : Int) < 1 by assumption) (by omega)) | (exact absurd (show ((D : Nat) : Int) < N by assumption) (by omega)) | refine sq ?_ | refine bk ?_ | ((first | refine rg ttok ?_ | refine dw ttok mixed ?_ | refine cd ?_ | refine sk ?_ | refine xt ?_ | refine rt ?_); conv => whnf) | (refine And.intro (fun h => ?_) (fun h => ?_) <;> (try simp only [brsA] at h) <;> conv => whnf) | ((first | refine wf ?_ | refine wp' ?_ | refine ai ?_ | refine And.intro rfl ?_ | refine an ?_ | fail); conv => whnf))
  refine WA_loopI (fun x : Nat × Nat × Nat => Nat.gcd x.2.2 x.2.1 = Nat.gcd N D ∧ x.2.2 ≤ x.2.1 ∧ x.2.1 ≤ D ∧ x.1 ≤ 200 ∧ 0 < x.2.1 ∧ x.2.1 * x.2.2 * 2 ^ x.1 ≤ D * D) (fun x => match x with | (k, a, b) => [(8, .int .i64 (k : Int)), (6, .int .i64 (a : Int)), (7, .int .i64 (b : Int))]) (fun _ => []) (fun x => 200 - x.1) (0, D, N) ⟨rfl, by show N ≤ D; omega, Nat.le_refl _, by show 0 ≤ 200; omega, by show 0 < D; omega, by show D * N * 2 ^ 0 ≤ D * D; rw [Nat.pow_zero, Nat.mul_one]; exact Nat.mul_le_mul_left _ (by omega)⟩ ?_ ?_
  ·conv => whnf
   repeat (first | exact fa | ((first | refine fb ?_ | (refine And.intro ?_ ?_; rotate_left)); conv => whnf))
  ·rintro ⟨k, a, b⟩ ⟨hg, hba, ha1, hk, ha0, hp⟩
   simp only at hg hba ha1 hk ha0 hp
   conv => whnf
   repeat' (first | refine sq ?_ | refine bk ?_ | ((first | refine rg ttok ?_ | refine dw ttok mixed ?_ | refine cd ?_ | refine sk ?_ | refine xt ?_ | refine rt ?_); conv => whnf) | (refine And.intro (fun h => ?_) (fun h => ?_) <;> (try simp only [brsA] at h) <;> conv => whnf) | ((first | refine wf ?_ | refine wp' ?_ | refine ai ?_ | refine And.intro rfl ?_ | refine an ?_ | fail); conv => whnf))
   ·have hb : 0 < b := by omega
    have hm := Nat.mod_lt a hb
    have hq : 1 ≤ a / b := Nat.div_pos hba hb
    have hdm := Nat.div_add_mod a b
    have h2 : a % b * 2 ≤ a := by
     have : b * 1 ≤ b * (a / b) := Nat.mul_le_mul_left _ hq
     omega
    refine ⟨(k + 1, b, a % b), ⟨by show Nat.gcd (a % b) b = _; rw [← hg, Nat.gcd_comm b a, ← Nat.gcd_rec b a, Nat.gcd_comm b a], (by show a % b ≤ b; omega), (by show b ≤ D; omega), (by show k + 1 ≤ 200; omega), hb, ?_⟩, (by show 200 - (k + 1) < 200 - k; omega), ?_⟩
    ·show b * (a % b) * 2 ^ (k + 1) ≤ D * D
     refine Nat.le_trans ?_ hp
     rw [Nat.pow_succ, Nat.mul_comm (2 ^ k) 2, ← Nat.mul_assoc]
     refine Nat.mul_le_mul_right _ ?_
     rw [Nat.mul_assoc, Nat.mul_comm a b]
     exact Nat.mul_le_mul_left _ h2
    ·conv => whnf
     repeat (first | exact fa | ((first | refine fb ?_ | (refine And.intro ?_ ?_; rotate_left)); conv => whnf))
   ·have hb : b = 0 := by omega
    subst hb
    rw [Nat.gcd_zero_left] at hg
    subst hg
    refine ⟨wd64 N _ D hND hd, ?_⟩
    conv => whnf
    first | exact wd64 D _ D (Nat.le_refl _) hd | exact ⟨wd64 D _ D (Nat.le_refl _) hd, trivial⟩
   ·have hk2 : k = 200 := by omega
    subst hk2
    have hb : b = 0 := by
     rcases Nat.eq_zero_or_pos b with h0 | h0
     ·exact h0
     ·exfalso
      exact low_end ha0 h0 hp hD2
    subst hb
    rw [Nat.gcd_zero_left] at hg
    subst hg
    refine ⟨wd64 N _ D hND hd, ?_⟩
    conv => whnf
    first | exact wd64 D _ D (Nat.le_refl _) hd | exact ⟨wd64 D _ D (Nat.le_refl _) hd, trivial⟩
end Go.Proofs.YtcomiiakkhafpaaGreat
namespace Go.Proofs.YtcomiiakkhafpaaGreat
open Go.Proofs.YtcomiiakkhafpaaGreat.Am
variable [Inhabited DRT]
variable {G : GInv}
/-! ### Cuts -/
structure W8 where
 a : Nat
 b : Nat
 c : Nat
 d : Nat
 e : Nat
 f : Nat
 g : Nat
 h : Nat
 deriving Inhabited, DecidableEq
structure Ct where
 n : Int
 d : Int
 p : Bool
 q : Bool
 X : W8
 Y : W8
 W : W8
 deriving Inhabited, DecidableEq
def w8 (f : Nat → Nat) : W8 := ⟨f 0, f 1, f 2, f 3, f 4, f 5, f 6, f 7⟩
def spL (c : Ct) : List A := [.sb c.p, .int .u64 (c.X.a : Nat), .int .u64 (c.X.b : Nat), .int .u64 (c.X.c : Nat), .int .u64 (c.X.d : Nat), .int .u64 (c.X.e : Nat), .int .u64 (c.X.f : Nat), .int .u64 (c.X.g : Nat), .int .u64 (c.X.h : Nat),
 .sb c.q, .int .u64 (c.Y.a : Nat), .int .u64 (c.Y.b : Nat), .int .u64 (c.Y.c : Nat), .int .u64 (c.Y.d : Nat), .int .u64 (c.Y.e : Nat), .int .u64 (c.Y.f : Nat), .int .u64 (c.Y.g : Nat), .int .u64 (c.Y.h : Nat),
 .int .u64 (c.W.a : Nat), .int .u64 (c.W.b : Nat), .int .u64 (c.W.c : Nat), .int .u64 (c.W.d : Nat), .int .u64 (c.W.e : Nat), .int .u64 (c.W.f : Nat), .int .u64 (c.W.g : Nat), .int .u64 (c.W.h : Nat)]
def ctL (c : Ct) : List A := [.int .i64 c.n, .int .i64 c.d, .sb c.p, .int .u64 (c.X.a : Nat), .int .u64 (c.X.b : Nat), .int .u64 (c.X.c : Nat), .int .u64 (c.X.d : Nat), .int .u64 (c.X.e : Nat), .int .u64 (c.X.f : Nat), .int .u64 (c.X.g : Nat), .int .u64 (c.X.h : Nat),
 .sb c.q, .int .u64 (c.Y.a : Nat), .int .u64 (c.Y.b : Nat), .int .u64 (c.Y.c : Nat), .int .u64 (c.Y.d : Nat), .int .u64 (c.Y.e : Nat), .int .u64 (c.Y.f : Nat), .int .u64 (c.Y.g : Nat), .int .u64 (c.Y.h : Nat),
 .int .u64 (c.W.a : Nat), .int .u64 (c.W.b : Nat), .int .u64 (c.W.c : Nat), .int .u64 (c.W.d : Nat), .int .u64 (c.W.e : Nat), .int .u64 (c.W.f : Nat), .int .u64 (c.W.g : Nat), .int .u64 (c.W.h : Nat)]
def GoodC (c : Ct) : Prop := 0 ≤ c.n ∧ c.n ≤ c.d ∧ 1 ≤ c.d ∧ c.d ≤ 9223372036854775807
instance (c : Ct) : Decidable (GoodC c) := inferInstanceAs (Decidable (_ ∧ _))
abbrev Cu : Type := { c : Ct // GoodC c }

instance : Inhabited Cu := ⟨⟨⟨0, 1, false, false, default, default, default⟩, by decide⟩⟩
def eCu (c : Cu) : List A := ctL c.1
/-- A cut of parts, at a spot that is made lowest. -/
def ctS (n d x y : Int) (w : Nat) : Ct := ⟨n, d, decide (qz x (gg x y w) < 0), decide (qz y (gg x y w) < 0), w8 (wW (qz x (gg x y w)).natAbs), w8 (wW (qz y (gg x y w)).natAbs), w8 (wW (w / gg x y w))⟩
def mkT (s : Sg) (n d : Int) : Ct := ctS (lowN n d) (lowD n d) (xS s (lowN n d) (lowD n d)) (yS s (lowN n d) (lowD n d)) (lowD n d).toNat
theorem mkT_good (s : Sg) (n d : Int) (h : d ≤ 9223372036854775807) : GoodC (mkT s n d) := low_ok n d h
def mkC (s : Sg) (n d : Int) : Cu := if h : d ≤ 9223372036854775807 then ⟨mkT s n d, mkT_good s n d h⟩ else default
theorem mkC_val {s : Sg} {n d : Int} (h : d ≤ 9223372036854775807) : (mkC s n d).1 = mkT s n d := by unfold mkC; rw [dif_pos h]
theorem ct_form (c : Ct) : ∃ n d p q X Y W, c = ⟨n, d, p, q, X, Y, W⟩ := ⟨_, _, _, _, _, _, _, rfl⟩
theorem mkT_form (s : Sg) (n d : Int) : ∃ c : Ct, mkT s n d = c ∧ lowA (xS s (lowN n d) (lowD n d)) (yS s (lowN n d) (lowD n d)) (lowD n d).toNat = .agg (spL c) ∧ c.n = lowN n d ∧ c.d = lowD n d := ⟨_, rfl, rfl, rfl, rfl⟩
set_option maxRecDepth 100000 in
set_option maxHeartbeats 1000000 in
theorem cmade_c (s : Sg) (n d : Int) (hL : LineS s) (hd : d ≤ 9223372036854775807) : ACalls Tryz.prog G 69 [.agg (sgA s), .int .i64 n, .int .i64 d] (.agg (eCu (mkC s n d))) := by
 have c1 := cLow_c (G := G) n d hd
 obtain ⟨l1, l2, l3, l4⟩ := low_ok n d hd
 have c2 := sOf_ok (G := G) s (lowN n d) (lowD n d) ⟨hL, l3, l1, l2⟩ l4
 unfold eCu
 rw [mkC_val hd]
 obtain ⟨c, e1, e2, e3, e4⟩ := mkT_form s n d
 rw [e1]
 rw [e2] at c2
 rw [← e3, ← e4] at c1 c2
 clear e1 e2 e3 e4 l1 l2 l3 l4
 obtain ⟨N, D, p, q, X, Y, W, rfl⟩ := ct_form c
 refine ACalls.of_WA ttok Tryz.func69 rfl rfl _ rfl ?_
 conv => whnf
 repeat' (first | refine sq ?_ | refine bk ?_ | ((first | refine rg ttok ?_ | refine dw ttok mixed ?_ | refine cd ?_ | refine sk ?_ | refine xt ?_ | refine rt ?_); conv => whnf) | (refine And.intro (fun h => ?_) (fun h => ?_) <;> (try simp only [brsA] at h) <;> conv => whnf) | (refine Or.inl ?_; (conv => whnf); (first | refine ⟨_, c1, ?_⟩ | refine ⟨_, c2, ?_⟩); conv => whnf) | ((first | refine wf ?_ | refine wp' ?_ | refine ai ?_ | refine And.intro rfl ?_ | refine an ?_ | fail); conv => whnf))
 all_goals first | contradiction | (exfalso; omega) | skip
set_option maxRecDepth 100000 in
set_option maxHeartbeats 1000000 in
theorem rMade_c (s : Sg) (n d : Int) (hL : LineS s) (hd : d ≤ 9223372036854775807) : ACalls Tryz.prog G 34 [.agg (sgA s), .int .i64 n, .int .i64 d] (.agg (eCu (mkC s n d))) := by
 have c1 := rcLow_c (G := G) n d hd
 obtain ⟨l1, l2, l3, l4⟩ := low_ok n d hd
 have c2 := rOf_ok (G := G) s (lowN n d) (lowD n d) ⟨hL, l3, l1, l2⟩ l4
 unfold eCu
 rw [mkC_val hd]
 obtain ⟨c, e1, e2, e3, e4⟩ := mkT_form s n d
 rw [e1]
 rw [e2] at c2
 rw [← e3, ← e4] at c1 c2
 clear e1 e2 e3 e4 l1 l2 l3 l4
 obtain ⟨N, D, p, q, X, Y, W, rfl⟩ := ct_form c
 refine ACalls.of_WA ttok Tryz.func34 rfl rfl _ rfl ?_
 conv => whnf
 repeat' (first | refine sq ?_ | refine bk ?_ | ((first | refine rg ttok ?_ | refine dw ttok mixed ?_ | refine cd ?_ | refine sk ?_ | refine xt ?_ | refine rt ?_); conv => whnf) | (refine And.intro (fun h => ?_) (fun h => ?_) <;> (try simp only [brsA] at h) <;> conv => whnf) | (refine Or.inl ?_; (conv => whnf); (first | refine ⟨_, c1, ?_⟩ | refine ⟨_, c2, ?_⟩); conv => whnf) | ((first | refine wf ?_ | refine wp' ?_ | refine ai ?_ | refine And.intro rfl ?_ | refine an ?_ | fail); conv => whnf))
 all_goals first | contradiction | (exfalso; omega) | skip
/-! ### Points as cuts -/
def atC (s : Sg) (p : Pt) : Cu := mkC s (dotF s.a s.b p) (dotF s.a s.b s.b)
theorem far_c (a b : Pt) : ACalls Tryz.prog G 71 [.agg (ptA a), .agg (ptA b)] (.int .i64 (dotF a b b)) := by
 have h := pdot_c (G := G) a b b
 refine ACalls.of_WA ttok Tryz.func71 rfl rfl _ rfl ?_
 conv => whnf
 repeat' (first | refine sq ?_ | refine bk ?_ | ((first | refine rg ttok ?_ | refine dw ttok mixed ?_ | refine cd ?_ | refine sk ?_ | refine xt ?_ | refine rt ?_); conv => whnf) | (refine And.intro (fun h => ?_) (fun h => ?_) <;> (try simp only [brsA] at h) <;> conv => whnf) | (refine Or.inl ?_; (conv => whnf); refine ⟨_, h, ?_⟩; conv => whnf) | ((first | refine wf ?_ | refine wp' ?_ | refine ai ?_ | refine And.intro rfl ?_ | refine an ?_ | fail); conv => whnf))
theorem dotF_max (a b c : Pt) : dotF a b c ≤ 9223372036854775807 := by
 unfold dotF
 split
 ·rename_i h
  have := (crs_bd h).2.2.2.1
  omega
 ·omega
def ct0 : Ct := ⟨0, 0, false, false, default, default, default⟩
set_option maxRecDepth 100000 in
set_option maxHeartbeats 1000000 in
theorem cAt_c (s : Sg) (p : Pt) : ACalls Tryz.prog G 24 [.agg (sgA s), .agg (ptA p)] (if OnP s p then .tup [.agg (eCu (atC s p)), .int .i64 0] else .tup [.agg (ctL ct0), .int .i64 1]) := by
 have h0 := on_c (G := G) s p
 have h1 := pdot_c (G := G) s.a s.b p
 have h2 := far_c (G := G) s.a s.b
 by_cases hO : OnP s p
 ·rw [if_pos hO]
  rw [decide_eq_true hO] at h0
  have h3 := cmade_c (G := G) s (dotF s.a s.b p) (dotF s.a s.b s.b) hO.1 (dotF_max _ _ _)
  unfold atC eCu at *
  generalize (mkC s (dotF s.a s.b p) (dotF s.a s.b s.b)).1 = c at *
  generalize dotF s.a s.b p = D1 at *
  generalize dotF s.a s.b s.b = D2 at *
  refine ACalls.of_WA ttok Tryz.func24 rfl rfl _ rfl ?_
  conv => whnf
  repeat' (first | refine sq ?_ | refine bk ?_ | ((first | refine rg ttok ?_ | refine dw ttok mixed ?_ | refine cd ?_ | refine sk ?_ | refine xt ?_ | refine rt ?_); conv => whnf) | (refine And.intro (fun h => ?_) (fun h => ?_) <;> (try simp only [brsA] at h) <;> conv => whnf) | (refine Or.inl ?_; (conv => whnf); (first | refine ⟨_, h0, ?_⟩ | refine ⟨_, h1, ?_⟩ | refine ⟨_, h2, ?_⟩ | refine ⟨_, h3, ?_⟩); conv => whnf) | ((first | refine wf ?_ | refine wp' ?_ | refine ai ?_ | refine And.intro rfl ?_ | refine an ?_ | fail); conv => whnf))
  all_goals first | contradiction | (exfalso; omega) | skip
 ·rw [if_neg hO]
  rw [decide_eq_false hO] at h0
  refine ACalls.of_WA ttok Tryz.func24 rfl rfl _ rfl ?_
  conv => whnf
  repeat' (first | refine sq ?_ | refine bk ?_ | ((first | refine rg ttok ?_ | refine dw ttok mixed ?_ | refine cd ?_ | refine sk ?_ | refine xt ?_ | refine rt ?_); conv => whnf) | (refine And.intro (fun h => ?_) (fun h => ?_) <;> (try simp only [brsA] at h) <;> conv => whnf) | (refine Or.inl ?_; (conv => whnf); refine ⟨_, h0, ?_⟩; conv => whnf) | ((first | refine wf ?_ | refine wp' ?_ | refine ai ?_ | refine And.intro rfl ?_ | refine an ?_ | fail); conv => whnf))
  all_goals first | contradiction | (exfalso; omega) | rfl | skip
set_option maxRecDepth 100000 in
set_option maxHeartbeats 1000000 in
theorem rcAt_c (s : Sg) (p : Pt) (hL : LineS s) : ACalls Tryz.prog G 29 [.agg (sgA s), .agg (ptA p)] (.agg (eCu (atC s p))) := by
 have h1 := rdot_c (G := G) s.a s.b p
 have h2 := rdot_c (G := G) s.a s.b s.b
 have h3 := rMade_c (G := G) s (dotF s.a s.b p) (dotF s.a s.b s.b) hL (dotF_max _ _ _)
 unfold atC eCu at *
 generalize (mkC s (dotF s.a s.b p) (dotF s.a s.b s.b)).1 = c at *
 generalize dotF s.a s.b p = D1 at *
 generalize dotF s.a s.b s.b = D2 at *
 refine ACalls.of_WA ttok Tryz.func29 rfl rfl _ rfl ?_
 conv => whnf
 repeat' (first | refine sq ?_ | refine bk ?_ | ((first | refine rg ttok ?_ | refine dw ttok mixed ?_ | refine cd ?_ | refine sk ?_ | refine xt ?_ | refine rt ?_); conv => whnf) | (refine And.intro (fun h => ?_) (fun h => ?_) <;> (try simp only [brsA] at h) <;> conv => whnf) | (refine Or.inl ?_; (conv => whnf); (first | refine ⟨_, h1, ?_⟩ | refine ⟨_, h2, ?_⟩ | refine ⟨_, h3, ?_⟩); conv => whnf) | ((first | refine wf ?_ | refine wp' ?_ | refine ai ?_ | refine And.intro rfl ?_ | refine an ?_ | fail); conv => whnf))
 all_goals first | contradiction | (exfalso; omega) | skip
theorem spotA_1 (x y : Int) : spotA x y 1 = .agg [.sb (decide (x < 0)), .int .u64 (wW x.natAbs 0 : Nat), .int .u64 (wW x.natAbs 1 : Nat), .int .u64 (wW x.natAbs 2 : Nat), .int .u64 (wW x.natAbs 3 : Nat), .int .u64 (wW x.natAbs 4 : Nat), .int .u64 (wW x.natAbs 5 : Nat), .int .u64 (wW x.natAbs 6 : Nat), .int .u64 (wW x.natAbs 7 : Nat), .sb (decide (y < 0)), .int .u64 (wW y.natAbs 0 : Nat), .int .u64 (wW y.natAbs 1 : Nat), .int .u64 (wW y.natAbs 2 : Nat), .int .u64 (wW y.natAbs 3 : Nat), .int .u64 (wW y.natAbs 4 : Nat), .int .u64 (wW y.natAbs 5 : Nat), .int .u64 (wW y.natAbs 6 : Nat), .int .u64 (wW y.natAbs 7 : Nat), .int .u64 1, .int .u64 0, .int .u64 0, .int .u64 0, .int .u64 0, .int .u64 0, .int .u64 0, .int .u64 0] := by
 have hl := fun j => wW_low (v := 1) (by omega) j
 unfold spotA spotL
 rw [hl 0, hl 1, hl 2, hl 3, hl 4, hl 5, hl 6, hl 7]
 rfl
set_option maxRecDepth 100000 in
set_option maxHeartbeats 1000000 in
theorem rAt0_c (p : Pt) (h1 : -9223372036854775808 ≤ p.x ∧ p.x ≤ 9223372036854775807) (h2 : -9223372036854775808 ≤ p.y ∧ p.y ≤ 9223372036854775807) : ACalls Tryz.prog G 30 [.agg (ptA p)] (spotA p.x p.y 1) := by
 have o1 := of5_c (G := G) p.x h1.1 h1.2
 have o2 := of5_c (G := G) p.y h2.1 h2.2
 rw [spotA_1]
 unfold intN sgnA ptA at *
 generalize decide (p.x < 0) = p1 at *
 generalize decide (p.y < 0) = p2 at *
 generalize wW p.x.natAbs = V1 at *
 generalize wW p.y.natAbs = V2 at *
 refine ACalls.of_WA ttok Tryz.func30 rfl rfl _ rfl ?_
 conv => whnf
 repeat' (first | refine sq ?_ | refine bk ?_ | ((first | refine rg ttok ?_ | refine dw ttok mixed ?_ | refine cd ?_ | refine sk ?_ | refine xt ?_ | refine rt ?_); conv => whnf) | (refine And.intro (fun h => ?_) (fun h => ?_) <;> (try simp only [brsA] at h) <;> conv => whnf) | (refine Or.inl ?_; (conv => whnf); (first | refine ⟨_, o1, ?_⟩ | refine ⟨_, o2, ?_⟩); conv => whnf) | ((first | refine wf ?_ | refine wp' ?_ | refine ai ?_ | refine And.intro rfl ?_ | refine an ?_ | fail); conv => whnf))
 all_goals first | contradiction | (exfalso; omega) | skip
end Go.Proofs.YtcomiiakkhafpaaGreat
namespace Go.Proofs.YtcomiiakkhafpaaGreat
open Go.Proofs.YtcomiiakkhafpaaGreat.Am
variable [Inhabited DRT]
variable {G : GInv}
/-! ### What one line cuts of another -/
theorem ov_on {s t : Sg} (h : (meetM s t).k = 2) : OnP s (meetM s t).p ∧ OnP s (meetM s t).q ∧ OnP t (meetM s t).p ∧ OnP t (meetM s t).q := by
 have hT : TouchP s t := (meet_touch s t).1 (by omega)
 unfold meetM at *
 rw [if_pos hT] at *
 by_cases hd : rD s t = 0
 ·rw [if_pos hd] at *
  obtain ⟨f, l, hE, hR⟩ := exts hT ((along_iff s t hT).2 hd)
  rw [hR] at h ⊢
  unfold ovM at h ⊢
  by_cases hf : f = l
  ·rw [if_neg (fun q => q hf)] at h; exact absurd (show (1 : Int) = 2 from h) (by decide)
  ·rw [if_pos hf]
   exact ⟨hE.fb.1, hE.lb.1, hE.fb.2, hE.lb.2⟩
 ·rw [if_neg hd] at h
  have := (cross_bd hT hd).2.2.2.2
  omega
theorem meet_kind (s t : Sg) : (meetM s t).k = 0 ∨ (meetM s t).k = 1 ∨ (meetM s t).k = 2 := by
 by_cases hT : TouchP s t
 ·unfold meetM
  rw [if_pos hT]
  by_cases hd : rD s t = 0
  ·rw [if_pos hd]
   obtain ⟨f, l, hE, hR⟩ := exts hT ((along_iff s t hT).2 hd)
   rw [hR]
   unfold ovM
   split
   ·exact .inr (.inr rfl)
   ·exact .inr (.inl rfl)
  ·rw [if_neg hd]; exact .inr (.inl (cross_bd hT hd).2.2.2.2)
 ·exact .inl (Classical.byContradiction fun h => hT ((meet_touch s t).1 h))
def byL (s t : Sg) : List Cu := if (meetM s t).k = 1 then [mkC s (meetM s t).n (meetM s t).d] else if (meetM s t).k = 2 then [atC s (meetM s t).p, atC s (meetM s t).q] else []
def rowU (l : List Cu) : Nat → List A := fun i => eCu (l.getD i default)
def cutsA (l : List Cu) : A := .sl l.length 28 (rowU l)
set_option maxRecDepth 100000 in
set_option maxHeartbeats 1000000 in
theorem cby_c (s t : Sg) : ACalls Tryz.prog G 76 [.agg (sgA s), .agg (sgA t)] (cutsA (byL s t)) := by
 have hm := of_c (G := G) s t
 rcases meet_kind s t with hk | hk | hk
 ·have e : byL s t = [] := by unfold byL; rw [if_neg (by omega), if_neg (by omega)]
  rw [e]
  generalize meetM s t = m at *
  obtain ⟨k, n, mm, d, p, q⟩ := m
  simp only at hk
  subst hk
  refine ACalls.of_WA ttok Tryz.func76 rfl rfl _ rfl ?_
  conv => whnf
  repeat' (first | refine sq ?_ | refine bk ?_ | ((first | refine rg ttok ?_ | refine dw ttok mixed ?_ | refine cd ?_ | refine sk ?_ | refine xt ?_ | refine rt ?_); conv => whnf) | (refine And.intro (fun h => ?_) (fun h => ?_) <;> (try simp only [brsA] at h) <;> conv => whnf) | (refine Or.inl ?_; (conv => whnf); refine ⟨_, hm, ?_⟩; conv => whnf) | ((first | refine wf ?_ | refine wp' ?_ | refine ai ?_ | refine And.intro rfl ?_ | refine an ?_ | fail); conv => whnf))
  all_goals first | contradiction | (exfalso; omega) | rfl | (refine Or.inl fun i hi => ?_; rcases i with _ | _ | _ | _ | i <;> first | rfl | omega)
 ·have e : byL s t = [mkC s (meetM s t).n (meetM s t).d] := by unfold byL; rw [if_pos hk]
  obtain ⟨hT, _, _, _, _, _, hd, _⟩ := same_place s t hk
  have h1 := cmade_c (G := G) s (meetM s t).n (meetM s t).d hT.1 hd
  rw [e]
  generalize mkC s (meetM s t).n (meetM s t).d = c at *
  generalize meetM s t = m at *
  obtain ⟨k, n, mm, d, p, q⟩ := m
  simp only at hk h1
  subst hk
  unfold eCu at h1
  refine ACalls.of_WA ttok Tryz.func76 rfl rfl _ rfl ?_
  conv => whnf
  repeat' (first | refine sq ?_ | refine bk ?_ | ((first | refine rg ttok ?_ | refine dw ttok mixed ?_ | refine cd ?_ | refine sk ?_ | refine xt ?_ | refine rt ?_); conv => whnf) | (refine And.intro (fun h => ?_) (fun h => ?_) <;> (try simp only [brsA] at h) <;> conv => whnf) | (refine Or.inl ?_; (conv => whnf); (first | refine ⟨_, hm, ?_⟩ | refine ⟨_, h1, ?_⟩); conv => whnf) | ((first | refine wf ?_ | refine wp' ?_ | refine ai ?_ | refine And.intro rfl ?_ | refine an ?_ | fail); conv => whnf))
  all_goals first | contradiction | (exfalso; omega) | rfl | (refine Or.inl fun i hi => ?_; rcases i with _ | _ | _ | _ | i <;> first | rfl | omega)
 ·have e : byL s t = [atC s (meetM s t).p, atC s (meetM s t).q] := by unfold byL; rw [if_neg (by omega), if_pos hk]
  obtain ⟨o1, o2, _, _⟩ := ov_on hk
  have h1 := cAt_c (G := G) s (meetM s t).p
  have h2 := cAt_c (G := G) s (meetM s t).q
  rw [if_pos o1] at h1
  rw [if_pos o2] at h2
  rw [e]
  generalize atC s (meetM s t).p = c1 at *
  generalize atC s (meetM s t).q = c2 at *
  generalize meetM s t = m at *
  obtain ⟨k, n, mm, d, p, q⟩ := m
  simp only at hk h1 h2
  subst hk
  unfold eCu at h1 h2
  refine ACalls.of_WA ttok Tryz.func76 rfl rfl _ rfl ?_
  conv => whnf
  repeat' (first | refine sq ?_ | refine bk ?_ | ((first | refine rg ttok ?_ | refine dw ttok mixed ?_ | refine cd ?_ | refine sk ?_ | refine xt ?_ | refine rt ?_); conv => whnf) | (refine And.intro (fun h => ?_) (fun h => ?_) <;> (try simp only [brsA] at h) <;> conv => whnf) | (refine Or.inl ?_; (conv => whnf); (first | refine ⟨_, hm, ?_⟩ | refine ⟨_, h1, ?_⟩ | refine ⟨_, h2, ?_⟩); conv => whnf) | ((first | refine wf ?_ | refine wp' ?_ | refine ai ?_ | refine And.intro rfl ?_ | refine an ?_ | fail); conv => whnf))
  all_goals first | contradiction | (exfalso; omega) | rfl | (refine Or.inl fun i hi => ?_; rcases i with _ | _ | _ | _ | i <;> first | rfl | omega)
end Go.Proofs.YtcomiiakkhafpaaGreat
namespace Go.Proofs.YtcomiiakkhafpaaGreat
open Go.Proofs.YtcomiiakkhafpaaGreat.Am Go.Sort
variable [Inhabited DRT]
variable {G : GInv}
/-! ### The order of cuts -/
def prU (a b : Cu) : Nat := a.1.n.toNat * b.1.d.toNat
def ltU (a b : Cu) : Prop := prU a b < prU b a
instance (a b : Cu) : Decidable (ltU a b) := inferInstanceAs (Decidable (_ < _))
def cfU (a b : Cu) : Int := firstNZ [cmpN (prU a b / 18446744073709551616) (prU b a / 18446744073709551616), cmpN (prU a b % 18446744073709551616) (prU b a % 18446744073709551616)]
theorem two_words (x y : Nat) : firstNZ [cmpN (x / 18446744073709551616) (y / 18446744073709551616), cmpN (x % 18446744073709551616) (y % 18446744073709551616)] < 0 ↔ x < y := by
 unfold cmpN
 simp only [firstNZ]
 repeat' split
 all_goals omega
theorem cfU_lt (a b : Cu) : ltOf cfU a b = true ↔ ltU a b := by
 unfold ltOf ltU cfU
 rw [decide_eq_true_iff]
 exact two_words _ _
theorem cu_pos (a : Cu) : 0 < a.1.d.toNat := by have := a.2; unfold GoodC at this; omega
theorem ltU_trans (a b c : Cu) (h1 : ltU a b) (h2 : ltU b c) : ltU a c := by
 unfold ltU prU at *
 have pa := cu_pos a
 have pb := cu_pos b
 have pc := cu_pos c
 generalize a.1.n.toNat = an at *
 generalize b.1.n.toNat = bn at *
 generalize c.1.n.toNat = cn at *
 generalize a.1.d.toNat = ad at *
 generalize b.1.d.toNat = bd at *
 generalize c.1.d.toNat = cd at *
 have e1 := Nat.mul_lt_mul_of_pos_right h1 pc
 have e2 := Nat.mul_lt_mul_of_pos_right h2 pa
 have k1 : an * cd * bd = an * bd * cd := by grind
 have k2 : cn * ad * bd = cn * bd * ad := by grind
 have k3 : bn * ad * cd = bn * cd * ad := by grind
 refine Nat.lt_of_mul_lt_mul_right (a := bd) ?_
 omega
theorem ltU_ntrans (a b c : Cu) (h1 : ¬ ltU a b) (h2 : ¬ ltU b c) : ¬ ltU a c := by
 unfold ltU prU at *
 have pa := cu_pos a
 have pb := cu_pos b
 have pc := cu_pos c
 generalize a.1.n.toNat = an at *
 generalize b.1.n.toNat = bn at *
 generalize c.1.n.toNat = cn at *
 generalize a.1.d.toNat = ad at *
 generalize b.1.d.toNat = bd at *
 generalize c.1.d.toNat = cd at *
 have e1 := Nat.mul_le_mul_right cd (Nat.le_of_not_lt h1)
 have e2 := Nat.mul_le_mul_right ad (Nat.le_of_not_lt h2)
 have k1 : an * cd * bd = an * bd * cd := by grind
 have k2 : cn * ad * bd = cn * bd * ad := by grind
 have k3 : bn * ad * cd = bn * cd * ad := by grind
 refine Nat.not_lt.2 (Nat.le_of_mul_le_mul_right (c := bd) ?_ pb)
 omega
theorem swo_cu : SWO (ltOf cfU) := by
 have e' : ∀ a b, ltOf cfU a b = false ↔ ¬ ltU a b := fun a b => by rw [← cfU_lt]; simp
 refine ⟨fun x => ?_, fun x y z h1 h2 => ?_, fun x y z h1 h2 => ?_⟩
 ·rw [e']; unfold ltU; omega
 ·rw [cfU_lt] at *; exact ltU_trans x y z h1 h2
 ·rw [e'] at *; exact ltU_ntrans x y z h1 h2
set_option maxRecDepth 100000 in
set_option maxHeartbeats 1000000 in
theorem corder_c (a b : Cu) : ACalls Tryz.prog G 125 [.agg (eCu a), .agg (eCu b)] (.int .i64 (cfU a b)) := by
 obtain ⟨a, ha⟩ := a
 obtain ⟨b, hb⟩ := b
 unfold cfU prU eCu
 simp only
 obtain ⟨n, d, p, q, X, Y, W, rfl⟩ := ct_form a
 obtain ⟨n', d', p', q', X', Y', W', rfl⟩ := ct_form b
 unfold GoodC at ha hb
 simp only at ha hb ⊢
 obtain ⟨N, rfl⟩ : ∃ N : Nat, n = N := ⟨n.toNat, by omega⟩
 obtain ⟨D, rfl⟩ : ∃ D : Nat, d = D := ⟨d.toNat, by omega⟩
 obtain ⟨N', rfl⟩ : ∃ N : Nat, n' = N := ⟨n'.toNat, by omega⟩
 obtain ⟨D', rfl⟩ : ∃ D : Nat, d' = D := ⟨d'.toNat, by omega⟩
 simp only [Int.toNat_natCast]
 have m1 := wmul64_c (G := G) N D' (by omega) (by omega)
 have m2 := wmul64_c (G := G) N' D (by omega) (by omega)
 have m1 : ACalls Tryz.prog G 160 [.int .u64 (IntKind.u64.wrap (N : Int)), .int .u64 (IntKind.u64.wrap (D' : Int))] (.tup [.int .u64 ((N * D' / 18446744073709551616 : Nat) : Int), .int .u64 ((N * D' % 18446744073709551616 : Nat) : Int)]) := by rw [w_wrap N (by omega), w_wrap D' (by omega)]; exact m1
 have m2 : ACalls Tryz.prog G 160 [.int .u64 (IntKind.u64.wrap (N' : Int)), .int .u64 (IntKind.u64.wrap (D : Int))] (.tup [.int .u64 ((N' * D / 18446744073709551616 : Nat) : Int), .int .u64 ((N' * D % 18446744073709551616 : Nat) : Int)]) := by rw [w_wrap N' (by omega), w_wrap D (by omega)]; exact m2
 have k1 := ccmp_c (G := G) (N * D' / 18446744073709551616) (N' * D / 18446744073709551616)
 have k2 := ccmp_c (G := G) (N * D' % 18446744073709551616) (N' * D % 18446744073709551616)
 generalize N * D' / 18446744073709551616 = h1 at *
 generalize N * D' % 18446744073709551616 = l1 at *
 generalize N' * D / 18446744073709551616 = h2 at *
 generalize N' * D % 18446744073709551616 = l2 at *
 have k3 := or_c (G := G) [cmpN h1 h2, cmpN l1 l2] (by simp)
 generalize cmpN h1 h2 = z1 at *
 generalize cmpN l1 l2 = z2 at *
 have k4 : ACalls Tryz.prog G 87 [.sl 2 1 (fun i => takeL 1 (List.drop (i * 1) [.int .i64 z1, .int .i64 z2]))] (.int .i64 (firstNZ [z1, z2])) := k3.fit (by
  conv => whnf
  repeat (first | exact fa | ((first | refine fb ?_ | (refine And.intro ?_ ?_; rotate_left)); conv => whnf))
  all_goals (refine Or.inl fun i hi => ?_; rcases i with _ | _ | _ | _ | i <;> first | rfl | omega))
 generalize firstNZ [z1, z2] = z at *
 refine ACalls.of_WA ttok Tryz.func125 rfl rfl _ rfl ?_
 conv => whnf
 repeat' (first | refine sq ?_ | refine bk ?_ | ((first | refine rg ttok ?_ | refine dw ttok mixed ?_ | refine cd ?_ | refine sk ?_ | refine xt ?_ | refine rt ?_); conv => whnf) | (refine And.intro (fun h => ?_) (fun h => ?_) <;> (try simp only [brsA] at h) <;> conv => whnf) | (refine Or.inl ?_; (conv => whnf); (first | refine ⟨_, m1, ?_⟩ | refine ⟨_, m2, ?_⟩ | refine ⟨_, k1, ?_⟩ | refine ⟨_, k2, ?_⟩ | refine ⟨_, k4, ?_⟩); conv => whnf) | ((first | refine wf ?_ | refine wp' ?_ | refine ai ?_ | refine And.intro rfl ?_ | refine an ?_ | fail); conv => whnf))
 all_goals first | contradiction | (exfalso; omega) | rfl | skip
end Go.Proofs.YtcomiiakkhafpaaGreat
namespace Go.Proofs.YtcomiiakkhafpaaGreat
open Go.Proofs.YtcomiiakkhafpaaGreat.Am Go.Sort Go.Proofs Go.Lib
variable [Inhabited DRT]
variable {G : GInv}
/-! ### Cuts in order, each once: slices.SortFunc and slices.Compact at cuts -/
def shC : List Nat := [5, 5, 6, 5, 5, 5, 5, 5, 5, 5, 5, 6, 5, 5, 5, 5, 5, 5, 5, 5, 5, 5, 5, 5, 5, 5, 5, 5]
theorem shC_ok : eqShape Tryz.prog 6 58 = some shC := by kernel_rfl
theorem ct_eqb (x y : Ct) : (x.n == y.n && (x.d == y.d && (x.p == y.p && (((x.X.a : Nat) : Int) == ((y.X.a : Nat) : Int) && (((x.X.b : Nat) : Int) == ((y.X.b : Nat) : Int) && (((x.X.c : Nat) : Int) == ((y.X.c : Nat) : Int) && (((x.X.d : Nat) : Int) == ((y.X.d : Nat) : Int) && (((x.X.e : Nat) : Int) == ((y.X.e : Nat) : Int) && (((x.X.f : Nat) : Int) == ((y.X.f : Nat) : Int) && (((x.X.g : Nat) : Int) == ((y.X.g : Nat) : Int) && (((x.X.h : Nat) : Int) == ((y.X.h : Nat) : Int) && (x.q == y.q && (((x.Y.a : Nat) : Int) == ((y.Y.a : Nat) : Int) && (((x.Y.b : Nat) : Int) == ((y.Y.b : Nat) : Int) && (((x.Y.c : Nat) : Int) == ((y.Y.c : Nat) : Int) && (((x.Y.d : Nat) : Int) == ((y.Y.d : Nat) : Int) && (((x.Y.e : Nat) : Int) == ((y.Y.e : Nat) : Int) && (((x.Y.f : Nat) : Int) == ((y.Y.f : Nat) : Int) && (((x.Y.g : Nat) : Int) == ((y.Y.g : Nat) : Int) && (((x.Y.h : Nat) : Int) == ((y.Y.h : Nat) : Int) && (((x.W.a : Nat) : Int) == ((y.W.a : Nat) : Int) && (((x.W.b : Nat) : Int) == ((y.W.b : Nat) : Int) && (((x.W.c : Nat) : Int) == ((y.W.c : Nat) : Int) && (((x.W.d : Nat) : Int) == ((y.W.d : Nat) : Int) && (((x.W.e : Nat) : Int) == ((y.W.e : Nat) : Int) && (((x.W.f : Nat) : Int) == ((y.W.f : Nat) : Int) && (((x.W.g : Nat) : Int) == ((y.W.g : Nat) : Int) && (((x.W.h : Nat) : Int) == ((y.W.h : Nat) : Int) && true)))))))))))))))))))))))))))) = decide (x = y) := by
 obtain ⟨n, d, p, q, ⟨a1, a2, a3, a4, a5, a6, a7, a8⟩, ⟨b1, b2, b3, b4, b5, b6, b7, b8⟩, ⟨c1, c2, c3, c4, c5, c6, c7, c8⟩⟩ := x
 obtain ⟨n', d', p', q', ⟨a1', a2', a3', a4', a5', a6', a7', a8'⟩, ⟨b1', b2', b3', b4', b5', b6', b7', b8'⟩, ⟨c1', c2', c3', c4', c5', c6', c7', c8'⟩⟩ := y
 rw [Bool.eq_iff_iff]
 simp only [Bool.and_eq_true, beq_iff_eq, decide_eq_true_iff, Ct.mk.injEq, W8.mk.injEq, Int.natCast_inj, and_true, and_assoc]
 constructor
 ·rintro ⟨h1, h2, h3, g1, g2, g3, g4, g5, g6, g7, g8, h4, k1, k2, k3, k4, k5, k6, k7, k8, l1, l2, l3, l4, l5, l6, l7, l8⟩
  exact ⟨h1, h2, h3, h4, g1, g2, g3, g4, g5, g6, g7, g8, k1, k2, k3, k4, k5, k6, k7, k8, l1, l2, l3, l4, l5, l6, l7, l8⟩
 ·rintro ⟨h1, h2, h3, h4, g1, g2, g3, g4, g5, g6, g7, g8, k1, k2, k3, k4, k5, k6, k7, k8, l1, l2, l3, l4, l5, l6, l7, l8⟩
  exact ⟨h1, h2, h3, g1, g2, g3, g4, g5, g6, g7, g8, h4, k1, k2, k3, k4, k5, k6, k7, k8, l1, l2, l3, l4, l5, l6, l7, l8⟩
theorem ct_okL (x y : Ct) : okL shC (encF ctL x) (encF ctL y) (decide (x = y)) := by
 rw [← ct_eqb]
 refine 
  ⟨_, _, .inl ⟨rfl, _, _, _, rfl, rfl, rfl⟩, ⟨_, _, .inl ⟨rfl, _, _, _, rfl, rfl, rfl⟩, ⟨_, _, .inr (.inl ⟨rfl, _, _, rfl, rfl, rfl⟩), ⟨_, _, .inl ⟨rfl, _, _, _, rfl, rfl, rfl⟩, ⟨_, _, .inl ⟨rfl, _, _, _, rfl, rfl, rfl⟩, ⟨_, _, .inl ⟨rfl, _, _, _, rfl, rfl, rfl⟩, ⟨_, _, .inl ⟨rfl, _, _, _, rfl, rfl, rfl⟩, ⟨_, _, .inl ⟨rfl, _, _, _, rfl, rfl, rfl⟩, ⟨_, _, .inl ⟨rfl, _, _, _, rfl, rfl, rfl⟩, ⟨_, _, .inl ⟨rfl, _, _, _, rfl, rfl, rfl⟩, ⟨_, _, .inl ⟨rfl, _, _, _, rfl, rfl, rfl⟩, ⟨_, _, .inr (.inl ⟨rfl, _, _, rfl, rfl, rfl⟩), ⟨_, _, .inl ⟨rfl, _, _, _, rfl, rfl, rfl⟩, ⟨_, _, .inl ⟨rfl, _, _, _, rfl, rfl, rfl⟩, ⟨_, _, .inl ⟨rfl, _, _, _, rfl, rfl, rfl⟩, ⟨_, _, .inl ⟨rfl, _, _, _, rfl, rfl, rfl⟩, ⟨_, _, .inl ⟨rfl, _, _, _, rfl, rfl, rfl⟩, ⟨_, _, .inl ⟨rfl, _, _, _, rfl, rfl, rfl⟩, ⟨_, _, .inl ⟨rfl, _, _, _, rfl, rfl, rfl⟩, ⟨_, _, .inl ⟨rfl, _, _, _, rfl, rfl, rfl⟩, ⟨_, _, .inl ⟨rfl, _, _, _, rfl, rfl, rfl⟩, ⟨_, _, .inl ⟨rfl, _, _, _, rfl, rfl, rfl⟩, ⟨_, _, .inl ⟨rfl, _, _, _, rfl, rfl, rfl⟩, ⟨_, _, .inl ⟨rfl, _, _, _, rfl, rfl, rfl⟩, ⟨_, _, .inl ⟨rfl, _, _, _, rfl, rfl, rfl⟩, ⟨_, _, .inl ⟨rfl, _, _, _, rfl, rfl, rfl⟩, ⟨_, _, .inl ⟨rfl, _, _, _, rfl, rfl, rfl⟩, ⟨_, _, .inl ⟨rfl, _, _, _, rfl, rfl, rfl⟩, rfl, rfl⟩, rfl⟩, rfl⟩, rfl⟩, rfl⟩, rfl⟩, rfl⟩, rfl⟩, rfl⟩, rfl⟩, rfl⟩, rfl⟩, rfl⟩, rfl⟩, rfl⟩, rfl⟩, rfl⟩, rfl⟩, rfl⟩, rfl⟩, rfl⟩, rfl⟩, rfl⟩, rfl⟩, rfl⟩, rfl⟩, rfl⟩, rfl⟩
theorem ct_row (l : List Value) : mkV Tryz.prog 58 l = .agg l.toArray := by
 have h : Tryz.prog.underlying 58 = _ := Tryz.underlying58
 unfold mkV
 rw [h]
theorem cut_runs (x y : Ct) (w : World) (op : BinOp) (X Y : Operand) : (eqGuard op 58 X Y (.agg (encF ctL x).toArray) (.agg (encF ctL y).toArray)).run Tryz.prog w = .ok () w ∧
  (binOp .eql 58 (.agg (encF ctL x).toArray) (.agg (encF ctL y).toArray)).run Tryz.prog w = .ok (.bool (decide (x = y))) w ∧
  (binOp .neq 58 (.agg (encF ctL x).toArray) (.agg (encF ctL y).toArray)).run Tryz.prog w = .ok (.bool (!decide (x = y))) w := by
 have hdep : 6 ≤ Tryz.prog.depth := by unfold Program.depth Made.depth; omega
 have e2 : (Op.equalIn 10000 58 (.agg (encF ctL x).toArray) (.agg (encF ctL y).toArray)).run Tryz.prog w = .ok (decide (x = y)) w := by
  have := eqShape_run (P := Tryz.prog) (w := w) 6 58 shC _ _ _ (10000 - 6) shC_ok (ct_okL x y)
  rw [ct_row, ct_row] at this
  exact this
 have hg : Tryz.prog.eqGuardType Tryz.prog.depth 58 = false := by
  have := eqShape_guard (P := Tryz.prog) 6 58 shC (Tryz.prog.depth - 6) shC_ok
  rwa [show 6 + (Tryz.prog.depth - 6) = Tryz.prog.depth by omega] at this
 refine ⟨?_, ?_, ?_⟩
 ·unfold eqGuard
  cases op <;> simp [hg]
 ·rw [run_eql_struct]; simp [e2]
 ·rw [run_neq_struct]; simp [e2]
theorem zeros_list (z : Array Value) : ∀ n, (Builtin.zeroCells z n).toList = (List.replicate n z.toList).flatten
 | 0 => by simp [Builtin.zeroCells]
 | n + 1 => by
  have ih := zeros_list z n
  rw [List.replicate_succ', List.flatten_append, ← ih]
  unfold Builtin.zeroCells
  simp only [Array.toList_map, Array.toList_range]
  rw [Nat.add_mul, Nat.one_mul, List.range_add, List.map_append, List.map_map]
  congr 1
  simp only [List.flatten_cons, List.flatten_nil, List.append_nil]
  apply List.ext_getElem
  ·simp
  ·intro j h1 h2
   simp only [List.length_map, List.length_range] at h1
   simp only [List.getElem_map, List.getElem_range, Function.comp]
   rw [Nat.mul_comm, Nat.mul_add_mod, Nat.mod_eq_of_lt h1]
   simp [getElem!_pos z j h1]
theorem ct_flat (x : Ct) : ∀ a ∈ ctL x, flatA a := by
 simp [ctL, flatA]
theorem sortCu_c (hns : ¬ (default : DRT).ns) (l : List Cu) (hl : l.length ≤ 1000000) (h0 : 0 < l.length) :
  MCalls Tryz.prog G 124 [.own 1, .fn 125 []] [.ghost [.own 1, .junk, .junk], .row 58 28 l.length (rowF eCu l)] (.tup []) [.ghost [.own 1, .junk, .junk], .row 58 28 l.length (rowF eCu (srt cfU l))] :=
 MCalls.sortFuncF hns (ρ := Tryz.laySortCut_ren) Tryz.laySortCut 28 (by omega) (fun w => by kernel_rfl) (fun w => by kernel_rfl) eCu (fun x => ct_flat x.1) (fun _ => rfl) cfU swo_cu 125 [] rfl
  (fun x y => corder_c (G := G) x y) ⟨_, _, Tryz.func124, rfl, rfl⟩ 58 l hl h0
theorem compact_c (l : List Ct) (hl : l.length ≤ 1000000) (h0 : 0 < l.length) :
  MCalls Tryz.prog G 126 [.own 1] [.ghost [.own 1, .junk], .row 58 28 l.length (rowF ctL l)] (.own 1) [.ghost [.junk, .junk], .row 58 28 (cmpL l).length (rowF ctL (cmpL l))] :=
 MCalls.compactF (ρ := Tryz.layComp_ren) Tryz.layComp 28 (by omega) (fun w => by kernel_rfl) (fun w => by kernel_rfl) ctL ct_flat (fun _ => rfl)
  (fun x y w => (cut_runs x y w .eql default default).2.1) (fun x y w => (cut_runs x y w .eql default default).2.2) (fun op a b x y w => (cut_runs x y w op a b).1)
  ct0 _ Tryz.zeroValue58 (fun n => by rw [zeros_list, List.flatMap_def, List.map_replicate]; rfl)
  ⟨_, _, Tryz.func126, rfl, rfl⟩ 58 l hl h0
theorem compact_map (l : List Cu) : ∀ m, m ≤ l.length → compactUpTo (l.map (·.1)).toArray m = (compactUpTo l.toArray m).map (·.1)
 | 0, _ => by simp [compactUpTo]
 | m + 1, h => by
  rw [compactUpTo_succ, compactUpTo_succ, List.map_append, compact_map l m (by omega)]
  congr 1
  have g : ∀ i, i < l.length → (l.map (·.1)).toArray[i]! = (l.toArray[i]!).1 := fun i hi => by
   rw [getElem!_pos _ _ (by simpa using hi), getElem!_pos _ _ (by simpa using hi)]; simp
  have hk : keeps (l.map (·.1)).toArray m = keeps l.toArray m := by
   unfold keeps
   rw [decide_eq_decide, g m (by omega), g (m - 1) (by omega)]
   constructor
   ·rintro (h | h)
    ·exact .inl h
    ·exact .inr fun e => h (congrArg Subtype.val e)
   ·rintro (h | h)
    ·exact .inl h
    ·exact .inr fun e => h (Subtype.ext e)
  rw [hk]
  split
  ·rw [g m (by omega)]; rfl
  ·rfl
def srtU (l : List Cu) : List Cu := cmpL (srt cfU l)
theorem row_map (l : List Cu) (i : Nat) (h : i < l.length) : rowF ctL (l.map (·.1)) i = rowF eCu l i := by
 unfold rowF eCu
 simp [List.getD_eq_getElem?_getD, h]
theorem cmp_map (l : List Cu) : cmpL (l.map (·.1)) = (cmpL l).map (·.1) := by
 unfold cmpL
 rw [List.length_map, compact_map l l.length (Nat.le_refl _)]
set_option maxRecDepth 100000 in
set_option maxHeartbeats 1000000 in
theorem csorted_c (hns : ¬ (default : DRT).ns) (l : List Cu) (hl : l.length ≤ 1000000) (h0 : 0 < l.length) :
  MCalls Tryz.prog G 77 [.own 1] [.ghost [.own 1, .junk], .row 58 28 l.length (rowU l)] (.own 1) [.ghost [.junk, .junk], .row 58 28 (srtU l).length (rowU (srtU l))] := by
 have h1 := sortCu_c (G := G) hns l hl h0
 have hlen := srt_len cfU swo_cu l
 have h2 := compact_c (G := G) ((srt cfU l).map (·.1)) (by simpa [hlen] using hl) (by simpa [hlen] using h0)
 rw [cmp_map] at h2
 have e1 := row_map (srt cfU l)
 have e2 := row_map (cmpL (srt cfU l))
 rw [List.length_map, List.length_map, hlen] at h2
 rw [hlen] at e1
 have h3 : MCalls Tryz.prog G 126 [.own 1] [.ghost [.own 1, .junk], .row 58 28 l.length (rowF eCu (srt cfU l))] (.own 1) [.ghost [.junk, .junk], .row 58 28 (cmpL (srt cfU l)).length (rowF ctL ((cmpL (srt cfU l)).map (·.1)))] := by
  refine MCalls.fit h2 rfl ?_
  show andL _
  conv => whnf
  repeat (first | exact fa | ((first | refine fb ?_ | (refine And.intro ?_ ?_; rotate_left)); conv => whnf))
  all_goals first | exact Or.inl fun i hi => (e1 i hi).symm | trace_state
 unfold srtU
 generalize rowF ctL ((cmpL (srt cfU l)).map (·.1)) = r3 at *
 generalize cmpL (srt cfU l) = L2 at *
 refine MCalls.of_WA ttok Tryz.func77 rfl rfl _ rfl ?_
 conv => whnf
 repeat' (first | refine sq ?_ | refine bk ?_ | ((first | refine rg ttok ?_ | refine dw ttok mixed ?_ | refine cd ?_ | refine sk ?_ | refine xt ?_ | refine rt ?_); conv => whnf) | (refine And.intro (fun h => ?_) (fun h => ?_) <;> (try simp only [brsA] at h) <;> conv => whnf) | (refine Or.inr (Or.inl ?_); (conv => whnf); (first | refine ⟨_, _, h1, ?_⟩ | refine ⟨_, _, h3, ?_⟩); conv => whnf) | ((first | refine wf ?_ | refine wp' ?_ | refine ai ?_ | refine And.intro rfl ?_ | refine an ?_ | fail); conv => whnf))
 all_goals first | contradiction | exact Or.inl e2 | trace_state
end Go.Proofs.YtcomiiakkhafpaaGreat
namespace Go.Proofs.YtcomiiakkhafpaaGreat
open Go.Proofs.YtcomiiakkhafpaaGreat.Am Go.Sort Go.Proofs
variable [Inhabited DRT]
variable {G : GInv}
/-! ### A line's cuts by others -/
def endsL' (s : Sg) : List Cu := [mkC s 0 1, mkC s 1 1]
theorem rowCat_u (L M : List Cu) (r : Nat → List A) (hr : ∀ i, i < M.length → r i = rowU M i) (i : Nat) (hi : i < L.length + M.length) : rowCat L.length (rowU L) r i = rowU (L ++ M) i := by
 unfold rowCat
 split
 ·rename_i h
  have h : i < L.length := Nat.le_of_ble_eq_true h
  simp only [rowU, List.getD_eq_getElem?_getD, List.getElem?_append_left h]
 ·rename_i h
  have h : ¬ i < L.length := fun h' => by rw [show Nat.blt i L.length = true from Nat.ble_eq_true_of_le h'] at h; cases h
  rw [hr (i - L.length) (by omega)]
  simp only [rowU, List.getD_eq_getElem?_getD, List.getElem?_append_right (show L.length ≤ i by omega)]
set_option maxRecDepth 100000 in
set_option maxHeartbeats 1000000 in
theorem cends_c (s : Sg) (hL : LineS s) : MCalls Tryz.prog G 75 [.agg (sgA s)] [] (.own 0) [.row 58 28 2 (rowU (endsL' s))] := by
 have h1 := cmade_c (G := G) s 0 1 hL (by omega)
 have h2 := cmade_c (G := G) s 1 1 hL (by omega)
 unfold endsL'
 generalize mkC s 0 1 = c1 at *
 generalize mkC s 1 1 = c2 at *
 unfold eCu at h1 h2
 refine MCalls.of_WA ttok Tryz.func75 rfl rfl _ rfl ?_
 conv => whnf
 repeat' (first | refine sq ?_ | refine bk ?_ | ((first | refine rg ttok ?_ | refine dw ttok mixed ?_ | refine cd ?_ | refine sk ?_ | refine xt ?_ | refine rt ?_); conv => whnf) | (refine And.intro (fun h => ?_) (fun h => ?_) <;> (try simp only [brsA] at h) <;> conv => whnf) | (refine Or.inl ?_; (conv => whnf); (first | refine ⟨_, h1, ?_⟩ | refine ⟨_, h2, ?_⟩); conv => whnf) | ((first | refine wf ?_ | refine wp' ?_ | refine ai ?_ | refine And.intro rfl ?_ | refine an ?_ | fail); conv => whnf))
 all_goals (refine Or.inl fun i hi => ?_; rcases i with _ | _ | _ | _ | i <;> first | rfl | omega)
theorem byL_len (s t : Sg) : (byL s t).length ≤ 2 := by unfold byL; split <;> (try split) <;> simp
def oneK (s : Sg) (l : List Sg) : Nat → List Cu
 | 0 => endsL' s
 | k + 1 => oneK s l k ++ byL s (l.getD k default)
theorem oneK_len (s : Sg) (l : List Sg) : ∀ k, 2 ≤ (oneK s l k).length ∧ (oneK s l k).length ≤ 2 + 2 * k
 | 0 => ⟨Nat.le_refl _, Nat.le_refl _⟩
 | k + 1 => by
  have h1 := oneK_len s l k
  have h2 := byL_len s (l.getD k default)
  rw [oneK, List.length_append]; omega
set_option maxRecDepth 100000 in
set_option maxHeartbeats 1000000 in
theorem one_bad1 (s : Sg) (l : List Sg) (hL : ¬ LineS s) : ACalls Tryz.prog G 37 [.agg (sgA s), sgsA l] (.tup [.nils, .int .i64 1]) := by
 have h1 := pline_c (G := G) s
 rw [decide_eq_false hL] at h1
 refine ACalls.of_WA ttok Tryz.func37 rfl rfl _ rfl ?_
 conv => whnf
 repeat' (first | refine sq ?_ | refine bk ?_ | ((first | refine rg ttok ?_ | refine dw ttok mixed ?_ | refine cd ?_ | refine sk ?_ | refine xt ?_ | refine rt ?_); conv => whnf) | (refine And.intro (fun h => ?_) (fun h => ?_) <;> (try simp only [brsA] at h) <;> conv => whnf) | (refine Or.inl ?_; (conv => whnf); refine ⟨_, h1, ?_⟩; conv => whnf) | ((first | refine wf ?_ | refine wp' ?_ | refine ai ?_ | refine And.intro rfl ?_ | refine an ?_ | fail); conv => whnf))
 all_goals first | contradiction | (exfalso; omega) | skip
set_option maxRecDepth 100000 in
set_option maxHeartbeats 1000000 in
theorem one_bad2 (s : Sg) (l : List Sg) (hL : LineS s) (hk : chk l ≠ 0) : ACalls Tryz.prog G 37 [.agg (sgA s), sgsA l] (.tup [.nils, .int .i64 (chk l)]) := by
 have h1 := pline_c (G := G) s
 rw [decide_eq_true hL] at h1
 have h2 := pairs_bad (G := G) l hk
 refine ACalls.of_WA ttok Tryz.func37 rfl rfl _ rfl ?_
 conv => whnf
 repeat' (first | refine sq ?_ | refine bk ?_ | ((first | refine rg ttok ?_ | refine dw ttok mixed ?_ | refine cd ?_ | refine sk ?_ | refine xt ?_ | refine rt ?_); conv => whnf) | (refine And.intro (fun h => ?_) (fun h => ?_) <;> (try simp only [brsA] at h) <;> conv => whnf) | (refine Or.inl ?_; (conv => whnf); (first | refine ⟨_, h1, ?_⟩ | refine ⟨_, h2, ?_⟩); conv => whnf) | ((first | refine wf ?_ | refine wp' ?_ | refine ai ?_ | refine And.intro rfl ?_ | refine an ?_ | fail); conv => whnf))
 all_goals first | contradiction | (exfalso; omega) | skip
set_option maxRecDepth 100000 in
set_option maxHeartbeats 2000000 in
theorem cone_c (hns : ¬ (default : DRT).ns) (s : Sg) (l : List Sg) (hL : LineS s) (hk : chk l = 0) : ACalls Tryz.prog G 37 [.agg (sgA s), sgsA l] (.tup [cutsA (srtU (oneK s l l.length)), .int .i64 0]) := by
 have h1 := pline_c (G := G) s
 rw [decide_eq_true hL] at h1
 have h2 := pairs_all (G := G) hns l hk
 have h3 := cends_c (G := G) s hL
 have hlen := (chk_ok hk).1
 refine ACalls.of_WA ttok Tryz.func37 rfl rfl _ rfl ?_
 conv => whnf
 repeat' (first | (contradiction) | refine sq ?_ | refine bk ?_ | ((first | refine rg ttok ?_ | refine dw ttok mixed ?_ | refine cd ?_ | refine sk ?_ | refine xt ?_ | refine rt ?_); conv => whnf) | (refine And.intro (fun h => ?_) (fun h => ?_) <;> (try simp only [brsA] at h) <;> conv => whnf) | (refine Or.inl ?_; (conv => whnf); (first | refine ⟨_, h1, ?_⟩ | refine ⟨_, h2, ?_⟩); conv => whnf) | ((first | refine Or.inr (Or.inr (Or.inr ?_)) | refine Or.inr ?_); (conv => whnf); refine ⟨_, _, h3, ?_⟩; conv => whnf) | ((first | refine wf ?_ | refine wp' ?_ | refine ai ?_ | refine And.intro rfl ?_ | refine an ?_ | fail); conv => whnf))
 all_goals first | contradiction | (exfalso; omega) | skip
 refine WA_loopI (fun k : Nat => k ≤ l.length) (fun k => [(26, .int .i64 (k : Int)), (8, .own 1), (23, .junk)]) (fun k => [.box 45 (sgA s), .row 58 28 (oneK s l k).length (rowU (oneK s l k))]) (fun k => l.length - k) 0 (Nat.zero_le _) ?_ ?_
 ·conv => whnf
  repeat (first | exact fa | ((first | refine fb ?_ | (refine And.intro ?_ ?_; rotate_left)); conv => whnf))
 ·intro k hkl
  have hb := cby_c (G := G) s (l.getD k default)
  have ho := oneK_len s l k
  have hbl := byL_len s (l.getD k default)
  conv => whnf
  repeat' (first | refine sq ?_ | refine bk ?_ | ((first | refine rg ttok ?_ | refine dw ttok mixed ?_ | refine cd ?_ | refine sk ?_ | refine xt ?_ | refine rt ?_); conv => whnf) | (refine And.intro (fun h => ?_) (fun h => ?_) <;> (try simp only [brsA] at h) <;> conv => whnf) | (refine Or.inl ?_; (conv => whnf); refine ⟨_, hb, ?_⟩; conv => whnf) | ((first | refine wf ?_ | refine wp' ?_ | refine ai ?_ | refine And.intro rfl ?_ | refine an ?_ | fail); conv => whnf))
  ·refine ⟨k + 1, (by show k + 1 ≤ l.length; omega), (by show l.length - (k + 1) < l.length - k; omega), ?_⟩
   conv => whnf
   repeat (first | exact fa | ((first | refine fb ?_ | (refine And.intro ?_ ?_; rotate_left)); conv => whnf))
   ·exact Or.inl fun i hi => rowCat_u _ _ _ (fun _ _ => rfl) i hi
   ·rw [oneK, List.length_append]
  ·have e : k = l.length := by omega
   subst e
   have hs := csorted_c (G := G) hns (oneK s l l.length) (by omega) (by omega)
   repeat' (first | refine sq ?_ | refine bk ?_ | ((first | refine rg ttok ?_ | refine dw ttok mixed ?_ | refine cd ?_ | refine sk ?_ | refine xt ?_ | refine rt ?_); conv => whnf) | (refine And.intro (fun h => ?_) (fun h => ?_) <;> (try simp only [brsA] at h) <;> conv => whnf) | (refine Or.inr (Or.inl ?_); (conv => whnf); refine ⟨_, _, hs, ?_⟩; conv => whnf) | ((first | refine wf ?_ | refine wp' ?_ | refine ai ?_ | refine And.intro rfl ?_ | refine an ?_ | fail); conv => whnf))
   exact ⟨Or.inl fun _ _ => rfl, rfl⟩
end Go.Proofs.YtcomiiakkhafpaaGreat

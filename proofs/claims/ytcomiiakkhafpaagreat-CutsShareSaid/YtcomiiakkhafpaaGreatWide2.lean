/-
  Numbers of eight words: comparison, bits, shifts.
-/
import Derived.Test.YtcomiiakkhafpaaGreatWide1
set_option linter.unusedSimpArgs false
set_option linter.unusedSectionVars false
namespace Go.Proofs.YtcomiiakkhafpaaGreat
open Go.Proofs.YtcomiiakkhafpaaGreat.Am
variable [Inhabited DRT]
variable {G : GInv}
/-! ### Numbers compared -/
def cmpN (a b : Nat) : Int := if a < b then -1 else if b < a then 1 else 0
theorem cmpN_0 {a b : Nat} : cmpN a b = 0 ↔ a = b := by
 unfold cmpN
 split
 ·omega
 ·split <;> omega
set_option maxRecDepth 100000 in
theorem ccmp_c (a b : Nat) : ACalls Tryz.prog G 161 [.int .u64 (a : Int), .int .u64 (b : Int)] (.int .i64 (cmpN a b)) := by
 have hn : ∀ z : Nat, ACalls Tryz.prog G 204 [.int .u64 (z : Int)] (.sb false) := fun z => by
  refine ACalls.of_WA ttok Tryz.func204 rfl rfl _ rfl ?_
  conv => whnf
  repeat' (first | refine sq ?_ | refine bk ?_ | ((first | refine rg ttok ?_ | refine dw ttok mixed ?_ | refine cd ?_ | refine sk ?_ | refine xt ?_ | refine rt ?_); conv => whnf) | (refine And.intro (fun h => ?_) (fun h => ?_) <;> (try simp only [brsA] at h) <;> conv => whnf) | ((first | refine wf ?_ | refine wp' ?_ | refine ai ?_ | refine And.intro rfl ?_ | refine an ?_); conv => whnf))
  all_goals first | contradiction | (exfalso; omega) | (simp; done) | trace_state
 refine ACalls.of_WA ttok Tryz.func161 rfl rfl _ rfl ?_
 conv => whnf
 repeat' (first | refine sq ?_ | refine bk ?_ | ((first | refine rg ttok ?_ | refine dw ttok mixed ?_ | refine cd ?_ | refine sk ?_ | refine xt ?_ | refine rt ?_); conv => whnf) | (refine And.intro (fun h => ?_) (fun h => ?_) <;> (try simp only [brsA] at h) <;> conv => whnf) | ((first | refine Or.inl ?_ | skip); (conv => whnf); (first | refine ⟨_, hn a, ?_⟩ | refine ⟨_, hn b, ?_⟩); conv => whnf) | ((first | refine wf ?_ | refine wp' ?_ | refine ai ?_ | refine And.intro rfl ?_ | refine an ?_); conv => whnf))
 all_goals first | contradiction | (exfalso; omega) | skip
 all_goals first | (unfold cmpN; rw [if_pos (by omega)]; done) | (unfold cmpN; rw [if_neg (by omega), if_pos (by omega)]; done) | (unfold cmpN; rw [if_neg (by omega), if_neg (by omega)]; done) | trace_state
theorem cmp_at {A B : Nat → Nat} (hA : WordP A) (hB : WordP B) (j : Nat) (hj : j < 8) (he : ∀ k, j < k → k < 8 → A k = B k) (hne : A j ≠ B j) : cmpN (A j) (B j) = cmpN (wv A) (wv B) := by
 have eA := wv_expl hA
 have eB := wv_expl hB
 have a0 := hA 0
 have a1 := hA 1
 have a2 := hA 2
 have a3 := hA 3
 have a4 := hA 4
 have a5 := hA 5
 have a6 := hA 6
 have b0 := hB 0
 have b1 := hB 1
 have b2 := hB 2
 have b3 := hB 3
 have b4 := hB 4
 have b5 := hB 5
 have b6 := hB 6
 have key : (A j < B j → wv A < wv B) ∧ (B j < A j → wv B < wv A) := by
  generalize wv A = a at *
  generalize wv B = b at *
  match j, hj with
  | 0, _ =>
   have e1 := he 1 (by omega) (by omega)
   have e2 := he 2 (by omega) (by omega)
   have e3 := he 3 (by omega) (by omega)
   have e4 := he 4 (by omega) (by omega)
   have e5 := he 5 (by omega) (by omega)
   have e6 := he 6 (by omega) (by omega)
   have e7 := he 7 (by omega) (by omega)
   constructor <;> intro h <;> omega
  | 1, _ =>
   have e2 := he 2 (by omega) (by omega)
   have e3 := he 3 (by omega) (by omega)
   have e4 := he 4 (by omega) (by omega)
   have e5 := he 5 (by omega) (by omega)
   have e6 := he 6 (by omega) (by omega)
   have e7 := he 7 (by omega) (by omega)
   constructor <;> intro h <;> omega
  | 2, _ =>
   have e3 := he 3 (by omega) (by omega)
   have e4 := he 4 (by omega) (by omega)
   have e5 := he 5 (by omega) (by omega)
   have e6 := he 6 (by omega) (by omega)
   have e7 := he 7 (by omega) (by omega)
   constructor <;> intro h <;> omega
  | 3, _ =>
   have e4 := he 4 (by omega) (by omega)
   have e5 := he 5 (by omega) (by omega)
   have e6 := he 6 (by omega) (by omega)
   have e7 := he 7 (by omega) (by omega)
   constructor <;> intro h <;> omega
  | 4, _ =>
   have e5 := he 5 (by omega) (by omega)
   have e6 := he 6 (by omega) (by omega)
   have e7 := he 7 (by omega) (by omega)
   constructor <;> intro h <;> omega
  | 5, _ =>
   have e6 := he 6 (by omega) (by omega)
   have e7 := he 7 (by omega) (by omega)
   constructor <;> intro h <;> omega
  | 6, _ =>
   have e7 := he 7 (by omega) (by omega)
   constructor <;> intro h <;> omega
  | 7, _ =>
   constructor <;> intro h <;> omega
 unfold cmpN
 rcases Nat.lt_or_ge (A j) (B j) with q | q
 ·rw [if_pos q, if_pos (key.1 q)]
 ·have q2 : B j < A j := by omega
  have := key.2 q2
  rw [if_neg (by omega), if_pos q2, if_neg (by omega), if_pos this]
set_option maxRecDepth 100000 in
set_option maxHeartbeats 4000000 in
theorem wideCmp_gen (A B : Nat → Nat) (r : Int) (h1 : ∀ j, j < 8 → (∀ k, j < k → k < 8 → A k = B k) → A j ≠ B j → cmpN (A j) (B j) = r) (h2 : (∀ k, k < 8 → A k = B k) → r = 0) :
  ACalls Tryz.prog G 132 [wideA A, wideA B] (.int .i64 r) := by
 have hc := fun j => ccmp_c (G := G) (A j) (B j)
 unfold wideA
 refine ACalls.of_WA ttok Tryz.func132 rfl rfl _ rfl ?_
 conv => whnf
 repeat (first | refine sq ?_ | refine bk ?_ | ((first | refine rg ttok ?_ | refine dw ttok mixed ?_ | refine cd ?_ | refine sk ?_ | refine xt ?_ | refine rt ?_); conv => whnf))
 refine WA_loopI (fun t : Nat => t ≤ 8 ∧ ∀ k, 8 ≤ k + t → k < 8 → A k = B k) (fun t => [(5, .int .i64 (7 - (t : Int)))]) (fun t => [bxF A, bxF B]) (fun t => 8 - t) 0 ⟨by omega, fun k q1 q2 => by omega⟩ ?_ ?_
 ·conv => whnf
  repeat (first | exact fa | ((first | refine fb ?_ | (refine And.intro ?_ ?_; rotate_left)); conv => whnf))
  all_goals trace_state
 ·rintro i ⟨hi, hE⟩
  by_cases h8 : i < 8
  ·have g1 := h1 (7 - i) (by omega) (fun k q1 q2 => hE k (by omega) q2)
   have g0 := cmpN_0 (a := A (7 - i)) (b := B (7 - i))
   have c := hc (7 - i)
   have nx : A (7 - i) = B (7 - i) → ∀ k, 8 ≤ k + (i + 1) → k < 8 → A k = B k := fun q0 k q1 q2 => by
    by_cases q : k = 7 - i
    ·subst q; exact q0
    ·exact hE k (by omega) q2
   generalize cmpN (A (7 - i)) (B (7 - i)) = z at *
   have e : i = 0 ∨ i = 1 ∨ i = 2 ∨ i = 3 ∨ i = 4 ∨ i = 5 ∨ i = 6 ∨ i = 7 := by omega
   rcases e with rfl | rfl | rfl | rfl | rfl | rfl | rfl | rfl
   all_goals
    conv => whnf
    repeat' (first | refine sq ?_ | refine bk ?_ | ((first | refine rg ttok ?_ | refine dw ttok mixed ?_ | refine cd ?_ | refine sk ?_ | refine xt ?_ | refine rt ?_); conv => whnf) | (refine And.intro (fun h => ?_) (fun h => ?_) <;> (try simp only [brsA] at h) <;> conv => whnf) | ((first | refine Or.inl ?_ | skip); (conv => whnf); refine ⟨_, c, ?_⟩; conv => whnf) | ((first | refine wf ?_ | refine wp' ?_ | refine ai ?_ | refine And.intro rfl ?_ | refine an ?_); conv => whnf))
   all_goals first | contradiction | (exfalso; omega) | exact g1 (fun q => absurd (g0.2 q) (by assumption)) | skip
   all_goals first | refine ⟨1, ⟨by decide, nx (g0.1 (by assumption))⟩, by decide, ?_⟩ | refine ⟨2, ⟨by decide, nx (g0.1 (by assumption))⟩, by decide, ?_⟩ | refine ⟨3, ⟨by decide, nx (g0.1 (by assumption))⟩, by decide, ?_⟩ | refine ⟨4, ⟨by decide, nx (g0.1 (by assumption))⟩, by decide, ?_⟩ | refine ⟨5, ⟨by decide, nx (g0.1 (by assumption))⟩, by decide, ?_⟩ | refine ⟨6, ⟨by decide, nx (g0.1 (by assumption))⟩, by decide, ?_⟩ | refine ⟨7, ⟨by decide, nx (g0.1 (by assumption))⟩, by decide, ?_⟩ | refine ⟨8, ⟨by decide, nx (g0.1 (by assumption))⟩, by decide, ?_⟩
   all_goals
    conv => whnf
    repeat (first | exact fa | ((first | refine fb ?_ | (refine And.intro ?_ ?_; rotate_left)); conv => whnf))
    all_goals trace_state
  obtain rfl : i = 8 := by omega
  have hr := h2 (fun k q => hE k (by omega) q)
  subst hr
  conv => whnf
  repeat' (first | refine sq ?_ | refine bk ?_ | ((first | refine rg ttok ?_ | refine dw ttok mixed ?_ | refine cd ?_ | refine sk ?_ | refine xt ?_ | refine rt ?_); conv => whnf) | (refine And.intro (fun h => ?_) (fun h => ?_) <;> (try simp only [brsA] at h) <;> conv => whnf) | ((first | refine wf ?_ | refine wp' ?_ | refine ai ?_ | refine And.intro rfl ?_ | refine an ?_); conv => whnf))
  all_goals first | contradiction | (exfalso; omega) | skip
  all_goals trace_state
theorem wideCmp_c (v u : Nat) (hv : v < 65536 ^ 32) (hu : u < 65536 ^ 32) : ACalls Tryz.prog G 132 [wideN v, wideN u] (.int .i64 (cmpN v u)) := by
 refine wideCmp_gen (wW v) (wW u) _ (fun j hj he hne => ?_) (fun he => ?_)
 ·have := cmp_at (wW_ok v) (wW_ok u) j hj he hne
  rw [this, wv_wW hv, wv_wW hu]
 ·rw [cmpN_0]
  have ev := wv_wW hv
  have eu := wv_wW hu
  rw [← ev, ← eu, wv_expl (wW_ok v), wv_expl (wW_ok u), he 0 (by omega), he 1 (by omega), he 2 (by omega), he 3 (by omega), he 4 (by omega), he 5 (by omega), he 6 (by omega), he 7 (by omega)]
end Go.Proofs.YtcomiiakkhafpaaGreat
namespace Go.Proofs.YtcomiiakkhafpaaGreat
open Go.Proofs.YtcomiiakkhafpaaGreat.Am
variable [Inhabited DRT]
variable {G : GInv}
/-! ### Bits -/
theorem bit_val (a r : Nat) (ha : a < 18446744073709551616) (hr : r < 64) : (IntKind.u64.wrap ((BitVec.ofInt IntKind.u64.bits ((a : Int).fdiv (2 ^ min (r : Int).toNat IntKind.u64.bits)) &&& BitVec.ofInt IntKind.u64.bits 1).toNat : Int) == 1) = decide (a / 2 ^ r % 2 = 1) := by
 rw [w_pow r (by omega), w_fdiv]
 have hd : a / 2 ^ r < 18446744073709551616 := Nat.lt_of_le_of_lt (Nat.div_le_self _ _) ha
 generalize a / 2 ^ r = d at *
 have e1 : (BitVec.ofInt IntKind.u64.bits (d : Int)).toNat = d := by
  show (BitVec.ofInt 64 (d : Int)).toNat = d
  rw [BitVec.toNat_ofInt]; omega
 have e2 : (BitVec.ofInt IntKind.u64.bits 1).toNat = 1 := rfl
 have e3 : (BitVec.ofInt IntKind.u64.bits (d : Int) &&& BitVec.ofInt IntKind.u64.bits 1).toNat = d % 2 := by
  rw [BitVec.toNat_and, e1, e2, Nat.and_one_is_mod]
 rw [e3, w_wrap _ (by omega), Bool.eq_iff_iff, beq_iff_eq, decide_eq_true_iff]
 omega
set_option maxRecDepth 100000 in
theorem bit_0 (V : Nat → Nat) (hV : WordP V) (z : Int) (r : Nat) (hr : r < 64) (hz : z = 64 * 0 + r) : ACalls Tryz.prog G 177 [wideA V, .int .i64 z] (.sb (decide (V 0 / 2 ^ r % 2 = 1))) := by
 have t1 : z.tdiv 64 = 0 := by rw [Int.tdiv_eq_ediv_of_nonneg (by omega)]; omega
 have t2 : z.tmod 64 = r := by rw [Int.tmod_eq_emod_of_nonneg (by omega)]; omega
 have hb := bit_val (V 0) r (hV 0) hr
 unfold wideA
 refine ACalls.of_WA ttok Tryz.func177 rfl rfl _ rfl ?_
 conv => whnf
 repeat' (first | ((rw [t1]; conv => whnf)) | ((rw [t2]; conv => whnf)) | refine sq ?_ | refine bk ?_ | ((first | refine rg ttok ?_ | refine dw ttok mixed ?_ | refine cd ?_ | refine sk ?_ | refine xt ?_ | refine rt ?_); conv => whnf) | (refine And.intro (fun h => ?_) (fun h => ?_) <;> (try simp only [brsA] at h) <;> conv => whnf) | ((first | refine wf ?_ | refine wp' ?_ | refine ai ?_ | refine And.intro rfl ?_ | refine an ?_); conv => whnf))
 all_goals first | contradiction | (exfalso; omega) | skip
 all_goals exact hb
set_option maxRecDepth 100000 in
theorem bit_1 (V : Nat → Nat) (hV : WordP V) (z : Int) (r : Nat) (hr : r < 64) (hz : z = 64 * 1 + r) : ACalls Tryz.prog G 177 [wideA V, .int .i64 z] (.sb (decide (V 1 / 2 ^ r % 2 = 1))) := by
 have t1 : z.tdiv 64 = 1 := by rw [Int.tdiv_eq_ediv_of_nonneg (by omega)]; omega
 have t2 : z.tmod 64 = r := by rw [Int.tmod_eq_emod_of_nonneg (by omega)]; omega
 have hb := bit_val (V 1) r (hV 1) hr
 unfold wideA
 refine ACalls.of_WA ttok Tryz.func177 rfl rfl _ rfl ?_
 conv => whnf
 repeat' (first | ((rw [t1]; conv => whnf)) | ((rw [t2]; conv => whnf)) | refine sq ?_ | refine bk ?_ | ((first | refine rg ttok ?_ | refine dw ttok mixed ?_ | refine cd ?_ | refine sk ?_ | refine xt ?_ | refine rt ?_); conv => whnf) | (refine And.intro (fun h => ?_) (fun h => ?_) <;> (try simp only [brsA] at h) <;> conv => whnf) | ((first | refine wf ?_ | refine wp' ?_ | refine ai ?_ | refine And.intro rfl ?_ | refine an ?_); conv => whnf))
 all_goals first | contradiction | (exfalso; omega) | skip
 all_goals exact hb
theorem wbit (v q r : Nat) (hr : r < 64) : wW v q / 2 ^ r % 2 = v / 2 ^ (64 * q + r) % 2 := by
 have hp : (18446744073709551616 : Nat) ^ q = 2 ^ (64 * q) := by
  rw [show (18446744073709551616 : Nat) = 2 ^ 64 from rfl, ← Nat.pow_mul]
 have key : Nat.testBit (wW v q) r = Nat.testBit v (64 * q + r) := by
  unfold wW
  rw [hp, show (18446744073709551616 : Nat) = 2 ^ 64 from rfl, Nat.testBit_mod_two_pow, Nat.testBit_div_two_pow, decide_eq_true hr, Bool.true_and]
  try rw [Nat.add_comm]
 rw [Nat.testBit_eq_decide_div_mod_eq, Nat.testBit_eq_decide_div_mod_eq, decide_eq_decide] at key
 omega
theorem bit_c (v i : Nat) (hi : i < 128) : ACalls Tryz.prog G 177 [wideN v, .int .i64 (i : Int)] (.sb (decide (v / 2 ^ i % 2 = 1))) := by
 by_cases h : i < 64
 ·have h0 := bit_0 (G := G) (wW v) (wW_ok v) (i : Int) i h (by omega)
  rw [wbit v 0 i h, show 64 * 0 + i = i by omega] at h0
  exact h0
 ·have h1 := bit_1 (G := G) (wW v) (wW_ok v) (i : Int) (i - 64) (by omega) (by omega)
  rw [wbit v 1 (i - 64) (by omega), show 64 * 1 + (i - 64) = i by omega] at h1
  exact h1
set_option maxRecDepth 100000 in
theorem twos_c (v t : Nat) (ht : t < 128) (hl : ∀ j, j < t → v / 2 ^ j % 2 ≠ 1) (hb : v / 2 ^ t % 2 = 1) : ACalls Tryz.prog G 140 [wideN v] (.int .i64 (t : Int)) := by
 have hc := fun i h => bit_c (G := G) v i h
 have hg : ∀ j, j ≤ t → decide (v / 2 ^ j % 2 = 1) = decide (j = t) := fun j hj => by
  by_cases e : j = t
  ·subst e; rw [decide_eq_true hb, decide_eq_true rfl]
  ·rw [decide_eq_false (hl j (by omega)), decide_eq_false e]
 unfold wideN wideA at *
 generalize wW v = V at *
 refine ACalls.of_WA ttok Tryz.func140 rfl rfl _ rfl ?_
 conv => whnf
 repeat (first | refine sq ?_ | refine bk ?_ | ((first | refine rg ttok ?_ | refine dw ttok mixed ?_ | refine cd ?_ | refine sk ?_ | refine xt ?_ | refine rt ?_); conv => whnf))
 refine WA_loopI (fun i : Nat => i ≤ t) (fun i => [(3, .int .i64 (i : Int))]) (fun i => [bxF V]) (fun i => t - i) 0 (by omega) ?_ ?_
 ·conv => whnf
  repeat (first | exact fa | ((first | refine fb ?_ | (refine And.intro ?_ ?_; rotate_left)); conv => whnf))
  all_goals trace_state
 ·intro i hi
  have c := hc i (by omega)
  rw [hg i hi] at c
  clear hg hl hb hc
  by_cases e : i = t
  ·subst e
   rw [decide_eq_true rfl] at c
   conv => whnf
   repeat' (first | refine sq ?_ | refine bk ?_ | ((first | refine rg ttok ?_ | refine dw ttok mixed ?_ | refine cd ?_ | refine sk ?_ | refine xt ?_ | refine rt ?_); conv => whnf) | (refine And.intro (fun h => ?_) (fun h => ?_) <;> (try simp only [brsA] at h) <;> conv => whnf) | ((first | refine Or.inl ?_ | skip); (conv => whnf); refine ⟨_, c, ?_⟩; conv => whnf) | ((first | refine wf ?_ | refine wp' ?_ | refine ai ?_ | refine And.intro rfl ?_ | refine an ?_); conv => whnf))
   all_goals first | contradiction | (exfalso; omega) | skip
   all_goals trace_state
  ·rw [decide_eq_false e] at c
   conv => whnf
   repeat' (first | refine sq ?_ | refine bk ?_ | ((first | refine rg ttok ?_ | refine dw ttok mixed ?_ | refine cd ?_ | refine sk ?_ | refine xt ?_ | refine rt ?_); conv => whnf) | (refine And.intro (fun h => ?_) (fun h => ?_) <;> (try simp only [brsA] at h) <;> conv => whnf) | ((first | refine Or.inl ?_ | skip); (conv => whnf); refine ⟨_, c, ?_⟩; conv => whnf) | ((first | refine wf ?_ | refine wp' ?_ | refine ai ?_ | refine And.intro rfl ?_ | refine an ?_); conv => whnf))
   all_goals first | contradiction | (exfalso; omega) | skip
   refine ⟨i + 1, (by show i + 1 ≤ t; omega), (by show t - (i + 1) < t - i; omega), ?_⟩
   conv => whnf
   repeat (first | exact fa | ((first | refine fb ?_ | (refine And.intro ?_ ?_; rotate_left)); conv => whnf))
   all_goals trace_state
theorem odd_part : ∀ (n v : Nat), 0 < v → v < 2 ^ n → ∃ t o, v = 2 ^ t * o ∧ o % 2 = 1 ∧ t < n
 | 0, v, h, h2 => by rw [Nat.pow_zero] at h2; omega
 | n + 1, v, h, h2 => by
  by_cases q : v % 2 = 1
  ·exact ⟨0, v, by rw [Nat.pow_zero, Nat.one_mul], q, by omega⟩
  ·obtain ⟨t, o, h3, h4, h5⟩ := odd_part n (v / 2) (by omega) (by rw [Nat.pow_succ] at h2; omega)
   refine ⟨t + 1, o, ?_, h4, by omega⟩
   rw [Nat.pow_succ, Nat.mul_assoc, Nat.mul_comm 2 o, ← Nat.mul_assoc, ← h3]; omega
theorem odd_bits {t o : Nat} (ho : o % 2 = 1) : (∀ j, j < t → 2 ^ t * o / 2 ^ j % 2 ≠ 1) ∧ 2 ^ t * o / 2 ^ t % 2 = 1 := by
 constructor
 ·intro j hj
  obtain ⟨k, rfl⟩ : ∃ k, t = k + 1 + j := ⟨t - j - 1, by omega⟩
  rw [Nat.pow_add, Nat.mul_comm (2 ^ (k + 1)) (2 ^ j), Nat.mul_assoc, Nat.mul_div_cancel_left _ (Nat.pow_pos (by omega)), Nat.pow_succ, Nat.mul_comm (2 ^ k) 2, Nat.mul_assoc]
  omega
 ·rw [Nat.mul_div_cancel_left _ (Nat.pow_pos (by omega))]; exact ho
theorem twosO_c (t o : Nat) (ht : t < 128) (ho : o % 2 = 1) : ACalls Tryz.prog G 140 [wideN (2 ^ t * o)] (.int .i64 (t : Int)) :=
 twos_c _ t ht (odd_bits ho).1 (odd_bits ho).2
end Go.Proofs.YtcomiiakkhafpaaGreat
namespace Go.Proofs.YtcomiiakkhafpaaGreat
open Go.Proofs.YtcomiiakkhafpaaGreat.Am
variable [Inhabited DRT]
variable {G : GInv}
/-! ### Shifts: plain laws -/
theorem wtb (v k j : Nat) : Nat.testBit (wW v k) j = (decide (j < 64) && Nat.testBit v (64 * k + j)) := by
 have hp : (18446744073709551616 : Nat) ^ k = 2 ^ (64 * k) := by
  rw [show (18446744073709551616 : Nat) = 2 ^ 64 from rfl, ← Nat.pow_mul]
 unfold wW
 rw [hp, show (18446744073709551616 : Nat) = 2 ^ 64 from rfl, Nat.testBit_mod_two_pow, Nat.testBit_div_two_pow, Nat.add_comm j]
theorem big_le {m : Nat} (h : 512 ≤ m) : 65536 ^ 32 ≤ 2 ^ m := by
 obtain ⟨k, rfl⟩ : ∃ k, m = 256 + (256 + k) := ⟨m - 512, by omega⟩
 have e : (65536 : Nat) ^ 32 = 2 ^ 256 * 2 ^ 256 := by decide
 rw [Nat.pow_add, Nat.pow_add, e]
 exact Nat.mul_le_mul_left _ (Nat.le_mul_of_pos_right _ (Nat.pow_pos (Nat.zero_lt_succ 1)))
theorem tb_high {v m : Nat} (hv : v < 65536 ^ 32) (h : 512 ≤ m) : Nat.testBit v m = false := Nat.testBit_lt_two_pow (Nat.lt_of_lt_of_le hv (big_le h))
theorem tbeq {v a b : Nat} (h : a = b) : Nat.testBit v a = Nat.testBit v b := by rw [h]
theorem right_a {v q r i : Nat} (hv : v < 65536 ^ 32) (hr : r < 64) (h : ¬ (0 < r ∧ i + q + 1 < 8)) (h2 : i + q < 8) : wW v (i + q) / 2 ^ r = wW (v / 2 ^ (64 * q + r)) i := by
 refine Nat.eq_of_testBit_eq fun j => ?_
 rw [Nat.testBit_div_two_pow, wtb, wtb, Nat.testBit_div_two_pow]
 by_cases hj : j < 64
 ·rw [decide_eq_true hj, Bool.true_and]
  by_cases hj2 : j + r < 64
  ·rw [decide_eq_true hj2, Bool.true_and]; exact tbeq (by omega)
  ·rw [decide_eq_false hj2, Bool.false_and]
   exact (tb_high hv (by omega)).symm
 ·rw [decide_eq_false hj, decide_eq_false (by omega)]; rfl
theorem right_b {v q r i : Nat} (hr : r < 64) (h0 : 0 < r) : (wW v (i + q) / 2 ^ r ||| wW v (i + q + 1) * 2 ^ (64 - r) % 18446744073709551616) = wW (v / 2 ^ (64 * q + r)) i := by
 refine Nat.eq_of_testBit_eq fun j => ?_
 rw [Nat.testBit_or, show (18446744073709551616 : Nat) = 2 ^ 64 from rfl, Nat.testBit_mod_two_pow, Nat.testBit_mul_two_pow, Nat.testBit_div_two_pow, wtb, wtb, wtb, Nat.testBit_div_two_pow]
 by_cases hj : j < 64
 ·rw [decide_eq_true hj, Bool.true_and, Bool.true_and]
  by_cases hj2 : j + r < 64
  ·rw [decide_eq_true hj2, decide_eq_false (show ¬ 64 - r ≤ j by omega), Bool.true_and, Bool.false_and, Bool.or_false]
   exact tbeq (by omega)
  ·rw [decide_eq_false hj2, decide_eq_true (show 64 - r ≤ j by omega), decide_eq_true (show j - (64 - r) < 64 by omega), Bool.false_and, Bool.true_and, Bool.true_and, Bool.false_or]
   exact tbeq (by omega)
 ·rw [decide_eq_false hj, decide_eq_false (by omega)]; rfl
theorem right_c {v q r i : Nat} (hv : v < 65536 ^ 32) (h : 8 ≤ i + q) : wW (v / 2 ^ (64 * q + r)) i = 0 := by
 refine Nat.eq_of_testBit_eq fun j => ?_
 rw [wtb, Nat.testBit_div_two_pow, tb_high hv (by omega), Bool.and_false, Nat.zero_testBit]
theorem left_a {v q r i : Nat} (h : ¬ (0 < r ∧ q < i)) (h2 : q ≤ i) : wW v (i - q) * 2 ^ r % 18446744073709551616 = wW (v * 2 ^ (64 * q + r)) i := by
 refine Nat.eq_of_testBit_eq fun j => ?_
 rw [show (18446744073709551616 : Nat) = 2 ^ 64 from rfl, Nat.testBit_mod_two_pow, Nat.testBit_mul_two_pow, wtb, wtb, Nat.testBit_mul_two_pow]
 by_cases hj : j < 64
 ·rw [decide_eq_true hj, Bool.true_and, Bool.true_and]
  by_cases hj2 : r ≤ j
  ·rw [decide_eq_true hj2, decide_eq_true (show j - r < 64 by omega), decide_eq_true (show 64 * q + r ≤ 64 * i + j by omega), Bool.true_and, Bool.true_and, Bool.true_and]
   exact tbeq (by omega)
  ·rw [decide_eq_false hj2, decide_eq_false (show ¬ 64 * q + r ≤ 64 * i + j by omega)]; rfl
 ·rw [decide_eq_false hj]; rfl
theorem left_b {v q r i : Nat} (hr : r < 64) (h0 : 0 < r) (h : q < i) : (wW v (i - q) * 2 ^ r % 18446744073709551616 ||| wW v (i - q - 1) / 2 ^ (64 - r)) = wW (v * 2 ^ (64 * q + r)) i := by
 refine Nat.eq_of_testBit_eq fun j => ?_
 rw [Nat.testBit_or, show (18446744073709551616 : Nat) = 2 ^ 64 from rfl, Nat.testBit_mod_two_pow, Nat.testBit_mul_two_pow, Nat.testBit_div_two_pow, wtb, wtb, wtb, Nat.testBit_mul_two_pow]
 by_cases hj : j < 64
 ·rw [decide_eq_true hj, Bool.true_and, Bool.true_and, decide_eq_true (show 64 * q + r ≤ 64 * i + j by omega), Bool.true_and]
  by_cases hj2 : r ≤ j
  ·rw [decide_eq_true hj2, decide_eq_true (show j - r < 64 by omega), decide_eq_false (show ¬ j + (64 - r) < 64 by omega), Bool.true_and, Bool.true_and, Bool.false_and, Bool.or_false]
   exact tbeq (by omega)
  ·rw [decide_eq_false hj2, decide_eq_true (show j + (64 - r) < 64 by omega), Bool.false_and, Bool.true_and, Bool.false_or]
   exact tbeq (by omega)
 ·rw [decide_eq_false hj, decide_eq_false (show ¬ j + (64 - r) < 64 by omega)]; rfl
theorem left_c {v q r i : Nat} (h : i < q) : wW (v * 2 ^ (64 * q + r)) i = 0 := by
 refine Nat.eq_of_testBit_eq fun j => ?_
 rw [wtb, Nat.testBit_mul_two_pow, Nat.zero_testBit]
 by_cases hj : j < 64
 ·rw [decide_eq_false (show ¬ 64 * q + r ≤ 64 * i + j by omega)]; simp
 ·rw [decide_eq_false hj]; rfl
theorem shr_val (a r : Nat) (hr : r < 64) : (a : Int).fdiv (2 ^ min (r : Int).toNat IntKind.u64.bits) = ((a / 2 ^ r : Nat) : Int) := by
 rw [w_pow r (by omega), w_fdiv]
theorem shr_val' (a r : Nat) (hr : r ≤ 64) : (a : Int).fdiv (2 ^ min (64 - (r : Int)).toNat IntKind.u64.bits) = ((a / 2 ^ (64 - r) : Nat) : Int) := by
 rw [w_pow' r hr, w_fdiv]
theorem shl_val (a r : Nat) (hr : r < 64) : IntKind.u64.wrap ((a : Int) * 2 ^ min (r : Int).toNat IntKind.u64.bits) = ((a * 2 ^ r % 18446744073709551616 : Nat) : Int) := by
 rw [w_pow r (by omega), ← Int.natCast_mul, w_mod]
theorem shl_val' (a r : Nat) (hr : r ≤ 64) : IntKind.u64.wrap ((a : Int) * 2 ^ min (64 - (r : Int)).toNat IntKind.u64.bits) = ((a * 2 ^ (64 - r) % 18446744073709551616 : Nat) : Int) := by
 rw [w_pow' r hr, ← Int.natCast_mul, w_mod]
theorem or_val {x y z : Nat} (hx : x < 18446744073709551616) (hy : y < 18446744073709551616) (h : (x ||| y) = z) (hz : z < 18446744073709551616) : IntKind.u64.wrap ((BitVec.ofInt IntKind.u64.bits (x : Int) ||| BitVec.ofInt IntKind.u64.bits (y : Int)).toNat : Int) = (z : Int) := by
 rw [w_or x y hx hy (by rw [h]; exact hz), h]
theorem div_lt' {a r : Nat} (ha : a < 18446744073709551616) : a / 2 ^ r < 18446744073709551616 := Nat.lt_of_le_of_lt (Nat.div_le_self _ _) ha
end Go.Proofs.YtcomiiakkhafpaaGreat
namespace Go.Proofs.YtcomiiakkhafpaaGreat
open Go.Proofs.YtcomiiakkhafpaaGreat.Am
variable [Inhabited DRT]
variable {G : GInv}
set_option maxRecDepth 100000 in
set_option maxHeartbeats 4000000 in
theorem wright_0 (V O : Nat → Nat) (hV : WordP V) (hO : WordP O) (z : Int) (r : Nat) (hr : r < 64) (hz : z = 64 * 0 + r)
  (o1 : ∀ i, ¬ (0 < r ∧ i + 0 + 1 < 8) → i + 0 < 8 → V (i + 0) / 2 ^ r = O i) (o2 : ∀ i, 0 < r → i + 0 + 1 < 8 → (V (i + 0) / 2 ^ r ||| V (i + 0 + 1) * 2 ^ (64 - r) % 18446744073709551616) = O i) :
  ACalls Tryz.prog G 178 [wideA V, .int .i64 z] (wideA (ups O 8)) := by
 have t1 : z.tdiv 64 = 0 := by rw [Int.tdiv_eq_ediv_of_nonneg (by omega)]; omega
 have t2 : z.tmod 64 = r := by rw [Int.tmod_eq_emod_of_nonneg (by omega)]; omega
 unfold wideA
 refine ACalls.of_WA ttok Tryz.func178 rfl rfl _ rfl ?_
 conv => whnf
 repeat' (first | ((rw [t1, t2]; conv => whnf)) | refine WA_seq ?_ | refine WA_block ?_ | ((first | refine WA_region ttok ?_ | refine WA_draw ttok mixed ?_ | refine WA_cond ?_ | refine WA_skip ?_ | refine WA_exit ?_ | refine WA_ret ?_); conv => whnf) | (refine And.intro (fun h => ?_) (fun h => ?_) <;> (try simp only [brsA] at h) <;> conv => whnf) | (refine WR_fit ?_ ?_; (focus (first | exact wr_i64 (by omega) | exact wr_u64 (by omega) | exact wr_u8 (by omega) | exact wr_i32 (by omega) | exact wr_u32 (by omega))); conv => whnf) | ((first | refine WR_wrap ?_ | (refine And.intro (a := indepB _ _ = true) ?_ ?_; (focus kernel_rfl)) | refine And.intro rfl ?_ | (refine And.intro ?_ ?_; (focus (first | omega | decide | (dsimp only; omega) | (simp at *; omega))))); conv => whnf))
 all_goals first | contradiction | (exfalso; omega) | skip
 refine WA_loopI (fun i : Nat => i ≤ 8) (fun i => [(15, .int .i64 (i : Int))]) (fun i => [bxF V, bxF (fun _ => 0), bxF (ups O i)]) (fun i => 8 - i) 0 (by omega) ?_ ?_
 ·conv => whnf
  repeat (first | exact rfl | exact trivial | exact Or.inl (fun _ _ => rfl) | exact (fun _ => rfl) | exact (fun _ _ => rfl) | exact Or.inl (fun _ hi => absurd hi (Nat.not_lt_zero _)) | ((first | refine And.intro rfl ?_ | refine And.intro (Or.inl (fun _ _ => rfl)) ?_ | refine And.intro (fun _ => rfl) ?_ | refine And.intro (fun _ _ => rfl) ?_ | (refine And.intro ?_ ?_; rotate_left)); conv => whnf))
 ·intro i hi
  have e : i = 0 ∨ i = 1 ∨ i = 2 ∨ i = 3 ∨ i = 4 ∨ i = 5 ∨ i = 6 ∨ i = 7 ∨ i = 8 := by omega
  have p0 : ¬ (0 < r ∧ 1 < 8) → V 0 / 2 ^ r = O 0 := fun h => o1 0 h (by omega)
  have q0 : 0 < r → (V 0 / 2 ^ r ||| V 1 * 2 ^ (64 - r) % 18446744073709551616) = O 0 := fun h => o2 0 h (by omega)
  have p1 : ¬ (0 < r ∧ 2 < 8) → V 1 / 2 ^ r = O 1 := fun h => o1 1 h (by omega)
  have q1 : 0 < r → (V 1 / 2 ^ r ||| V 2 * 2 ^ (64 - r) % 18446744073709551616) = O 1 := fun h => o2 1 h (by omega)
  have p2 : ¬ (0 < r ∧ 3 < 8) → V 2 / 2 ^ r = O 2 := fun h => o1 2 h (by omega)
  have q2 : 0 < r → (V 2 / 2 ^ r ||| V 3 * 2 ^ (64 - r) % 18446744073709551616) = O 2 := fun h => o2 2 h (by omega)
  have p3 : ¬ (0 < r ∧ 4 < 8) → V 3 / 2 ^ r = O 3 := fun h => o1 3 h (by omega)
  have q3 : 0 < r → (V 3 / 2 ^ r ||| V 4 * 2 ^ (64 - r) % 18446744073709551616) = O 3 := fun h => o2 3 h (by omega)
  have p4 : ¬ (0 < r ∧ 5 < 8) → V 4 / 2 ^ r = O 4 := fun h => o1 4 h (by omega)
  have q4 : 0 < r → (V 4 / 2 ^ r ||| V 5 * 2 ^ (64 - r) % 18446744073709551616) = O 4 := fun h => o2 4 h (by omega)
  have p5 : ¬ (0 < r ∧ 6 < 8) → V 5 / 2 ^ r = O 5 := fun h => o1 5 h (by omega)
  have q5 : 0 < r → (V 5 / 2 ^ r ||| V 6 * 2 ^ (64 - r) % 18446744073709551616) = O 5 := fun h => o2 5 h (by omega)
  have p6 : ¬ (0 < r ∧ 7 < 8) → V 6 / 2 ^ r = O 6 := fun h => o1 6 h (by omega)
  have q6 : 0 < r → (V 6 / 2 ^ r ||| V 7 * 2 ^ (64 - r) % 18446744073709551616) = O 6 := fun h => o2 6 h (by omega)
  have p7 : ¬ (0 < r ∧ 8 < 8) → V 7 / 2 ^ r = O 7 := fun h => o1 7 h (by omega)
  clear o1 o2
  rcases e with rfl | rfl | rfl | rfl | rfl | rfl | rfl | rfl | rfl
  all_goals
   conv => whnf
   repeat' (first | refine WA_seq ?_ | refine WA_block ?_ | ((first | refine WA_region ttok ?_ | refine WA_draw ttok mixed ?_ | refine WA_cond ?_ | refine WA_skip ?_ | refine WA_exit ?_ | refine WA_ret ?_); conv => whnf) | (refine And.intro (fun h => ?_) (fun h => ?_) <;> (try simp only [brsA] at h) <;> conv => whnf) | (refine WR_fit ?_ ?_; (focus (first | exact wr_i64 (by omega) | exact wr_u64 (by omega) | exact wr_u8 (by omega) | exact wr_i32 (by omega) | exact wr_u32 (by omega))); conv => whnf) | ((first | refine WR_wrap ?_ | (refine And.intro (a := indepB _ _ = true) ?_ ?_; (focus kernel_rfl)) | refine And.intro rfl ?_ | (refine And.intro ?_ ?_; (focus (first | omega | decide | (dsimp only; omega) | (simp at *; omega))))); conv => whnf))
  all_goals first | contradiction | (exfalso; omega) | skip
  all_goals first | refine ⟨1, by decide, by decide, ?_⟩ | refine ⟨2, by decide, by decide, ?_⟩ | refine ⟨3, by decide, by decide, ?_⟩ | refine ⟨4, by decide, by decide, ?_⟩ | refine ⟨5, by decide, by decide, ?_⟩ | refine ⟨6, by decide, by decide, ?_⟩ | refine ⟨7, by decide, by decide, ?_⟩ | refine ⟨8, by decide, by decide, ?_⟩
  all_goals
   conv => whnf
   repeat (first | exact rfl | exact trivial | exact Or.inl (fun _ _ => rfl) | exact (fun _ => rfl) | exact (fun _ _ => rfl) | exact Or.inl (fun _ hi => absurd hi (Nat.not_lt_zero _)) | ((first | refine And.intro rfl ?_ | refine And.intro (Or.inl (fun _ _ => rfl)) ?_ | refine And.intro (fun _ => rfl) ?_ | refine And.intro (fun _ _ => rfl) ?_ | (refine And.intro ?_ ?_; rotate_left)); conv => whnf))
   all_goals first
    | (rw [shr_val _ _ hr, shl_val' _ _ (by omega)]; exact or_val (div_lt' (hV 0)) (Nat.mod_lt _ (by omega)) (q0 (by omega)) (hO 0))
    | (rw [shr_val _ _ hr, shl_val' _ _ (by omega)]; exact or_val (div_lt' (hV 1)) (Nat.mod_lt _ (by omega)) (q1 (by omega)) (hO 1))
    | (rw [shr_val _ _ hr, shl_val' _ _ (by omega)]; exact or_val (div_lt' (hV 2)) (Nat.mod_lt _ (by omega)) (q2 (by omega)) (hO 2))
    | (rw [shr_val _ _ hr, shl_val' _ _ (by omega)]; exact or_val (div_lt' (hV 3)) (Nat.mod_lt _ (by omega)) (q3 (by omega)) (hO 3))
    | (rw [shr_val _ _ hr, shl_val' _ _ (by omega)]; exact or_val (div_lt' (hV 4)) (Nat.mod_lt _ (by omega)) (q4 (by omega)) (hO 4))
    | (rw [shr_val _ _ hr, shl_val' _ _ (by omega)]; exact or_val (div_lt' (hV 5)) (Nat.mod_lt _ (by omega)) (q5 (by omega)) (hO 5))
    | (rw [shr_val _ _ hr, shl_val' _ _ (by omega)]; exact or_val (div_lt' (hV 6)) (Nat.mod_lt _ (by omega)) (q6 (by omega)) (hO 6))
    | (rw [shr_val _ _ hr]; exact congrArg Nat.cast (p0 (by omega)))
    | (rw [shr_val _ _ hr]; exact congrArg Nat.cast (p1 (by omega)))
    | (rw [shr_val _ _ hr]; exact congrArg Nat.cast (p2 (by omega)))
    | (rw [shr_val _ _ hr]; exact congrArg Nat.cast (p3 (by omega)))
    | (rw [shr_val _ _ hr]; exact congrArg Nat.cast (p4 (by omega)))
    | (rw [shr_val _ _ hr]; exact congrArg Nat.cast (p5 (by omega)))
    | (rw [shr_val _ _ hr]; exact congrArg Nat.cast (p6 (by omega)))
    | (rw [shr_val _ _ hr]; exact congrArg Nat.cast (p7 (by omega)))
    | trace_state
set_option maxRecDepth 100000 in
set_option maxHeartbeats 4000000 in
theorem wright_1 (V O : Nat → Nat) (hV : WordP V) (hO : WordP O) (z : Int) (r : Nat) (hr : r < 64) (hz : z = 64 * 1 + r)
  (o1 : ∀ i, ¬ (0 < r ∧ i + 1 + 1 < 8) → i + 1 < 8 → V (i + 1) / 2 ^ r = O i) (o2 : ∀ i, 0 < r → i + 1 + 1 < 8 → (V (i + 1) / 2 ^ r ||| V (i + 1 + 1) * 2 ^ (64 - r) % 18446744073709551616) = O i) :
  ACalls Tryz.prog G 178 [wideA V, .int .i64 z] (wideA (ups O 7)) := by
 have t1 : z.tdiv 64 = 1 := by rw [Int.tdiv_eq_ediv_of_nonneg (by omega)]; omega
 have t2 : z.tmod 64 = r := by rw [Int.tmod_eq_emod_of_nonneg (by omega)]; omega
 unfold wideA
 refine ACalls.of_WA ttok Tryz.func178 rfl rfl _ rfl ?_
 conv => whnf
 repeat' (first | ((rw [t1, t2]; conv => whnf)) | refine WA_seq ?_ | refine WA_block ?_ | ((first | refine WA_region ttok ?_ | refine WA_draw ttok mixed ?_ | refine WA_cond ?_ | refine WA_skip ?_ | refine WA_exit ?_ | refine WA_ret ?_); conv => whnf) | (refine And.intro (fun h => ?_) (fun h => ?_) <;> (try simp only [brsA] at h) <;> conv => whnf) | (refine WR_fit ?_ ?_; (focus (first | exact wr_i64 (by omega) | exact wr_u64 (by omega) | exact wr_u8 (by omega) | exact wr_i32 (by omega) | exact wr_u32 (by omega))); conv => whnf) | ((first | refine WR_wrap ?_ | (refine And.intro (a := indepB _ _ = true) ?_ ?_; (focus kernel_rfl)) | refine And.intro rfl ?_ | (refine And.intro ?_ ?_; (focus (first | omega | decide | (dsimp only; omega) | (simp at *; omega))))); conv => whnf))
 all_goals first | contradiction | (exfalso; omega) | skip
 refine WA_loopI (fun i : Nat => i ≤ 7) (fun i => [(15, .int .i64 (i : Int))]) (fun i => [bxF V, bxF (fun _ => 0), bxF (ups O i)]) (fun i => 7 - i) 0 (by omega) ?_ ?_
 ·conv => whnf
  repeat (first | exact rfl | exact trivial | exact Or.inl (fun _ _ => rfl) | exact (fun _ => rfl) | exact (fun _ _ => rfl) | exact Or.inl (fun _ hi => absurd hi (Nat.not_lt_zero _)) | ((first | refine And.intro rfl ?_ | refine And.intro (Or.inl (fun _ _ => rfl)) ?_ | refine And.intro (fun _ => rfl) ?_ | refine And.intro (fun _ _ => rfl) ?_ | (refine And.intro ?_ ?_; rotate_left)); conv => whnf))
 ·intro i hi
  have e : i = 0 ∨ i = 1 ∨ i = 2 ∨ i = 3 ∨ i = 4 ∨ i = 5 ∨ i = 6 ∨ i = 7 := by omega
  have p0 : ¬ (0 < r ∧ 2 < 8) → V 1 / 2 ^ r = O 0 := fun h => o1 0 h (by omega)
  have q0 : 0 < r → (V 1 / 2 ^ r ||| V 2 * 2 ^ (64 - r) % 18446744073709551616) = O 0 := fun h => o2 0 h (by omega)
  have p1 : ¬ (0 < r ∧ 3 < 8) → V 2 / 2 ^ r = O 1 := fun h => o1 1 h (by omega)
  have q1 : 0 < r → (V 2 / 2 ^ r ||| V 3 * 2 ^ (64 - r) % 18446744073709551616) = O 1 := fun h => o2 1 h (by omega)
  have p2 : ¬ (0 < r ∧ 4 < 8) → V 3 / 2 ^ r = O 2 := fun h => o1 2 h (by omega)
  have q2 : 0 < r → (V 3 / 2 ^ r ||| V 4 * 2 ^ (64 - r) % 18446744073709551616) = O 2 := fun h => o2 2 h (by omega)
  have p3 : ¬ (0 < r ∧ 5 < 8) → V 4 / 2 ^ r = O 3 := fun h => o1 3 h (by omega)
  have q3 : 0 < r → (V 4 / 2 ^ r ||| V 5 * 2 ^ (64 - r) % 18446744073709551616) = O 3 := fun h => o2 3 h (by omega)
  have p4 : ¬ (0 < r ∧ 6 < 8) → V 5 / 2 ^ r = O 4 := fun h => o1 4 h (by omega)
  have q4 : 0 < r → (V 5 / 2 ^ r ||| V 6 * 2 ^ (64 - r) % 18446744073709551616) = O 4 := fun h => o2 4 h (by omega)
  have p5 : ¬ (0 < r ∧ 7 < 8) → V 6 / 2 ^ r = O 5 := fun h => o1 5 h (by omega)
  have q5 : 0 < r → (V 6 / 2 ^ r ||| V 7 * 2 ^ (64 - r) % 18446744073709551616) = O 5 := fun h => o2 5 h (by omega)
  have p6 : ¬ (0 < r ∧ 8 < 8) → V 7 / 2 ^ r = O 6 := fun h => o1 6 h (by omega)
  clear o1 o2
  rcases e with rfl | rfl | rfl | rfl | rfl | rfl | rfl | rfl
  all_goals
   conv => whnf
   repeat' (first | refine WA_seq ?_ | refine WA_block ?_ | ((first | refine WA_region ttok ?_ | refine WA_draw ttok mixed ?_ | refine WA_cond ?_ | refine WA_skip ?_ | refine WA_exit ?_ | refine WA_ret ?_); conv => whnf) | (refine And.intro (fun h => ?_) (fun h => ?_) <;> (try simp only [brsA] at h) <;> conv => whnf) | (refine WR_fit ?_ ?_; (focus (first | exact wr_i64 (by omega) | exact wr_u64 (by omega) | exact wr_u8 (by omega) | exact wr_i32 (by omega) | exact wr_u32 (by omega))); conv => whnf) | ((first | refine WR_wrap ?_ | (refine And.intro (a := indepB _ _ = true) ?_ ?_; (focus kernel_rfl)) | refine And.intro rfl ?_ | (refine And.intro ?_ ?_; (focus (first | omega | decide | (dsimp only; omega) | (simp at *; omega))))); conv => whnf))
  all_goals first | contradiction | (exfalso; omega) | skip
  all_goals first | refine ⟨1, by decide, by decide, ?_⟩ | refine ⟨2, by decide, by decide, ?_⟩ | refine ⟨3, by decide, by decide, ?_⟩ | refine ⟨4, by decide, by decide, ?_⟩ | refine ⟨5, by decide, by decide, ?_⟩ | refine ⟨6, by decide, by decide, ?_⟩ | refine ⟨7, by decide, by decide, ?_⟩
  all_goals
   conv => whnf
   repeat (first | exact rfl | exact trivial | exact Or.inl (fun _ _ => rfl) | exact (fun _ => rfl) | exact (fun _ _ => rfl) | exact Or.inl (fun _ hi => absurd hi (Nat.not_lt_zero _)) | ((first | refine And.intro rfl ?_ | refine And.intro (Or.inl (fun _ _ => rfl)) ?_ | refine And.intro (fun _ => rfl) ?_ | refine And.intro (fun _ _ => rfl) ?_ | (refine And.intro ?_ ?_; rotate_left)); conv => whnf))
   all_goals first
    | (rw [shr_val _ _ hr, shl_val' _ _ (by omega)]; exact or_val (div_lt' (hV 1)) (Nat.mod_lt _ (by omega)) (q0 (by omega)) (hO 0))
    | (rw [shr_val _ _ hr, shl_val' _ _ (by omega)]; exact or_val (div_lt' (hV 2)) (Nat.mod_lt _ (by omega)) (q1 (by omega)) (hO 1))
    | (rw [shr_val _ _ hr, shl_val' _ _ (by omega)]; exact or_val (div_lt' (hV 3)) (Nat.mod_lt _ (by omega)) (q2 (by omega)) (hO 2))
    | (rw [shr_val _ _ hr, shl_val' _ _ (by omega)]; exact or_val (div_lt' (hV 4)) (Nat.mod_lt _ (by omega)) (q3 (by omega)) (hO 3))
    | (rw [shr_val _ _ hr, shl_val' _ _ (by omega)]; exact or_val (div_lt' (hV 5)) (Nat.mod_lt _ (by omega)) (q4 (by omega)) (hO 4))
    | (rw [shr_val _ _ hr, shl_val' _ _ (by omega)]; exact or_val (div_lt' (hV 6)) (Nat.mod_lt _ (by omega)) (q5 (by omega)) (hO 5))
    | (rw [shr_val _ _ hr]; exact congrArg Nat.cast (p0 (by omega)))
    | (rw [shr_val _ _ hr]; exact congrArg Nat.cast (p1 (by omega)))
    | (rw [shr_val _ _ hr]; exact congrArg Nat.cast (p2 (by omega)))
    | (rw [shr_val _ _ hr]; exact congrArg Nat.cast (p3 (by omega)))
    | (rw [shr_val _ _ hr]; exact congrArg Nat.cast (p4 (by omega)))
    | (rw [shr_val _ _ hr]; exact congrArg Nat.cast (p5 (by omega)))
    | (rw [shr_val _ _ hr]; exact congrArg Nat.cast (p6 (by omega)))
    | trace_state
theorem rightN_c (v n : Nat) (hv : v < 65536 ^ 32) (hn : n < 128) : ACalls Tryz.prog G 178 [wideN v, .int .i64 (n : Int)] (wideN (v / 2 ^ n)) := by
 have hv' := hv
 by_cases h : n < 64
 ·have g := wright_0 (G := G) (wW v) (wW (v / 2 ^ n)) (wW_ok v) (wW_ok _) (n : Int) n h (by omega)
   (fun i h1 h2 => by have := right_a (q := 0) hv' h h1 h2; rw [show 64 * 0 + n = n by omega] at this; exact this)
   (fun i h1 h2 => by have := right_b (v := v) (q := 0) (i := i) h h1; rw [show 64 * 0 + n = n by omega] at this; exact this)
  exact g
 ·have e : 64 * 1 + (n - 64) = n := by omega
  have g := wright_1 (G := G) (wW v) (wW (v / 2 ^ n)) (wW_ok v) (wW_ok _) (n : Int) (n - 64) (by omega) (by omega)
   (fun i h1 h2 => by have := right_a (q := 1) hv' (show n - 64 < 64 by omega) h1 h2; rw [e] at this; exact this)
   (fun i h1 h2 => by have := right_b (v := v) (q := 1) (i := i) (show n - 64 < 64 by omega) h1; rw [e] at this; exact this)
  have z : wW (v / 2 ^ n) 7 = 0 := by have := right_c (v := v) (q := 1) (r := n - 64) (i := 7) hv' (by omega); rw [e] at this; exact this
  have ew : wideA (ups (wW (v / 2 ^ n)) 7) = wideN (v / 2 ^ n) := by
   unfold wideN wideA
   rw [z]; rfl
  rw [ew] at g
  exact g
end Go.Proofs.YtcomiiakkhafpaaGreat
namespace Go.Proofs.YtcomiiakkhafpaaGreat
open Go.Proofs.YtcomiiakkhafpaaGreat.Am
variable [Inhabited DRT]
variable {G : GInv}
def dnl (O : Nat → Nat) (q i j : Nat) : Nat := if q ≤ j ∧ j < i then O j else 0
set_option maxRecDepth 100000 in
set_option maxHeartbeats 4000000 in
theorem wleft_0 (V O : Nat → Nat) (hV : WordP V) (hO : WordP O) (z : Int) (r : Nat) (hr : r < 64) (hz : z = 64 * 0 + r)
  (o1 : ∀ i, ¬ (0 < r ∧ 0 < i) → 0 ≤ i → V (i - 0) * 2 ^ r % 18446744073709551616 = O i) (o2 : ∀ i, 0 < r → 0 < i → (V (i - 0) * 2 ^ r % 18446744073709551616 ||| V (i - 0 - 1) / 2 ^ (64 - r)) = O i) :
  ACalls Tryz.prog G 179 [wideA V, .int .i64 z] (wideA (dnl O 0 8)) := by
 have t1 : z.tdiv 64 = 0 := by rw [Int.tdiv_eq_ediv_of_nonneg (by omega)]; omega
 have t2 : z.tmod 64 = r := by rw [Int.tmod_eq_emod_of_nonneg (by omega)]; omega
 unfold wideA
 refine ACalls.of_WA ttok Tryz.func179 rfl rfl _ rfl ?_
 conv => whnf
 repeat' (first | ((rw [t1, t2]; conv => whnf)) | refine WA_seq ?_ | refine WA_block ?_ | ((first | refine WA_region ttok ?_ | refine WA_draw ttok mixed ?_ | refine WA_cond ?_ | refine WA_skip ?_ | refine WA_exit ?_ | refine WA_ret ?_); conv => whnf) | (refine And.intro (fun h => ?_) (fun h => ?_) <;> (try simp only [brsA] at h) <;> conv => whnf) | (refine WR_fit ?_ ?_; (focus (first | exact wr_i64 (by omega) | exact wr_u64 (by omega) | exact wr_u8 (by omega) | exact wr_i32 (by omega) | exact wr_u32 (by omega))); conv => whnf) | ((first | refine WR_wrap ?_ | (refine And.intro (a := indepB _ _ = true) ?_ ?_; (focus kernel_rfl)) | refine And.intro rfl ?_ | (refine And.intro ?_ ?_; (focus (first | omega | decide | (dsimp only; omega) | (simp at *; omega))))); conv => whnf))
 all_goals first | contradiction | (exfalso; omega) | skip
 refine WA_loopI (fun i : Nat => 0 ≤ i ∧ i ≤ 8) (fun i => [(8, .int .i64 (i : Int))]) (fun i => [bxF V, bxF (fun _ => 0), bxF (dnl O 0 i)]) (fun i => 8 - i) 0 ⟨by omega, by omega⟩ ?_ ?_
 ·conv => whnf
  repeat (first | exact rfl | exact trivial | exact Or.inl (fun _ _ => rfl) | exact (fun _ => rfl) | exact (fun _ _ => rfl) | exact Or.inl (fun _ hi => absurd hi (Nat.not_lt_zero _)) | ((first | refine And.intro rfl ?_ | refine And.intro (Or.inl (fun _ _ => rfl)) ?_ | refine And.intro (fun _ => rfl) ?_ | refine And.intro (fun _ _ => rfl) ?_ | (refine And.intro ?_ ?_; rotate_left)); conv => whnf))
 ·rintro i ⟨hi1, hi⟩
  have e : i = 0 ∨ i = 1 ∨ i = 2 ∨ i = 3 ∨ i = 4 ∨ i = 5 ∨ i = 6 ∨ i = 7 ∨ i = 8 := by omega
  have p0 : ¬ (0 < r ∧ 0 < 0) → V 0 * 2 ^ r % 18446744073709551616 = O 0 := fun h => o1 0 h (by omega)
  have p1 : ¬ (0 < r ∧ 0 < 1) → V 1 * 2 ^ r % 18446744073709551616 = O 1 := fun h => o1 1 h (by omega)
  have q1 : 0 < r → (V 1 * 2 ^ r % 18446744073709551616 ||| V 0 / 2 ^ (64 - r)) = O 1 := fun h => o2 1 h (by omega)
  have p2 : ¬ (0 < r ∧ 0 < 2) → V 2 * 2 ^ r % 18446744073709551616 = O 2 := fun h => o1 2 h (by omega)
  have q2 : 0 < r → (V 2 * 2 ^ r % 18446744073709551616 ||| V 1 / 2 ^ (64 - r)) = O 2 := fun h => o2 2 h (by omega)
  have p3 : ¬ (0 < r ∧ 0 < 3) → V 3 * 2 ^ r % 18446744073709551616 = O 3 := fun h => o1 3 h (by omega)
  have q3 : 0 < r → (V 3 * 2 ^ r % 18446744073709551616 ||| V 2 / 2 ^ (64 - r)) = O 3 := fun h => o2 3 h (by omega)
  have p4 : ¬ (0 < r ∧ 0 < 4) → V 4 * 2 ^ r % 18446744073709551616 = O 4 := fun h => o1 4 h (by omega)
  have q4 : 0 < r → (V 4 * 2 ^ r % 18446744073709551616 ||| V 3 / 2 ^ (64 - r)) = O 4 := fun h => o2 4 h (by omega)
  have p5 : ¬ (0 < r ∧ 0 < 5) → V 5 * 2 ^ r % 18446744073709551616 = O 5 := fun h => o1 5 h (by omega)
  have q5 : 0 < r → (V 5 * 2 ^ r % 18446744073709551616 ||| V 4 / 2 ^ (64 - r)) = O 5 := fun h => o2 5 h (by omega)
  have p6 : ¬ (0 < r ∧ 0 < 6) → V 6 * 2 ^ r % 18446744073709551616 = O 6 := fun h => o1 6 h (by omega)
  have q6 : 0 < r → (V 6 * 2 ^ r % 18446744073709551616 ||| V 5 / 2 ^ (64 - r)) = O 6 := fun h => o2 6 h (by omega)
  have p7 : ¬ (0 < r ∧ 0 < 7) → V 7 * 2 ^ r % 18446744073709551616 = O 7 := fun h => o1 7 h (by omega)
  have q7 : 0 < r → (V 7 * 2 ^ r % 18446744073709551616 ||| V 6 / 2 ^ (64 - r)) = O 7 := fun h => o2 7 h (by omega)
  clear o1 o2
  rcases e with rfl | rfl | rfl | rfl | rfl | rfl | rfl | rfl | rfl
  all_goals
   conv => whnf
   repeat' (first | refine WA_seq ?_ | refine WA_block ?_ | ((first | refine WA_region ttok ?_ | refine WA_draw ttok mixed ?_ | refine WA_cond ?_ | refine WA_skip ?_ | refine WA_exit ?_ | refine WA_ret ?_); conv => whnf) | (refine And.intro (fun h => ?_) (fun h => ?_) <;> (try simp only [brsA] at h) <;> conv => whnf) | (refine WR_fit ?_ ?_; (focus (first | exact wr_i64 (by omega) | exact wr_u64 (by omega) | exact wr_u8 (by omega) | exact wr_i32 (by omega) | exact wr_u32 (by omega))); conv => whnf) | ((first | refine WR_wrap ?_ | (refine And.intro (a := indepB _ _ = true) ?_ ?_; (focus kernel_rfl)) | refine And.intro rfl ?_ | (refine And.intro ?_ ?_; (focus (first | omega | decide | (dsimp only; omega) | (simp at *; omega))))); conv => whnf))
  all_goals first | contradiction | (exfalso; omega) | skip
  all_goals first | refine ⟨1, ⟨by decide, by decide⟩, by decide, ?_⟩ | refine ⟨2, ⟨by decide, by decide⟩, by decide, ?_⟩ | refine ⟨3, ⟨by decide, by decide⟩, by decide, ?_⟩ | refine ⟨4, ⟨by decide, by decide⟩, by decide, ?_⟩ | refine ⟨5, ⟨by decide, by decide⟩, by decide, ?_⟩ | refine ⟨6, ⟨by decide, by decide⟩, by decide, ?_⟩ | refine ⟨7, ⟨by decide, by decide⟩, by decide, ?_⟩ | refine ⟨8, ⟨by decide, by decide⟩, by decide, ?_⟩
  all_goals
   conv => whnf
   repeat (first | exact rfl | exact trivial | exact Or.inl (fun _ _ => rfl) | exact (fun _ => rfl) | exact (fun _ _ => rfl) | exact Or.inl (fun _ hi => absurd hi (Nat.not_lt_zero _)) | ((first | refine And.intro rfl ?_ | refine And.intro (Or.inl (fun _ _ => rfl)) ?_ | refine And.intro (fun _ => rfl) ?_ | refine And.intro (fun _ _ => rfl) ?_ | (refine And.intro ?_ ?_; rotate_left)); conv => whnf))
   all_goals first
    | (rw [shl_val _ _ hr, shr_val' _ _ (by omega)]; exact or_val (Nat.mod_lt _ (by omega)) (div_lt' (hV 0)) (q1 (by omega)) (hO 1))
    | (rw [shl_val _ _ hr, shr_val' _ _ (by omega)]; exact or_val (Nat.mod_lt _ (by omega)) (div_lt' (hV 1)) (q2 (by omega)) (hO 2))
    | (rw [shl_val _ _ hr, shr_val' _ _ (by omega)]; exact or_val (Nat.mod_lt _ (by omega)) (div_lt' (hV 2)) (q3 (by omega)) (hO 3))
    | (rw [shl_val _ _ hr, shr_val' _ _ (by omega)]; exact or_val (Nat.mod_lt _ (by omega)) (div_lt' (hV 3)) (q4 (by omega)) (hO 4))
    | (rw [shl_val _ _ hr, shr_val' _ _ (by omega)]; exact or_val (Nat.mod_lt _ (by omega)) (div_lt' (hV 4)) (q5 (by omega)) (hO 5))
    | (rw [shl_val _ _ hr, shr_val' _ _ (by omega)]; exact or_val (Nat.mod_lt _ (by omega)) (div_lt' (hV 5)) (q6 (by omega)) (hO 6))
    | (rw [shl_val _ _ hr, shr_val' _ _ (by omega)]; exact or_val (Nat.mod_lt _ (by omega)) (div_lt' (hV 6)) (q7 (by omega)) (hO 7))
    | (rw [shl_val _ _ hr]; exact congrArg Nat.cast (p0 (by omega)))
    | (rw [shl_val _ _ hr]; exact congrArg Nat.cast (p1 (by omega)))
    | (rw [shl_val _ _ hr]; exact congrArg Nat.cast (p2 (by omega)))
    | (rw [shl_val _ _ hr]; exact congrArg Nat.cast (p3 (by omega)))
    | (rw [shl_val _ _ hr]; exact congrArg Nat.cast (p4 (by omega)))
    | (rw [shl_val _ _ hr]; exact congrArg Nat.cast (p5 (by omega)))
    | (rw [shl_val _ _ hr]; exact congrArg Nat.cast (p6 (by omega)))
    | (rw [shl_val _ _ hr]; exact congrArg Nat.cast (p7 (by omega)))
    | trace_state
set_option maxRecDepth 100000 in
set_option maxHeartbeats 4000000 in
theorem wleft_1 (V O : Nat → Nat) (hV : WordP V) (hO : WordP O) (z : Int) (r : Nat) (hr : r < 64) (hz : z = 64 * 1 + r)
  (o1 : ∀ i, ¬ (0 < r ∧ 1 < i) → 1 ≤ i → V (i - 1) * 2 ^ r % 18446744073709551616 = O i) (o2 : ∀ i, 0 < r → 1 < i → (V (i - 1) * 2 ^ r % 18446744073709551616 ||| V (i - 1 - 1) / 2 ^ (64 - r)) = O i) :
  ACalls Tryz.prog G 179 [wideA V, .int .i64 z] (wideA (dnl O 1 8)) := by
 have t1 : z.tdiv 64 = 1 := by rw [Int.tdiv_eq_ediv_of_nonneg (by omega)]; omega
 have t2 : z.tmod 64 = r := by rw [Int.tmod_eq_emod_of_nonneg (by omega)]; omega
 unfold wideA
 refine ACalls.of_WA ttok Tryz.func179 rfl rfl _ rfl ?_
 conv => whnf
 repeat' (first | ((rw [t1, t2]; conv => whnf)) | refine WA_seq ?_ | refine WA_block ?_ | ((first | refine WA_region ttok ?_ | refine WA_draw ttok mixed ?_ | refine WA_cond ?_ | refine WA_skip ?_ | refine WA_exit ?_ | refine WA_ret ?_); conv => whnf) | (refine And.intro (fun h => ?_) (fun h => ?_) <;> (try simp only [brsA] at h) <;> conv => whnf) | (refine WR_fit ?_ ?_; (focus (first | exact wr_i64 (by omega) | exact wr_u64 (by omega) | exact wr_u8 (by omega) | exact wr_i32 (by omega) | exact wr_u32 (by omega))); conv => whnf) | ((first | refine WR_wrap ?_ | (refine And.intro (a := indepB _ _ = true) ?_ ?_; (focus kernel_rfl)) | refine And.intro rfl ?_ | (refine And.intro ?_ ?_; (focus (first | omega | decide | (dsimp only; omega) | (simp at *; omega))))); conv => whnf))
 all_goals first | contradiction | (exfalso; omega) | skip
 refine WA_loopI (fun i : Nat => 1 ≤ i ∧ i ≤ 8) (fun i => [(8, .int .i64 (i : Int))]) (fun i => [bxF V, bxF (fun _ => 0), bxF (dnl O 1 i)]) (fun i => 8 - i) 1 ⟨by omega, by omega⟩ ?_ ?_
 ·conv => whnf
  repeat (first | exact rfl | exact trivial | exact Or.inl (fun _ _ => rfl) | exact (fun _ => rfl) | exact (fun _ _ => rfl) | exact Or.inl (fun _ hi => absurd hi (Nat.not_lt_zero _)) | ((first | refine And.intro rfl ?_ | refine And.intro (Or.inl (fun _ _ => rfl)) ?_ | refine And.intro (fun _ => rfl) ?_ | refine And.intro (fun _ _ => rfl) ?_ | (refine And.intro ?_ ?_; rotate_left)); conv => whnf))
 ·rintro i ⟨hi1, hi⟩
  have e : i = 1 ∨ i = 2 ∨ i = 3 ∨ i = 4 ∨ i = 5 ∨ i = 6 ∨ i = 7 ∨ i = 8 := by omega
  have p1 : ¬ (0 < r ∧ 1 < 1) → V 0 * 2 ^ r % 18446744073709551616 = O 1 := fun h => o1 1 h (by omega)
  have p2 : ¬ (0 < r ∧ 1 < 2) → V 1 * 2 ^ r % 18446744073709551616 = O 2 := fun h => o1 2 h (by omega)
  have q2 : 0 < r → (V 1 * 2 ^ r % 18446744073709551616 ||| V 0 / 2 ^ (64 - r)) = O 2 := fun h => o2 2 h (by omega)
  have p3 : ¬ (0 < r ∧ 1 < 3) → V 2 * 2 ^ r % 18446744073709551616 = O 3 := fun h => o1 3 h (by omega)
  have q3 : 0 < r → (V 2 * 2 ^ r % 18446744073709551616 ||| V 1 / 2 ^ (64 - r)) = O 3 := fun h => o2 3 h (by omega)
  have p4 : ¬ (0 < r ∧ 1 < 4) → V 3 * 2 ^ r % 18446744073709551616 = O 4 := fun h => o1 4 h (by omega)
  have q4 : 0 < r → (V 3 * 2 ^ r % 18446744073709551616 ||| V 2 / 2 ^ (64 - r)) = O 4 := fun h => o2 4 h (by omega)
  have p5 : ¬ (0 < r ∧ 1 < 5) → V 4 * 2 ^ r % 18446744073709551616 = O 5 := fun h => o1 5 h (by omega)
  have q5 : 0 < r → (V 4 * 2 ^ r % 18446744073709551616 ||| V 3 / 2 ^ (64 - r)) = O 5 := fun h => o2 5 h (by omega)
  have p6 : ¬ (0 < r ∧ 1 < 6) → V 5 * 2 ^ r % 18446744073709551616 = O 6 := fun h => o1 6 h (by omega)
  have q6 : 0 < r → (V 5 * 2 ^ r % 18446744073709551616 ||| V 4 / 2 ^ (64 - r)) = O 6 := fun h => o2 6 h (by omega)
  have p7 : ¬ (0 < r ∧ 1 < 7) → V 6 * 2 ^ r % 18446744073709551616 = O 7 := fun h => o1 7 h (by omega)
  have q7 : 0 < r → (V 6 * 2 ^ r % 18446744073709551616 ||| V 5 / 2 ^ (64 - r)) = O 7 := fun h => o2 7 h (by omega)
  clear o1 o2
  rcases e with rfl | rfl | rfl | rfl | rfl | rfl | rfl | rfl
  all_goals
   conv => whnf
   repeat' (first | refine WA_seq ?_ | refine WA_block ?_ | ((first | refine WA_region ttok ?_ | refine WA_draw ttok mixed ?_ | refine WA_cond ?_ | refine WA_skip ?_ | refine WA_exit ?_ | refine WA_ret ?_); conv => whnf) | (refine And.intro (fun h => ?_) (fun h => ?_) <;> (try simp only [brsA] at h) <;> conv => whnf) | (refine WR_fit ?_ ?_; (focus (first | exact wr_i64 (by omega) | exact wr_u64 (by omega) | exact wr_u8 (by omega) | exact wr_i32 (by omega) | exact wr_u32 (by omega))); conv => whnf) | ((first | refine WR_wrap ?_ | (refine And.intro (a := indepB _ _ = true) ?_ ?_; (focus kernel_rfl)) | refine And.intro rfl ?_ | (refine And.intro ?_ ?_; (focus (first | omega | decide | (dsimp only; omega) | (simp at *; omega))))); conv => whnf))
  all_goals first | contradiction | (exfalso; omega) | skip
  all_goals first | refine ⟨2, ⟨by decide, by decide⟩, by decide, ?_⟩ | refine ⟨3, ⟨by decide, by decide⟩, by decide, ?_⟩ | refine ⟨4, ⟨by decide, by decide⟩, by decide, ?_⟩ | refine ⟨5, ⟨by decide, by decide⟩, by decide, ?_⟩ | refine ⟨6, ⟨by decide, by decide⟩, by decide, ?_⟩ | refine ⟨7, ⟨by decide, by decide⟩, by decide, ?_⟩ | refine ⟨8, ⟨by decide, by decide⟩, by decide, ?_⟩
  all_goals
   conv => whnf
   repeat (first | exact rfl | exact trivial | exact Or.inl (fun _ _ => rfl) | exact (fun _ => rfl) | exact (fun _ _ => rfl) | exact Or.inl (fun _ hi => absurd hi (Nat.not_lt_zero _)) | ((first | refine And.intro rfl ?_ | refine And.intro (Or.inl (fun _ _ => rfl)) ?_ | refine And.intro (fun _ => rfl) ?_ | refine And.intro (fun _ _ => rfl) ?_ | (refine And.intro ?_ ?_; rotate_left)); conv => whnf))
   all_goals first
    | (rw [shl_val _ _ hr, shr_val' _ _ (by omega)]; exact or_val (Nat.mod_lt _ (by omega)) (div_lt' (hV 0)) (q2 (by omega)) (hO 2))
    | (rw [shl_val _ _ hr, shr_val' _ _ (by omega)]; exact or_val (Nat.mod_lt _ (by omega)) (div_lt' (hV 1)) (q3 (by omega)) (hO 3))
    | (rw [shl_val _ _ hr, shr_val' _ _ (by omega)]; exact or_val (Nat.mod_lt _ (by omega)) (div_lt' (hV 2)) (q4 (by omega)) (hO 4))
    | (rw [shl_val _ _ hr, shr_val' _ _ (by omega)]; exact or_val (Nat.mod_lt _ (by omega)) (div_lt' (hV 3)) (q5 (by omega)) (hO 5))
    | (rw [shl_val _ _ hr, shr_val' _ _ (by omega)]; exact or_val (Nat.mod_lt _ (by omega)) (div_lt' (hV 4)) (q6 (by omega)) (hO 6))
    | (rw [shl_val _ _ hr, shr_val' _ _ (by omega)]; exact or_val (Nat.mod_lt _ (by omega)) (div_lt' (hV 5)) (q7 (by omega)) (hO 7))
    | (rw [shl_val _ _ hr]; exact congrArg Nat.cast (p1 (by omega)))
    | (rw [shl_val _ _ hr]; exact congrArg Nat.cast (p2 (by omega)))
    | (rw [shl_val _ _ hr]; exact congrArg Nat.cast (p3 (by omega)))
    | (rw [shl_val _ _ hr]; exact congrArg Nat.cast (p4 (by omega)))
    | (rw [shl_val _ _ hr]; exact congrArg Nat.cast (p5 (by omega)))
    | (rw [shl_val _ _ hr]; exact congrArg Nat.cast (p6 (by omega)))
    | (rw [shl_val _ _ hr]; exact congrArg Nat.cast (p7 (by omega)))
    | trace_state
theorem leftN_c (v n : Nat) (hn : n < 128) : ACalls Tryz.prog G 179 [wideN v, .int .i64 (n : Int)] (wideN (v * 2 ^ n)) := by
 by_cases h : n < 64
 ·have g := wleft_0 (G := G) (wW v) (wW (v * 2 ^ n)) (wW_ok v) (wW_ok _) (n : Int) n h (by omega)
   (fun i h1 h2 => by have := left_a (v := v) (q := 0) h1 h2; rw [show 64 * 0 + n = n by omega] at this; exact this)
   (fun i h1 h2 => by have := left_b (v := v) (q := 0) (i := i) h h1 h2; rw [show 64 * 0 + n = n by omega] at this; exact this)
  exact g
 ·have e : 64 * 1 + (n - 64) = n := by omega
  have g := wleft_1 (G := G) (wW v) (wW (v * 2 ^ n)) (wW_ok v) (wW_ok _) (n : Int) (n - 64) (by omega) (by omega)
   (fun i h1 h2 => by have := left_a (v := v) (q := 1) h1 h2; rw [e] at this; exact this)
   (fun i h1 h2 => by have := left_b (v := v) (q := 1) (i := i) (show n - 64 < 64 by omega) h1 h2; rw [e] at this; exact this)
  have z : wW (v * 2 ^ n) 0 = 0 := by have := left_c (v := v) (q := 1) (r := n - 64) (i := 0) (by omega); rw [e] at this; exact this
  have ew : wideA (dnl (wW (v * 2 ^ n)) 1 8) = wideN (v * 2 ^ n) := by
   unfold wideN wideA
   rw [z]; rfl
  rw [ew] at g
  exact g
end Go.Proofs.YtcomiiakkhafpaaGreat
namespace Go.Proofs.YtcomiiakkhafpaaGreat
open Go.Proofs.YtcomiiakkhafpaaGreat.Am
variable [Inhabited DRT]
variable {G : GInv}
/-! ### wide.Shift -/
set_option maxRecDepth 100000 in
theorem shiftL_c (v n : Nat) (hn : n < 128) : ACalls Tryz.prog G 141 [wideN v, .int .i64 (n : Int)] (wideN (v * 2 ^ n)) := by
 have c := leftN_c (G := G) v n hn
 have hm : (if (n : Int) < -512 then (-512 : Int) else (n : Int)) = n := if_neg (by omega)
 have hm2 : (if (512 : Int) < (n : Int) then (512 : Int) else (n : Int)) = n := if_neg (by omega)
 unfold wideN wideA at *
 generalize wW v = V at *
 generalize wW (v * 2 ^ n) = U at *
 refine ACalls.of_WA ttok Tryz.func141 rfl rfl _ rfl ?_
 conv => whnf
 repeat' (first | ((rw [hm, hm2]; conv => whnf)) | ((rw [hm]; conv => whnf)) | ((rw [hm2]; conv => whnf)) | refine sq ?_ | refine bk ?_ | ((first | refine rg ttok ?_ | refine dw ttok mixed ?_ | refine cd ?_ | refine sk ?_ | refine xt ?_ | refine rt ?_); conv => whnf) | (refine And.intro (fun h => ?_) (fun h => ?_) <;> (try simp only [brsA] at h) <;> conv => whnf) | ((first | refine Or.inl ?_ | skip); (conv => whnf); refine ⟨_, c, ?_⟩; conv => whnf) | ((first | refine wf ?_ | refine wp' ?_ | refine ai ?_ | refine And.intro rfl ?_ | refine an ?_); conv => whnf))
 all_goals first | contradiction | (exfalso; omega) | skip
 all_goals trace_state
set_option maxRecDepth 100000 in
theorem shiftR_c (v n : Nat) (hv : v < 65536 ^ 32) (hn : n < 128) : ACalls Tryz.prog G 141 [wideN v, .int .i64 (-(n : Int))] (wideN (v / 2 ^ n)) := by
 by_cases h0 : n = 0
 ·subst h0
  have := shiftL_c (G := G) v 0 (by omega)
  rw [Nat.pow_zero, Nat.mul_one] at this
  rw [Nat.pow_zero, Nat.div_one]
  exact this
 ·have c := rightN_c (G := G) v n hv hn
  have hm : (if -(n : Int) < -512 then (-512 : Int) else -(n : Int)) = -(n : Int) := if_neg (by omega)
  have hm2 : (if (512 : Int) < -(n : Int) then (512 : Int) else -(n : Int)) = -(n : Int) := if_neg (by omega)
  have hnn : -(-(n : Int)) = n := by omega
  clear hv
  unfold wideN wideA at *
  generalize wW v = V at *
  generalize wW (v / 2 ^ n) = U at *
  refine ACalls.of_WA ttok Tryz.func141 rfl rfl _ rfl ?_
  conv => whnf
  repeat' (first | ((rw [hm, hm2]; conv => whnf)) | ((rw [hm]; conv => whnf)) | ((rw [hm2]; conv => whnf)) | ((rw [hnn]; conv => whnf)) | refine sq ?_ | refine bk ?_ | ((first | refine rg ttok ?_ | refine dw ttok mixed ?_ | refine cd ?_ | refine sk ?_ | refine xt ?_ | refine rt ?_); conv => whnf) | (refine And.intro (fun h => ?_) (fun h => ?_) <;> (try simp only [brsA] at h) <;> conv => whnf) | ((first | refine Or.inl ?_ | skip); (conv => whnf); refine ⟨_, c, ?_⟩; conv => whnf) | ((first | refine wf ?_ | refine wp' ?_ | refine ai ?_ | refine And.intro rfl ?_ | refine an ?_); conv => whnf))
  all_goals first | contradiction | (exfalso; omega) | skip
  all_goals trace_state
end Go.Proofs.YtcomiiakkhafpaaGreat

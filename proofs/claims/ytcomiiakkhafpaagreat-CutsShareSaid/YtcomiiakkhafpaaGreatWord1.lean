/-
  Words: products, lengths and quotients of two words by one.
-/
import Derived.Lib.Mul64
import Derived.Test.YtcomiiakkhafpaaGreatMeet3
import Derived.Laws.Bits64b
import Derived.Test.YtcomiiakkhafpaaGreatRef3
/-! The arithmetic under a division of two words by one (math/bits.Div64: Knuth's algorithm D with halves). -/
namespace Go.D64
/-- One digit of the quotient: what the loop keeps. -/
structure Inv (y1 y0 u u0 q r : Nat) : Prop where
 sum : q * y1 + r = u
 ge : (u * 4294967296 + u0) / (y1 * 4294967296 + y0) ≤ q
 le : q ≤ 4294967297
theorem inv_init {y1 y0 u u0 : Nat} (h1 : 2147483648 ≤ y1) (h2 : y1 < 4294967296) (h3 : y0 < 4294967296) (hu : u < y1 * 4294967296 + y0) (h0 : u0 < 4294967296) :
  Inv y1 y0 u u0 (u / y1) (u - u / y1 * y1) ∧ u - u / y1 * y1 < y1 := by
 have e := Nat.div_add_mod' u y1
 have hm := Nat.mod_lt u (show 0 < y1 by omega)
 refine ⟨⟨by omega, ?_, ?_⟩, by omega⟩
 ·rw [Nat.div_le_iff_le_mul_add_pred (by omega)]
  have hle : u ≤ y1 * (u / y1) + (y1 - 1) := by rw [Nat.mul_comm y1]; omega
  have e2 : (y1 * 4294967296 + y0) * (u / y1) = y1 * (u / y1) * 4294967296 + y0 * (u / y1) := by rw [Nat.add_mul, Nat.mul_right_comm]
  rw [e2]
  have : 0 ≤ y0 * (u / y1) := Nat.zero_le _
  generalize y1 * (u / y1) = z at *
  generalize y0 * (u / y1) = z' at *
  omega
 ·have : u < y1 * 4294967298 := Nat.lt_of_lt_of_le hu (by clear e hm hu; omega)
  have := Nat.div_lt_of_lt_mul this
  clear e hm hu
  omega
/-- The digit is too great. -/
theorem inv_next {y1 y0 u u0 q r : Nat} (_h1 : 2147483648 ≤ y1) (_h3 : y0 < 4294967296) (hu : u < y1 * 4294967296 + y0) (h0 : u0 < 4294967296) (h : Inv y1 y0 u u0 q r)
  (hc : 4294967296 ≤ q ∨ 4294967296 * r + u0 < q * y0) : 0 < q ∧ Inv y1 y0 u u0 (q - 1) (r + y1) ∧ q - 1 ≤ 4294967296 := by
 obtain ⟨hs, hg, hl⟩ := h
 have hy : 0 < y1 * 4294967296 + y0 := by omega
 have hlt : (u * 4294967296 + u0) / (y1 * 4294967296 + y0) < q := by
  rcases hc with hc | hc
  ·refine Nat.lt_of_lt_of_le ?_ hc
   rw [Nat.div_lt_iff_lt_mul hy]
   omega
  ·rw [Nat.div_lt_iff_lt_mul hy]
   have e2 : q * (y1 * 4294967296 + y0) = q * y1 * 4294967296 + q * y0 := by rw [Nat.mul_add, ← Nat.mul_assoc]
   rw [e2]
   generalize q * y1 = z at *
   generalize q * y0 = z' at *
   omega
 have hq : 0 < q := Nat.lt_of_le_of_lt (Nat.zero_le _) hlt
 refine ⟨hq, ⟨?_, by omega, by omega⟩, by omega⟩
 obtain ⟨p, rfl⟩ : ∃ p, q = p + 1 := ⟨q - 1, by omega⟩
 rw [Nat.add_mul] at hs
 simp only [Nat.add_sub_cancel]
 omega
/-- The digit is the quotient's. -/
theorem inv_done {y1 y0 u u0 q r : Nat} (hy : 0 < y1 * 4294967296 + y0) (h : Inv y1 y0 u u0 q r) (hc : q * y0 ≤ 4294967296 * r + u0) : q = (u * 4294967296 + u0) / (y1 * 4294967296 + y0) := by
 obtain ⟨hs, hg, hl⟩ := h
 refine Nat.le_antisymm ?_ hg
 rw [Nat.le_div_iff_mul_le hy]
 have e2 : q * (y1 * 4294967296 + y0) = q * y1 * 4294967296 + q * y0 := by rw [Nat.mul_add, ← Nat.mul_assoc]
 rw [e2]
 generalize q * y1 = z at *
 generalize q * y0 = z' at *
 omega
theorem inv_break {y1 y0 u u0 q r : Nat} (hy : 0 < y1 * 4294967296 + y0) (h3 : y0 < 4294967296) (h : Inv y1 y0 u u0 q r) (hq : q ≤ 4294967296) (hr : 4294967296 ≤ r) : q = (u * 4294967296 + u0) / (y1 * 4294967296 + y0) := by
 refine inv_done hy h ?_
 have a := Nat.mul_le_mul hq (show y0 ≤ 4294967295 by omega)
 omega
theorem qy_lt {q y0 : Nat} (h : q ≤ 4294967297) (h3 : y0 < 4294967296) : q * y0 < 18446744073709551616 := by
 have a := Nat.mul_le_mul h (show y0 ≤ 4294967295 by omega)
 omega
theorem mod_eq (N y : Nat) : N - N / y * y = N % y := by
 have := Nat.div_add_mod' N y; omega
theorem two_aux {u y u1 u0 a b : Nat} (hy : 0 < y) (e : a * y + b = u * 4294967296 + u1) :
  (u * 18446744073709551616 + (u1 * 4294967296 + u0)) / y = a * 4294967296 + (b * 4294967296 + u0) / y ∧
  (u * 18446744073709551616 + (u1 * 4294967296 + u0)) % y = (b * 4294967296 + u0) % y := by
 have e2 : u * 18446744073709551616 + (u1 * 4294967296 + u0) = y * (a * 4294967296) + (b * 4294967296 + u0) := by
  have : y * (a * 4294967296) = a * y * 4294967296 := by rw [Nat.mul_comm a y, Nat.mul_assoc]
  omega
 rw [e2]
 exact ⟨Nat.mul_add_div hy _ _, Nat.mul_add_mod _ _ _⟩
/-- Two digits are the quotient, and the rest of the second step is the rest. -/
theorem two_digits {u y u1 u0 : Nat} (hy : 0 < y) :
  (u * 18446744073709551616 + (u1 * 4294967296 + u0)) / y = (u * 4294967296 + u1) / y * 4294967296 + ((u * 4294967296 + u1) % y * 4294967296 + u0) / y ∧
  (u * 18446744073709551616 + (u1 * 4294967296 + u0)) % y = ((u * 4294967296 + u1) % y * 4294967296 + u0) % y :=
 two_aux hy (Nat.div_add_mod' (u * 4294967296 + u1) y)
theorem digit_lt {u y u1 : Nat} (hy : 0 < y) (hu : u < y) (h1 : u1 < 4294967296) : (u * 4294967296 + u1) / y < 4294967296 := by
 rw [Nat.div_lt_iff_lt_mul hy]; omega
/-- Moved to the left by as many bits. -/
theorem shift_div (N y k : Nat) (hk : 0 < k) (_hy : 0 < y) : N * k / (y * k) = N / y ∧ N * k % (y * k) / k = N % y := by
 constructor
 ·exact Nat.mul_div_mul_right _ _ hk
 ·rw [Nat.mul_mod_mul_right, Nat.mul_div_cancel _ hk]
/-- The two words, moved. -/
theorem shift_words {hi lo s : Nat} (hlo : lo < 18446744073709551616) (hs : s ≤ 64) (_hh : hi * 2 ^ s < 18446744073709551616) :
  (hi * 2 ^ s + lo / 2 ^ (64 - s)) * 18446744073709551616 + lo * 2 ^ s % 18446744073709551616 = (hi * 18446744073709551616 + lo) * 2 ^ s ∧
  lo / 2 ^ (64 - s) < 2 ^ s ∧ ((hi * 2 ^ s) ||| (lo / 2 ^ (64 - s))) = hi * 2 ^ s + lo / 2 ^ (64 - s) := by
 have e : 2 ^ s * 2 ^ (64 - s) = 18446744073709551616 := by rw [← Nat.pow_add, show s + (64 - s) = 64 by omega]
 have hp : 0 < 2 ^ (64 - s) := Nat.pow_pos (by decide)
 have hl : lo / 2 ^ (64 - s) < 2 ^ s := by rw [Nat.div_lt_iff_lt_mul hp, e]; exact hlo
 refine ⟨?_, hl, ?_⟩
 ·have d := Nat.div_add_mod' (lo * 2 ^ s) 18446744073709551616
  have d2 : lo * 2 ^ s / 18446744073709551616 = lo / 2 ^ (64 - s) := by
   rw [← e, Nat.mul_comm (2 ^ s), Nat.mul_div_mul_right _ _ (Nat.pow_pos (by decide))]
  rw [d2] at d
  rw [Nat.add_mul, Nat.add_mul, Nat.mul_right_comm hi]
  omega
 ·rw [Nat.mul_comm, Nat.two_pow_add_eq_or_of_lt hl]
end Go.D64
set_option linter.unusedSimpArgs false
set_option linter.unusedSectionVars false
namespace Go.Proofs.YtcomiiakkhafpaaGreat
open Go.Proofs.YtcomiiakkhafpaaGreat.Am
variable [Inhabited DRT]
variable {G : GInv}
/-! ### Words: products and quotients of two words -/
theorem w_mask (a : Nat) (_ha : a < 18446744073709551616) : IntKind.u64.wrap ((BitVec.ofInt IntKind.u64.bits (a : Int) &&& BitVec.ofInt IntKind.u64.bits 4294967295).toNat : Int) = ((a % 4294967296 : Nat) : Int) := by
 have e : a &&& 4294967295 = a % 4294967296 := Nat.and_two_pow_sub_one_eq_mod a 32
 have h1 : (BitVec.ofInt IntKind.u64.bits (a : Int)).toNat = a := by
  show (BitVec.ofInt 64 (a : Int)).toNat = a
  rw [BitVec.toNat_ofInt]; omega
 have h2 : (BitVec.ofInt IntKind.u64.bits (4294967295 : Int)).toNat = 4294967295 := rfl
 rw [BitVec.toNat_and, h1, h2, e, IntKind.wrap_u64]
 omega
theorem w_shr (a : Nat) : (a : Int).fdiv (2 ^ min (Int.toNat 32) IntKind.u64.bits) = ((a / 4294967296 : Nat) : Int) := by
 show (a : Int).fdiv 4294967296 = _
 rw [Int.fdiv_eq_ediv_of_nonneg _ (by omega)]; omega
theorem w_mul (a b : Nat) : (a : Int) * (b : Int) = ((a * b : Nat) : Int) := (Int.natCast_mul a b).symm
theorem w_add (a b : Nat) : (a : Int) + (b : Int) = ((a + b : Nat) : Int) := (Int.natCast_add a b).symm
theorem w_wrap (a : Nat) (ha : a < 18446744073709551616) : IntKind.u64.wrap (a : Int) = (a : Int) := by rw [IntKind.wrap_u64]; omega
theorem w_mod (a : Nat) : IntKind.u64.wrap (a : Int) = ((a % 18446744073709551616 : Nat) : Int) := by rw [IntKind.wrap_u64]; omega
set_option maxRecDepth 100000 in
set_option maxHeartbeats 4000000 in
theorem mul64_c (x y : Nat) (hx : x < 18446744073709551616) (hy : y < 18446744073709551616) :
  ACalls Tryz.prog G 203 [.int .u64 x, .int .u64 y] (.tup [.int .u64 ((x * y / 18446744073709551616 : Nat) : Int), .int .u64 ((x * y % 18446744073709551616 : Nat) : Int)]) := by
 obtain ⟨bd, bt, bw, hhi⟩ := Go.Lib.mul64_hi x y hx hy
 have ba := Go.Lib.half_mul_le (a := x / 4294967296) (b := y / 4294967296) (by omega) (by omega)
 have bb := Go.Lib.half_mul_le (a := x / 4294967296) (b := y % 4294967296) (by omega) (by omega)
 have bc := Go.Lib.half_mul_le (a := x % 4294967296) (b := y / 4294967296) (by omega) (by omega)
 have ba' : x / 4294967296 * (y / 4294967296) < 18446744073709551616 := by omega
 have bb' : x / 4294967296 * (y % 4294967296) < 18446744073709551616 := by omega
 have bc' : x % 4294967296 * (y / 4294967296) < 18446744073709551616 := by omega
 have bh1 : x / 4294967296 * (y / 4294967296) + (x / 4294967296 * (y % 4294967296) + x % 4294967296 * (y % 4294967296) / 4294967296) / 4294967296 < 18446744073709551616 := by omega
 have bh : x / 4294967296 * (y / 4294967296) + (x / 4294967296 * (y % 4294967296) + x % 4294967296 * (y % 4294967296) / 4294967296) / 4294967296 + ((x / 4294967296 * (y % 4294967296) + x % 4294967296 * (y % 4294967296) / 4294967296) % 4294967296 + x % 4294967296 * (y / 4294967296)) / 4294967296 < 18446744073709551616 := by omega
 refine ACalls.of_WA ttok Tryz.func203 rfl rfl _ rfl ?_
 conv => whnf
 repeat' (first | refine sq ?_ | refine bk ?_ | ((first | refine rg ttok ?_ | refine dw ttok mixed ?_ | refine cd ?_ | refine sk ?_ | refine xt ?_ | refine rt ?_); conv => whnf) | (refine And.intro (fun h => ?_) (fun h => ?_) <;> (try simp only [brsA] at h) <;> conv => whnf) | ((first | refine wf ?_ | refine wp' ?_ | refine ai ?_ | refine And.intro rfl ?_ | refine an ?_ | fail); conv => whnf))
 simp only [w_mask x hx, w_mask y hy, w_shr, w_mul, w_add, w_wrap _ bd, w_wrap _ bb', w_wrap _ bt, w_mask _ bt, w_wrap _ bc', w_wrap _ bw, w_wrap _ ba', w_wrap _ bh1, w_wrap _ bh, w_mod (x * y)]
 rw [hhi]
 exact ⟨rfl, trivial⟩
end Go.Proofs.YtcomiiakkhafpaaGreat
namespace Go.Proofs.YtcomiiakkhafpaaGreat
open Go.Proofs.YtcomiiakkhafpaaGreat.Am
variable [Inhabited DRT]
variable {G : GInv}
theorem w_shr16 (a : Nat) : (a : Int).fdiv (2 ^ min (Int.toNat 16) IntKind.u64.bits) = ((a / 65536 : Nat) : Int) := by
 show (a : Int).fdiv 65536 = _
 rw [Int.fdiv_eq_ediv_of_nonneg _ (by omega)]; omega
theorem w_shr8 (a : Nat) : (a : Int).fdiv (2 ^ min (Int.toNat 8) IntKind.u64.bits) = ((a / 256 : Nat) : Int) := by
 show (a : Int).fdiv 256 = _
 rw [Int.fdiv_eq_ediv_of_nonneg _ (by omega)]; omega
/-- The table of lengths of bytes. -/
def tabB (tb : List UInt8) : Bool := Nat.beq tb.length 256 && (List.range 256).all fun v => Nat.beq v 0 || (Nat.ble 1 (tb.getD v 0).toNat && (Nat.ble (2 ^ ((tb.getD v 0).toNat - 1)) v && Nat.ble (v + 1) (2 ^ (tb.getD v 0).toNat)))
theorem tabB_at {tb : List UInt8} (h : tabB tb = true) {v : Nat} (hv : v < 256) (h0 : 0 < v) : tb.length = 256 ∧ 1 ≤ (tb.getD v 0).toNat ∧ 2 ^ ((tb.getD v 0).toNat - 1) ≤ v ∧ v < 2 ^ (tb.getD v 0).toNat := by
 unfold tabB at h
 rw [Bool.and_eq_true] at h
 refine ⟨Nat.eq_of_beq_eq_true h.1, ?_⟩
 have := List.all_eq_true.1 h.2 v (List.mem_range.2 hv)
 rw [Bool.or_eq_true, Bool.and_eq_true, Bool.and_eq_true] at this
 rcases this with q | ⟨a, b, c⟩
 ·have := Nat.eq_of_beq_eq_true q; omega
 ·exact ⟨Nat.le_of_ble_eq_true a, Nat.le_of_ble_eq_true b, Nat.le_of_ble_eq_true c⟩
theorem len_fin {tb : List UInt8} {z : Int} {K : Prop} (v : Nat) (ht : tabB tb = true) (hz : z = v) (hv : v < 256) (h0 : 0 < v)
  (hK : ∀ t, t < 256 → (tb.getD z.toNat 0).toNat = t → 1 ≤ t → 2 ^ (t - 1) ≤ v → v < 2 ^ t → K) : (0 ≤ z ∧ z < (tb.length : Int)) ∧ K := by
 obtain ⟨a, b, c, d⟩ := tabB_at ht hv h0
 subst hz
 refine ⟨⟨by omega, by omega⟩, hK _ (UInt8.toNat_lt _) rfl b c d⟩
theorem len_fin0 {tb : List UInt8} {z : Int} {L : Nat} (v : Nat) (ht : tabB tb = true) (hz : z = v) (hv : v < 256) (h0 : 0 < v)
  (hK : ∀ t, t < 256 → 1 ≤ t → 2 ^ (t - 1) ≤ v → v < 2 ^ t → L = t) : IntKind.i64.wrap (0 + IntKind.i64.wrap ((tb.getD z.toNat 0).toNat : Int)) = (L : Int) := by
 obtain ⟨a, b, c, d⟩ := tabB_at ht hv h0
 subst hz
 rw [hK _ (UInt8.toNat_lt _) b c d, Int.toNat_natCast]
 have := UInt8.toNat_lt (tb.getD v 0)
 simp only [IntKind.wrap_i64]
 omega
theorem len_uniq {y a b : Nat} (ha : 1 ≤ a) (hb : 1 ≤ b) (h1 : 2 ^ (a - 1) ≤ y) (h2 : y < 2 ^ a) (h3 : 2 ^ (b - 1) ≤ y) (h4 : y < 2 ^ b) : a = b := by
 have key : ∀ p q, 1 ≤ q → 2 ^ (q - 1) ≤ y → y < 2 ^ p → q ≤ p := fun p q hq g1 g2 => by
  have : q - 1 < p := (Nat.pow_lt_pow_iff_right (by decide)).1 (Nat.lt_of_le_of_lt g1 g2)
  omega
 exact Nat.le_antisymm (key b a ha h1 h4) (key a b hb h3 h2)
theorem len_up {y t : Nat} (k : Nat) (ht : 1 ≤ t) (h1 : 2 ^ (t - 1) ≤ y / 2 ^ k) (h2 : y / 2 ^ k < 2 ^ t) : 2 ^ (t + k - 1) ≤ y ∧ y < 2 ^ (t + k) := by
 have hp : 0 < 2 ^ k := Nat.pow_pos (by decide)
 constructor
 ·have := (Nat.le_div_iff_mul_le hp).1 h1
  rw [← Nat.pow_add] at this
  rwa [show t + k - 1 = t - 1 + k by omega]
 ·have := (Nat.div_lt_iff_lt_mul hp).1 h2
  rwa [← Nat.pow_add] at this
theorem len_eq {y t L : Nat} (k : Nat) (hL : 1 ≤ L) (h1 : 2 ^ (L - 1) ≤ y) (h2 : y < 2 ^ L) (ht : 1 ≤ t) (g1 : 2 ^ (t - 1) ≤ y / 2 ^ k) (g2 : y / 2 ^ k < 2 ^ t) : L = t + k := by
 obtain ⟨a, b⟩ := len_up k ht g1 g2
 exact len_uniq hL (by omega) h1 h2 a b
set_option maxRecDepth 100000 in
set_option maxHeartbeats 4000000 in
theorem len64_c (y L : Nat) (h0 : 0 < y) (hy : y < 18446744073709551616) (hL : 1 ≤ L) (h1 : 2 ^ (L - 1) ≤ y) (h2 : y < 2 ^ L) : ACalls Tryz.prog G 148 [.int .u64 y] (.int .i64 L) := by
 have key := fun k t => len_eq (t := t) k hL h1 h2
 clear h1 h2
 refine ACalls.of_WA ttok Tryz.func148 rfl rfl _ rfl ?_
 conv => whnf
 repeat' (first | refine sq ?_ | refine bk ?_ | ((first | refine rg ttok ?_ | refine dw ttok mixed ?_ | refine cd ?_ | refine sk ?_ | refine xt ?_ | refine rt ?_); conv => whnf) | (refine And.intro (fun h => ?_) (fun h => ?_) <;> (try simp only [brsA] at h) <;> conv => whnf) | ((first | refine wf ?_ | refine wp' ?_ | refine ai ?_ | refine And.intro rfl ?_ | refine an ?_ | fail); conv => whnf))
 all_goals first | (exfalso; omega) | skip
 all_goals simp only [w_shr, w_shr16, w_shr8, Nat.div_div_eq_div_mul] at *
 ·refine len_fin (y / (4294967296 * 65536 * 256)) (by decide +kernel) (by rw [IntKind.wrap_u8]; omega) (by omega) (by omega) ?_
  intro t e0 e1 e2 e3 e4
  have e5 := key 56 t e2 e3 e4
  conv => whnf
  repeat' (first | refine sq ?_ | refine bk ?_ | ((first | refine rg ttok ?_ | refine dw ttok mixed ?_ | refine cd ?_ | refine sk ?_ | refine xt ?_ | refine rt ?_); conv => whnf) | (refine And.intro (fun h => ?_) (fun h => ?_) <;> (try simp only [brsA] at h) <;> conv => whnf) | ((first | refine wf ?_ | refine wp' ?_ | refine ai ?_ | refine And.intro rfl ?_ | refine an ?_ | fail); conv => whnf))
  all_goals (rw [e1]; (try simp only [IntKind.wrap_i64]); omega)
 ·refine len_fin (y / (4294967296 * 65536)) (by decide +kernel) (by rw [IntKind.wrap_u8]; omega) (by omega) (by omega) ?_
  intro t e0 e1 e2 e3 e4
  have e5 := key 48 t e2 e3 e4
  conv => whnf
  repeat' (first | refine sq ?_ | refine bk ?_ | ((first | refine rg ttok ?_ | refine dw ttok mixed ?_ | refine cd ?_ | refine sk ?_ | refine xt ?_ | refine rt ?_); conv => whnf) | (refine And.intro (fun h => ?_) (fun h => ?_) <;> (try simp only [brsA] at h) <;> conv => whnf) | ((first | refine wf ?_ | refine wp' ?_ | refine ai ?_ | refine And.intro rfl ?_ | refine an ?_ | fail); conv => whnf))
  all_goals (rw [e1]; (try simp only [IntKind.wrap_i64]); omega)
 ·refine len_fin (y / (4294967296 * 256)) (by decide +kernel) (by rw [IntKind.wrap_u8]; omega) (by omega) (by omega) ?_
  intro t e0 e1 e2 e3 e4
  have e5 := key 40 t e2 e3 e4
  conv => whnf
  repeat' (first | refine sq ?_ | refine bk ?_ | ((first | refine rg ttok ?_ | refine dw ttok mixed ?_ | refine cd ?_ | refine sk ?_ | refine xt ?_ | refine rt ?_); conv => whnf) | (refine And.intro (fun h => ?_) (fun h => ?_) <;> (try simp only [brsA] at h) <;> conv => whnf) | ((first | refine wf ?_ | refine wp' ?_ | refine ai ?_ | refine And.intro rfl ?_ | refine an ?_ | fail); conv => whnf))
  all_goals (rw [e1]; (try simp only [IntKind.wrap_i64]); omega)
 ·refine len_fin (y / 4294967296) (by decide +kernel) (by rw [IntKind.wrap_u8]; omega) (by omega) (by omega) ?_
  intro t e0 e1 e2 e3 e4
  have e5 := key 32 t e2 e3 e4
  conv => whnf
  repeat' (first | refine sq ?_ | refine bk ?_ | ((first | refine rg ttok ?_ | refine dw ttok mixed ?_ | refine cd ?_ | refine sk ?_ | refine xt ?_ | refine rt ?_); conv => whnf) | (refine And.intro (fun h => ?_) (fun h => ?_) <;> (try simp only [brsA] at h) <;> conv => whnf) | ((first | refine wf ?_ | refine wp' ?_ | refine ai ?_ | refine And.intro rfl ?_ | refine an ?_ | fail); conv => whnf))
  all_goals (rw [e1]; (try simp only [IntKind.wrap_i64]); omega)
 ·refine len_fin (y / (65536 * 256)) (by decide +kernel) (by rw [IntKind.wrap_u8]; omega) (by omega) (by omega) ?_
  intro t e0 e1 e2 e3 e4
  have e5 := key 24 t e2 e3 e4
  conv => whnf
  repeat' (first | refine sq ?_ | refine bk ?_ | ((first | refine rg ttok ?_ | refine dw ttok mixed ?_ | refine cd ?_ | refine sk ?_ | refine xt ?_ | refine rt ?_); conv => whnf) | (refine And.intro (fun h => ?_) (fun h => ?_) <;> (try simp only [brsA] at h) <;> conv => whnf) | ((first | refine wf ?_ | refine wp' ?_ | refine ai ?_ | refine And.intro rfl ?_ | refine an ?_ | fail); conv => whnf))
  all_goals (rw [e1]; (try simp only [IntKind.wrap_i64]); omega)
 ·refine len_fin (y / 65536) (by decide +kernel) (by rw [IntKind.wrap_u8]; omega) (by omega) (by omega) ?_
  intro t e0 e1 e2 e3 e4
  have e5 := key 16 t e2 e3 e4
  conv => whnf
  repeat' (first | refine sq ?_ | refine bk ?_ | ((first | refine rg ttok ?_ | refine dw ttok mixed ?_ | refine cd ?_ | refine sk ?_ | refine xt ?_ | refine rt ?_); conv => whnf) | (refine And.intro (fun h => ?_) (fun h => ?_) <;> (try simp only [brsA] at h) <;> conv => whnf) | ((first | refine wf ?_ | refine wp' ?_ | refine ai ?_ | refine And.intro rfl ?_ | refine an ?_ | fail); conv => whnf))
  all_goals (rw [e1]; (try simp only [IntKind.wrap_i64]); omega)
 ·refine len_fin (y / 256) (by decide +kernel) (by rw [IntKind.wrap_u8]; omega) (by omega) (by omega) ?_
  intro t e0 e1 e2 e3 e4
  have e5 := key 8 t e2 e3 e4
  conv => whnf
  repeat' (first | refine sq ?_ | refine bk ?_ | ((first | refine rg ttok ?_ | refine dw ttok mixed ?_ | refine cd ?_ | refine sk ?_ | refine xt ?_ | refine rt ?_); conv => whnf) | (refine And.intro (fun h => ?_) (fun h => ?_) <;> (try simp only [brsA] at h) <;> conv => whnf) | ((first | refine wf ?_ | refine wp' ?_ | refine ai ?_ | refine And.intro rfl ?_ | refine an ?_ | fail); conv => whnf))
  all_goals (rw [e1]; (try simp only [IntKind.wrap_i64]); omega)
 ·refine len_fin0 y (by decide +kernel) rfl (by omega) h0 fun t e0 e2 e3 e4 => ?_
  have e5 := key 0 t e2 (by rw [Nat.pow_zero, Nat.div_one]; exact e3) (by rw [Nat.pow_zero, Nat.div_one]; exact e4)
  omega
end Go.Proofs.YtcomiiakkhafpaaGreat
namespace Go.Proofs.YtcomiiakkhafpaaGreat
open Go.Proofs.YtcomiiakkhafpaaGreat.Am
variable [Inhabited DRT]
variable {G : GInv}
set_option maxRecDepth 100000 in
theorem lz64_c (y L : Nat) (h0 : 0 < y) (hy : y < 18446744073709551616) (hL : 1 ≤ L ∧ L ≤ 64) (h1 : 2 ^ (L - 1) ≤ y) (h2 : y < 2 ^ L) : ACalls Tryz.prog G 211 [.int .u64 y] (.int .i64 ((64 - L : Nat) : Int)) := by
 have hc := len64_c (G := G) y L h0 hy hL.1 h1 h2
 clear h1 h2
 refine ACalls.of_WA ttok Tryz.func211 rfl rfl _ rfl ?_
 conv => whnf
 repeat' (first | refine WA_seq ?_ | refine WA_block ?_ | ((first | refine WA_region ttok ?_ | refine WA_draw ttok mixed ?_ | refine WA_cond ?_ | refine WA_skip ?_ | refine WA_exit ?_ | refine WA_ret ?_); conv => whnf) | (refine And.intro (fun h => ?_) (fun h => ?_) <;> (try simp only [brsA] at h) <;> conv => whnf) | (refine Or.inl ?_; (conv => whnf); refine ⟨_, hc, ?_⟩; conv => whnf) | (refine Or.inr (Or.inr (Or.inl ?_)); (conv => whnf); refine ⟨_, hc, ?_⟩; conv => whnf) | (refine Exists.intro _ (And.intro (hc) ?_); conv => whnf) | (refine WR_fit ?_ ?_; (focus (first | exact wr_i64 (by omega) | exact wr_u64 (by omega) | exact wr_u8 (by omega) | exact wr_i32 (by omega) | exact wr_u32 (by omega))); conv => whnf) | ((first | refine WR_wrap ?_ | (refine And.intro (a := indepB _ _ = true) ?_ ?_; (focus kernel_rfl)) | refine And.intro rfl ?_ | (refine And.intro ?_ ?_; (focus (first | omega | decide | (dsimp only; omega) | (simp at *; omega))))); conv => whnf))
 all_goals omega
set_option maxRecDepth 100000 in
set_option maxHeartbeats 4000000 in
theorem div64_0 (lo y : Nat) (hlo : lo < 18446744073709551616) (hy : y < 18446744073709551616) (h0 : 0 < y) :
  ACalls Tryz.prog G 176 [.int .u64 0, .int .u64 lo, .int .u64 y] (.tup [.int .u64 ((lo / y : Nat) : Int), .int .u64 ((lo % y : Nat) : Int)]) := by
 have e1 : (lo : Int).tdiv y = ((lo / y : Nat) : Int) := rfl
 have e2 : (lo : Int).tmod y = ((lo % y : Nat) : Int) := rfl
 have b1 := Nat.div_le_self lo y
 have b2 := Nat.mod_lt lo h0
 generalize lo / y = q at *
 generalize lo % y = r at *
 refine ACalls.of_WA ttok Tryz.func176 rfl rfl _ rfl ?_
 conv => whnf
 repeat' (first | refine WA_seq ?_ | refine WA_block ?_ | ((first | refine WA_region ttok ?_ | refine WA_draw ttok mixed ?_ | refine WA_cond ?_ | refine WA_skip ?_ | refine WA_exit ?_ | refine WA_ret ?_); conv => whnf) | (refine And.intro (fun h => ?_) (fun h => ?_) <;> (try simp only [brsA] at h) <;> conv => whnf) | (refine WR_fit ?_ ?_; (focus (first | exact wr_i64 (by omega) | exact wr_u64 (by omega) | exact wr_u8 (by omega) | exact wr_i32 (by omega) | exact wr_u32 (by omega))); conv => whnf) | ((first | refine WR_wrap ?_ | (refine And.intro (a := indepB _ _ = true) ?_ ?_; (focus kernel_rfl)) | refine And.intro rfl ?_ | (refine And.intro ?_ ?_; (focus (first | omega | decide | (dsimp only; omega) | (simp at *; omega))))); conv => whnf))
 all_goals first | (exfalso; omega) | (exact absurd trivial ‹_›) | skip
 all_goals exact e2
theorem w_or (a b : Nat) (ha : a < 18446744073709551616) (hb : b < 18446744073709551616) (hab : a ||| b < 18446744073709551616) : IntKind.u64.wrap ((BitVec.ofInt IntKind.u64.bits (a : Int) ||| BitVec.ofInt IntKind.u64.bits (b : Int)).toNat : Int) = ((a ||| b : Nat) : Int) := by
 have h : ∀ z : Nat, z < 18446744073709551616 → (BitVec.ofInt IntKind.u64.bits (z : Int)).toNat = z := fun z hz => by
  show (BitVec.ofInt 64 (z : Int)).toNat = z
  rw [BitVec.toNat_ofInt]; omega
 rw [BitVec.toNat_or, h a ha, h b hb, IntKind.wrap_u64]
 omega
theorem w_pow (s : Nat) (hs : s ≤ 64) : (2 : Int) ^ min ((s : Int).toNat) IntKind.u64.bits = ((2 ^ s : Nat) : Int) := by
 show (2 : Int) ^ min s 64 = _
 rw [Nat.min_eq_left hs]; simp
theorem w_pow' (s : Nat) (hs : s ≤ 64) : (2 : Int) ^ min ((64 - (s : Int)).toNat) IntKind.u64.bits = ((2 ^ (64 - s) : Nat) : Int) := by
 rw [show (64 - (s : Int)) = ((64 - s : Nat) : Int) by omega]
 exact w_pow (64 - s) (by omega)
theorem w_fdiv (a b : Nat) : (a : Int).fdiv (b : Int) = ((a / b : Nat) : Int) := by
 rw [Int.fdiv_eq_ediv_of_nonneg _ (by omega)]; rfl
theorem w_tdiv (a b : Nat) : (a : Int).tdiv (b : Int) = ((a / b : Nat) : Int) := rfl
set_option maxRecDepth 100000 in
set_option maxHeartbeats 8000000 in
theorem div64_1 (hi lo y L : Nat) (hlo : lo < 18446744073709551616) (hy : y < 18446744073709551616) (hh : hi < y) (h0 : 0 < hi) (hL : 1 ≤ L ∧ L ≤ 64) (h1 : 2 ^ (L - 1) ≤ y) (h2 : y < 2 ^ L) :
  ACalls Tryz.prog G 176 [.int .u64 hi, .int .u64 lo, .int .u64 y] (.tup [.int .u64 (((hi * 18446744073709551616 + lo) / y : Nat) : Int), .int .u64 (((hi * 18446744073709551616 + lo) % y : Nat) : Int)]) := by
 have hc := lz64_c (G := G) y L (by omega) hy hL h1 h2
 obtain ⟨s, hs⟩ : ∃ s, s = 64 - L := ⟨_, rfl⟩
 rw [← hs] at hc
 have hs64 : s ≤ 64 := by omega
 have hp : 0 < 2 ^ s := Nat.pow_pos (by decide)
 have y64 : y * 2 ^ s < 18446744073709551616 := by
  have : y * 2 ^ s < 2 ^ L * 2 ^ s := Nat.mul_lt_mul_of_pos_right h2 hp
  rw [← Nat.pow_add, show L + s = 64 by omega] at this
  exact this
 have y63 : 9223372036854775808 ≤ y * 2 ^ s := by
  have : 2 ^ (L - 1) * 2 ^ s ≤ y * 2 ^ s := Nat.mul_le_mul_right _ h1
  rw [← Nat.pow_add, show L - 1 + s = 63 by omega] at this
  exact this
 have hhs : (hi + 1) * 2 ^ s ≤ y * 2 ^ s := Nat.mul_le_mul_right _ (by omega)
 rw [Nat.add_mul, Nat.one_mul] at hhs
 obtain ⟨g1, g2, g3⟩ := Go.D64.shift_words (hi := hi) hlo hs64 (by omega)
 obtain ⟨g4, g5⟩ := Go.D64.shift_div (hi * 18446744073709551616 + lo) y (2 ^ s) hp (by omega)
 have f1 : IntKind.u64.wrap ((y : Int) * ((2 ^ s : Nat) : Int)) = ((y * 2 ^ s : Nat) : Int) := by rw [w_mul, w_wrap _ y64]
 have f2 : IntKind.u64.wrap ((hi : Int) * ((2 ^ s : Nat) : Int)) = ((hi * 2 ^ s : Nat) : Int) := by rw [w_mul, w_wrap _ (by omega)]
 have f5 : IntKind.u64.wrap ((lo : Int) * ((2 ^ s : Nat) : Int)) = ((lo * 2 ^ s % 18446744073709551616 : Nat) : Int) := by rw [w_mul, w_mod]
 have f6 := w_or (hi * 2 ^ s) (lo / 2 ^ (64 - s)) (by omega) (Nat.lt_of_le_of_lt (Nat.div_le_self _ _) hlo) (by rw [g3]; omega)
 rw [g3] at f6
 have fW := Nat.mod_lt (lo * 2 ^ s) (show 0 < 18446744073709551616 by decide)
 have f7 := w_mask _ fW
 have f8 := w_mask _ y64
 have uy : hi * 2 ^ s + lo / 2 ^ (64 - s) < y * 2 ^ s := by omega
 rw [← g1] at g4 g5
 rw [← g4, ← g5]
 clear g1 g2 g3 g4 g5 hhs
 generalize y * 2 ^ s = Y at *
 generalize hi * 2 ^ s + lo / 2 ^ (64 - s) = U at *
 generalize lo * 2 ^ s % 18446744073709551616 = W at *
 have eY := Nat.div_add_mod' Y 4294967296
 have eW := Nat.div_add_mod' W 4294967296
 have ly0 := Nat.mod_lt Y (show 0 < 4294967296 by decide)
 have lw0 := Nat.mod_lt W (show 0 < 4294967296 by decide)
 have lw1 : W / 4294967296 < 4294967296 := by omega
 have ly1 : Y / 4294967296 < 4294967296 := by omega
 have ly2 : 2147483648 ≤ Y / 4294967296 := by omega
 have f9 := w_shr Y
 have f10 := w_shr W
 obtain ⟨k1, k2⟩ := Go.D64.two_digits (u := U) (y := Y) (u1 := W / 4294967296) (u0 := W % 4294967296) (by omega)
 rw [eW] at k1 k2
 rw [k1, k2]
 have ka := Go.D64.digit_lt (u := U) (y := Y) (u1 := W / 4294967296) (by omega) uy (by omega)
 have km := Nat.div_add_mod' (U * 4294967296 + W / 4294967296) Y
 have kl := Nat.mod_lt (U * 4294967296 + W / 4294967296) (show 0 < Y by omega)
 obtain ⟨a, hA⟩ : ∃ a, (U * 4294967296 + W / 4294967296) / Y = a := ⟨_, rfl⟩
 obtain ⟨b, hB⟩ : ∃ b, (U * 4294967296 + W / 4294967296) % Y = b := ⟨_, rfl⟩
 rw [hA] at ka km ⊢
 rw [hB] at km kl ⊢
 have kc := Go.D64.digit_lt (u := b) (y := Y) (u1 := W % 4294967296) (by omega) kl lw0
 have kn := Nat.div_add_mod' (b * 4294967296 + W % 4294967296) Y
 have ko := Nat.mod_lt (b * 4294967296 + W % 4294967296) (show 0 < Y by omega)
 obtain ⟨c, hC⟩ : ∃ c, (b * 4294967296 + W % 4294967296) / Y = c := ⟨_, rfl⟩
 obtain ⟨d, hD⟩ : ∃ d, (b * 4294967296 + W % 4294967296) % Y = d := ⟨_, rfl⟩
 rw [hC] at kc kn ⊢
 rw [hD] at kn ko ⊢
 clear k1 k2
 refine ACalls.of_WA ttok Tryz.func176 rfl rfl _ rfl ?_
 conv => whnf
 repeat' (first | refine WA_seq ?_ | refine WA_block ?_ | ((first | refine WA_region ttok ?_ | refine WA_draw ttok mixed ?_ | refine WA_cond ?_ | refine WA_skip ?_ | refine WA_exit ?_ | refine WA_ret ?_); conv => whnf) | (refine And.intro (fun h => ?_) (fun h => ?_) <;> (try simp only [brsA] at h) <;> conv => whnf) | (refine Or.inl ?_; (conv => whnf); refine ⟨_, hc, ?_⟩; conv => whnf) | (refine Or.inr (Or.inr (Or.inl ?_)); (conv => whnf); refine ⟨_, hc, ?_⟩; conv => whnf) | (refine Exists.intro _ (And.intro (hc) ?_); conv => whnf) | (refine WR_fit ?_ ?_; (focus (first | exact wr_i64 (by omega) | exact wr_u64 (by omega) | exact wr_u8 (by omega) | exact wr_i32 (by omega) | exact wr_u32 (by omega))); conv => whnf) | ((first | refine WR_wrap ?_ | (refine And.intro (a := indepB _ _ = true) ?_ ?_; (focus kernel_rfl)) | refine And.intro rfl ?_ | (refine And.intro ?_ ?_; (focus (first | omega | decide | (dsimp only; omega) | (simp at *; omega))))); conv => whnf))
 all_goals first | (exfalso; omega) | (exact absurd trivial ‹_›) | skip
 simp only [w_pow s hs64, w_pow' s hs64, f1, f2, f5, w_fdiv, f6, f7, f8, f9, f10]
 generalize Y / 4294967296 = y1 at *
 generalize Y % 4294967296 = y0 at *
 generalize W / 4294967296 = u1 at *
 generalize W % 4294967296 = u0 at *
 clear f1 f2 f5 f6 f7 f8 f9 f10 hc hlo hh hy eW fW
 obtain ⟨i1, i2⟩ := Go.D64.inv_init (y1 := y1) (y0 := y0) (u := U) (u0 := u1) ly2 ly1 ly0 (by omega) lw1
 obtain ⟨i3, i4⟩ := Go.D64.inv_init (y1 := y1) (y0 := y0) (u := b) (u0 := u0) ly2 ly1 ly0 (by omega) lw0
 have q1 := Nat.div_mul_le_self U y1
 have q2 := Nat.div_mul_le_self b y1
 have q3 := i1.le
 have q4 := i3.le
 have t1 := w_tdiv U y1
 have t2 := w_tdiv b y1
 generalize U / y1 = Q at *
 generalize b / y1 = R at *
 have hyp : 0 < y1 * 4294967296 + y0 := by omega
 rw [← eY] at hA hC
 refine ⟨by omega, ?_⟩
 conv => whnf
 repeat' (first | refine WA_seq ?_ | refine WA_block ?_ | ((first | refine WA_region ttok ?_ | refine WA_draw ttok mixed ?_ | refine WA_cond ?_ | refine WA_skip ?_ | refine WA_exit ?_ | refine WA_ret ?_); conv => whnf) | (refine And.intro (fun h => ?_) (fun h => ?_) <;> (try simp only [brsA] at h) <;> conv => whnf) | (refine WR_fit ?_ ?_; (focus (first | exact wr_i64 (by omega) | exact wr_u64 (by omega) | exact wr_u8 (by omega) | exact wr_i32 (by omega) | exact wr_u32 (by omega))); conv => whnf) | ((first | refine WR_wrap ?_ | (refine And.intro (a := indepB _ _ = true) ?_ ?_; (focus kernel_rfl)) | refine And.intro rfl ?_ | (refine And.intro ?_ ?_; (focus (first | omega | decide | (dsimp only; omega) | (simp at *; omega))))); conv => whnf))
 refine WA_loopI (fun x : Nat × Nat => match x with | (q, r) => Go.D64.Inv y1 y0 U u1 q r ∧ r < 4294967296) (fun x => match x with | (q, r) => [(15, .int .u64 (q : Int)), (16, .int .u64 (r : Int))]) (fun _ => []) (fun x => x.1) (Q, U - Q * y1) ⟨i1, by omega⟩ ?_ ?_
 ·conv => whnf
  repeat (first | exact rfl | exact trivial | exact Or.inl (fun _ _ => rfl) | exact (fun _ => rfl) | exact (fun _ _ => rfl) | exact Or.inl (fun _ hi => absurd hi (Nat.not_lt_zero _)) | ((first | refine And.intro rfl ?_ | refine And.intro (Or.inl (fun _ _ => rfl)) ?_ | refine And.intro (fun _ => rfl) ?_ | refine And.intro (fun _ _ => rfl) ?_ | (refine And.intro ?_ ?_; rotate_left)); conv => whnf))
  all_goals first | exact t1 | (rw [t1]; simp only [IntKind.wrap_u64]; omega)
 ·rintro ⟨q, r⟩ ⟨hI, hr⟩
  have hq := Go.D64.qy_lt (y0 := y0) hI.le ly0
  have hql := hI.le
  by_cases hcd : 4294967296 ≤ q ∨ 4294967296 * r + u1 < q * y0
  ·obtain ⟨p1, p2, p3⟩ := Go.D64.inv_next ly2 ly0 (by omega) lw1 hI hcd
   have hqb := fun h => Go.D64.inv_break hyp ly0 p2 p3 h
   rw [hA] at hqb
   conv => whnf
   repeat' (first | refine WA_seq ?_ | refine WA_block ?_ | ((first | refine WA_region ttok ?_ | refine WA_draw ttok mixed ?_ | refine WA_cond ?_ | refine WA_skip ?_ | refine WA_exit ?_ | refine WA_ret ?_); conv => whnf) | (refine And.intro (fun h => ?_) (fun h => ?_) <;> (try simp only [brsA] at h) <;> conv => whnf) | (refine WR_fit ?_ ?_; (focus (first | exact wr_i64 (by omega) | exact wr_u64 (by omega) | exact wr_u8 (by omega) | exact wr_i32 (by omega) | exact wr_u32 (by omega))); conv => whnf) | ((first | refine WR_wrap ?_ | (refine And.intro (a := indepB _ _ = true) ?_ ?_; (focus kernel_rfl)) | refine And.intro rfl ?_ | (refine And.intro ?_ ?_; (focus (first | omega | decide | (dsimp only; omega) | (simp at *; omega))))); conv => whnf))
   all_goals first | (exfalso; omega) | skip
   all_goals first
    | (refine ⟨(q - 1, r + y1), ⟨p2, (by show r + y1 < 4294967296; omega)⟩, (by show q - 1 < q; omega), ?_⟩; (conv => whnf); (repeat (first | exact rfl | exact trivial | exact Or.inl (fun _ _ => rfl) | exact (fun _ => rfl) | exact (fun _ _ => rfl) | exact Or.inl (fun _ hi => absurd hi (Nat.not_lt_zero _)) | ((first | refine And.intro rfl ?_ | refine And.intro (Or.inl (fun _ _ => rfl)) ?_ | refine And.intro (fun _ => rfl) ?_ | refine And.intro (fun _ _ => rfl) ?_ | (refine And.intro ?_ ?_; rotate_left)); conv => whnf))); all_goals omega)
    | skip
   all_goals
    have hqa := hqb (by omega)
    have hqi : (q : Int) - 1 = (a : Int) := by omega
    refine WA_loopI (fun x : Nat × Nat => match x with | (q, r) => Go.D64.Inv y1 y0 b u0 q r ∧ r < 4294967296) (fun x => match x with | (q, r) => [(15, .int .u64 (a : Int)), (17, .int .u64 (b : Int)), (18, .int .u64 (q : Int)), (16, .int .u64 (r : Int))]) (fun _ => []) (fun x => x.1) (R, b - R * y1) ⟨i3, by omega⟩ ?_ ?_
    ·have hz : IntKind.u64.wrap (IntKind.u64.wrap (IntKind.u64.wrap ((U : Int) * 4294967296) + (u1 : Int)) - IntKind.u64.wrap ((a : Int) * (Y : Int))) = (b : Int) := by
      simp only [IntKind.wrap_u64]; omega
     have hR : IntKind.u64.wrap (R : Int) = (R : Int) := w_wrap R (by omega)
     conv => whnf
     repeat (first | exact rfl | exact trivial | exact Or.inl (fun _ _ => rfl) | exact (fun _ => rfl) | exact (fun _ _ => rfl) | exact Or.inl (fun _ hi => absurd hi (Nat.not_lt_zero _)) | ((first | refine And.intro rfl ?_ | refine And.intro (Or.inl (fun _ _ => rfl)) ?_ | refine And.intro (fun _ => rfl) ?_ | refine And.intro (fun _ _ => rfl) ?_ | (refine And.intro ?_ ?_; rotate_left)); conv => whnf))
     all_goals (try simp only [hqi, hz, t2, hR])
     all_goals first | rfl | omega | (simp only [IntKind.wrap_u64]; omega)
    ·rintro ⟨q2, r2⟩ ⟨hI2, hr2⟩
     have hq2 := Go.D64.qy_lt (y0 := y0) hI2.le ly0
     have hql2 := hI2.le
     by_cases hcd2 : 4294967296 ≤ q2 ∨ 4294967296 * r2 + u0 < q2 * y0
     ·obtain ⟨z1, z2, z3⟩ := Go.D64.inv_next ly2 ly0 (by omega) lw0 hI2 hcd2
      have hqd := fun h => Go.D64.inv_break hyp ly0 z2 z3 h
      rw [hC] at hqd
      conv => whnf
      repeat' (first | refine WA_seq ?_ | refine WA_block ?_ | ((first | refine WA_region ttok ?_ | refine WA_draw ttok mixed ?_ | refine WA_cond ?_ | refine WA_skip ?_ | refine WA_exit ?_ | refine WA_ret ?_); conv => whnf) | (refine And.intro (fun h => ?_) (fun h => ?_) <;> (try simp only [brsA] at h) <;> conv => whnf) | (refine WR_fit ?_ ?_; (focus (first | exact wr_i64 (by omega) | exact wr_u64 (by omega) | exact wr_u8 (by omega) | exact wr_i32 (by omega) | exact wr_u32 (by omega))); conv => whnf) | ((first | refine WR_wrap ?_ | (refine And.intro (a := indepB _ _ = true) ?_ ?_; (focus kernel_rfl)) | refine And.intro rfl ?_ | (refine And.intro ?_ ?_; (focus (first | omega | decide | (dsimp only; omega) | (simp at *; omega))))); conv => whnf))
      all_goals first | (exfalso; omega) | skip
      all_goals first
       | (refine ⟨(q2 - 1, r2 + y1), ⟨z2, (by show r2 + y1 < 4294967296; omega)⟩, (by show q2 - 1 < q2; omega), ?_⟩; (conv => whnf); (repeat (first | exact rfl | exact trivial | exact Or.inl (fun _ _ => rfl) | exact (fun _ => rfl) | exact (fun _ _ => rfl) | exact Or.inl (fun _ hi => absurd hi (Nat.not_lt_zero _)) | ((first | refine And.intro rfl ?_ | refine And.intro (Or.inl (fun _ _ => rfl)) ?_ | refine And.intro (fun _ => rfl) ?_ | refine And.intro (fun _ _ => rfl) ?_ | (refine And.intro ?_ ?_; rotate_left)); conv => whnf))); all_goals omega)
       | skip
      all_goals
       have hqc := hqd (by omega)
       have hqj : (q2 : Int) - 1 = (c : Int) := by omega
       have hz2 : IntKind.u64.wrap (IntKind.u64.wrap (IntKind.u64.wrap ((b : Int) * 4294967296) + (u0 : Int)) - IntKind.u64.wrap ((c : Int) * (Y : Int))) = (d : Int) := by
        simp only [IntKind.wrap_u64]; omega
       simp only [hqj, hz2, w_pow s hs64, w_fdiv]
       all_goals (refine ⟨?_, (by first | trivial | rfl)⟩; first | omega | (simp only [IntKind.wrap_u64]; omega))
     ·have hqc := Go.D64.inv_done hyp hI2 (by omega)
      rw [hC] at hqc
      have hqj : (q2 : Int) = (c : Int) := by omega
      conv => whnf
      repeat' (first | refine WA_seq ?_ | refine WA_block ?_ | ((first | refine WA_region ttok ?_ | refine WA_draw ttok mixed ?_ | refine WA_cond ?_ | refine WA_skip ?_ | refine WA_exit ?_ | refine WA_ret ?_); conv => whnf) | (refine And.intro (fun h => ?_) (fun h => ?_) <;> (try simp only [brsA] at h) <;> conv => whnf) | (refine WR_fit ?_ ?_; (focus (first | exact wr_i64 (by omega) | exact wr_u64 (by omega) | exact wr_u8 (by omega) | exact wr_i32 (by omega) | exact wr_u32 (by omega))); conv => whnf) | ((first | refine WR_wrap ?_ | (refine And.intro (a := indepB _ _ = true) ?_ ?_; (focus kernel_rfl)) | refine And.intro rfl ?_ | (refine And.intro ?_ ?_; (focus (first | omega | decide | (dsimp only; omega) | (simp at *; omega))))); conv => whnf))
      all_goals first | (exfalso; omega) | skip
      have hz2 : IntKind.u64.wrap (IntKind.u64.wrap (IntKind.u64.wrap ((b : Int) * 4294967296) + (u0 : Int)) - IntKind.u64.wrap ((c : Int) * (Y : Int))) = (d : Int) := by
       simp only [IntKind.wrap_u64]; omega
      simp only [hqj, hz2, w_pow s hs64, w_fdiv]
      all_goals (refine ⟨?_, (by first | trivial | rfl)⟩; first | omega | (simp only [IntKind.wrap_u64]; omega))
  ·have hqa := Go.D64.inv_done hyp hI (by omega)
   rw [hA] at hqa
   have hqi : (q : Int) = (a : Int) := by omega
   conv => whnf
   repeat' (first | refine WA_seq ?_ | refine WA_block ?_ | ((first | refine WA_region ttok ?_ | refine WA_draw ttok mixed ?_ | refine WA_cond ?_ | refine WA_skip ?_ | refine WA_exit ?_ | refine WA_ret ?_); conv => whnf) | (refine And.intro (fun h => ?_) (fun h => ?_) <;> (try simp only [brsA] at h) <;> conv => whnf) | (refine WR_fit ?_ ?_; (focus (first | exact wr_i64 (by omega) | exact wr_u64 (by omega) | exact wr_u8 (by omega) | exact wr_i32 (by omega) | exact wr_u32 (by omega))); conv => whnf) | ((first | refine WR_wrap ?_ | (refine And.intro (a := indepB _ _ = true) ?_ ?_; (focus kernel_rfl)) | refine And.intro rfl ?_ | (refine And.intro ?_ ?_; (focus (first | omega | decide | (dsimp only; omega) | (simp at *; omega))))); conv => whnf))
   all_goals first | (exfalso; omega) | skip
   refine WA_loopI (fun x : Nat × Nat => match x with | (q, r) => Go.D64.Inv y1 y0 b u0 q r ∧ r < 4294967296) (fun x => match x with | (q, r) => [(15, .int .u64 (a : Int)), (17, .int .u64 (b : Int)), (18, .int .u64 (q : Int)), (16, .int .u64 (r : Int))]) (fun _ => []) (fun x => x.1) (R, b - R * y1) ⟨i3, by omega⟩ ?_ ?_
   ·have hz : IntKind.u64.wrap (IntKind.u64.wrap (IntKind.u64.wrap ((U : Int) * 4294967296) + (u1 : Int)) - IntKind.u64.wrap ((a : Int) * (Y : Int))) = (b : Int) := by
     simp only [IntKind.wrap_u64]; omega
    have hR : IntKind.u64.wrap (R : Int) = (R : Int) := w_wrap R (by omega)
    conv => whnf
    repeat (first | exact rfl | exact trivial | exact Or.inl (fun _ _ => rfl) | exact (fun _ => rfl) | exact (fun _ _ => rfl) | exact Or.inl (fun _ hi => absurd hi (Nat.not_lt_zero _)) | ((first | refine And.intro rfl ?_ | refine And.intro (Or.inl (fun _ _ => rfl)) ?_ | refine And.intro (fun _ => rfl) ?_ | refine And.intro (fun _ _ => rfl) ?_ | (refine And.intro ?_ ?_; rotate_left)); conv => whnf))
    all_goals (try simp only [hqi, hz, t2, hR])
    all_goals first | rfl | omega | (simp only [IntKind.wrap_u64]; omega)
   ·rintro ⟨q2, r2⟩ ⟨hI2, hr2⟩
    have hq2 := Go.D64.qy_lt (y0 := y0) hI2.le ly0
    have hql2 := hI2.le
    by_cases hcd2 : 4294967296 ≤ q2 ∨ 4294967296 * r2 + u0 < q2 * y0
    ·obtain ⟨z1, z2, z3⟩ := Go.D64.inv_next ly2 ly0 (by omega) lw0 hI2 hcd2
     have hqd := fun h => Go.D64.inv_break hyp ly0 z2 z3 h
     rw [hC] at hqd
     conv => whnf
     repeat' (first | refine WA_seq ?_ | refine WA_block ?_ | ((first | refine WA_region ttok ?_ | refine WA_draw ttok mixed ?_ | refine WA_cond ?_ | refine WA_skip ?_ | refine WA_exit ?_ | refine WA_ret ?_); conv => whnf) | (refine And.intro (fun h => ?_) (fun h => ?_) <;> (try simp only [brsA] at h) <;> conv => whnf) | (refine WR_fit ?_ ?_; (focus (first | exact wr_i64 (by omega) | exact wr_u64 (by omega) | exact wr_u8 (by omega) | exact wr_i32 (by omega) | exact wr_u32 (by omega))); conv => whnf) | ((first | refine WR_wrap ?_ | (refine And.intro (a := indepB _ _ = true) ?_ ?_; (focus kernel_rfl)) | refine And.intro rfl ?_ | (refine And.intro ?_ ?_; (focus (first | omega | decide | (dsimp only; omega) | (simp at *; omega))))); conv => whnf))
     all_goals first | (exfalso; omega) | skip
     all_goals first
      | (refine ⟨(q2 - 1, r2 + y1), ⟨z2, (by show r2 + y1 < 4294967296; omega)⟩, (by show q2 - 1 < q2; omega), ?_⟩; (conv => whnf); (repeat (first | exact rfl | exact trivial | exact Or.inl (fun _ _ => rfl) | exact (fun _ => rfl) | exact (fun _ _ => rfl) | exact Or.inl (fun _ hi => absurd hi (Nat.not_lt_zero _)) | ((first | refine And.intro rfl ?_ | refine And.intro (Or.inl (fun _ _ => rfl)) ?_ | refine And.intro (fun _ => rfl) ?_ | refine And.intro (fun _ _ => rfl) ?_ | (refine And.intro ?_ ?_; rotate_left)); conv => whnf))); all_goals omega)
      | skip
     all_goals
      have hqc := hqd (by omega)
      have hqj : (q2 : Int) - 1 = (c : Int) := by omega
      have hz2 : IntKind.u64.wrap (IntKind.u64.wrap (IntKind.u64.wrap ((b : Int) * 4294967296) + (u0 : Int)) - IntKind.u64.wrap ((c : Int) * (Y : Int))) = (d : Int) := by
       simp only [IntKind.wrap_u64]; omega
      simp only [hqj, hz2, w_pow s hs64, w_fdiv]
      all_goals (refine ⟨?_, (by first | trivial | rfl)⟩; first | omega | (simp only [IntKind.wrap_u64]; omega))
    ·have hqc := Go.D64.inv_done hyp hI2 (by omega)
     rw [hC] at hqc
     have hqj : (q2 : Int) = (c : Int) := by omega
     conv => whnf
     repeat' (first | refine WA_seq ?_ | refine WA_block ?_ | ((first | refine WA_region ttok ?_ | refine WA_draw ttok mixed ?_ | refine WA_cond ?_ | refine WA_skip ?_ | refine WA_exit ?_ | refine WA_ret ?_); conv => whnf) | (refine And.intro (fun h => ?_) (fun h => ?_) <;> (try simp only [brsA] at h) <;> conv => whnf) | (refine WR_fit ?_ ?_; (focus (first | exact wr_i64 (by omega) | exact wr_u64 (by omega) | exact wr_u8 (by omega) | exact wr_i32 (by omega) | exact wr_u32 (by omega))); conv => whnf) | ((first | refine WR_wrap ?_ | (refine And.intro (a := indepB _ _ = true) ?_ ?_; (focus kernel_rfl)) | refine And.intro rfl ?_ | (refine And.intro ?_ ?_; (focus (first | omega | decide | (dsimp only; omega) | (simp at *; omega))))); conv => whnf))
     all_goals first | (exfalso; omega) | skip
     have hz2 : IntKind.u64.wrap (IntKind.u64.wrap (IntKind.u64.wrap ((b : Int) * 4294967296) + (u0 : Int)) - IntKind.u64.wrap ((c : Int) * (Y : Int))) = (d : Int) := by
      simp only [IntKind.wrap_u64]; omega
     simp only [hqj, hz2, w_pow s hs64, w_fdiv]
     all_goals (refine ⟨?_, (by first | trivial | rfl)⟩; first | omega | (simp only [IntKind.wrap_u64]; omega))
theorem div64_c (hi lo y : Nat) (hlo : lo < 18446744073709551616) (hy : y < 18446744073709551616) (hh : hi < y) :
  ACalls Tryz.prog G 176 [.int .u64 hi, .int .u64 lo, .int .u64 y] (.tup [.int .u64 (((hi * 18446744073709551616 + lo) / y : Nat) : Int), .int .u64 (((hi * 18446744073709551616 + lo) % y : Nat) : Int)]) := by
 by_cases h0 : hi = 0
 ·subst h0
  rw [Nat.zero_mul, Nat.zero_add]
  exact div64_0 lo y hlo hy hh
 ·have hl := Nat.log2_self_le (n := y) (by omega)
  have hl2 := Nat.lt_log2_self (n := y)
  have h64 : Nat.log2 y < 64 := (Nat.log2_lt (by omega)).2 hy
  exact div64_1 hi lo y (Nat.log2 y + 1) hlo hy hh (by omega) ⟨by omega, by omega⟩ hl hl2
end Go.Proofs.YtcomiiakkhafpaaGreat
namespace Go.Proofs.YtcomiiakkhafpaaGreat
open Go.Proofs.YtcomiiakkhafpaaGreat.Am
variable [Inhabited DRT]
variable {G : GInv}
theorem two64_c (n : Int) (h1 : -9223372036854775808 ≤ n) (h2 : n ≤ 9223372036854775807) : ACalls Tryz.prog G 110 [.int .i64 n] (.tup [.sb (decide (n < 0)), .int .u64 (n.natAbs : Int)]) := by
 refine ACalls.of_WA ttok Tryz.func110 rfl rfl _ rfl ?_
 conv => whnf
 repeat' (first | refine sq ?_ | refine bk ?_ | ((first | refine rg ttok ?_ | refine dw ttok mixed ?_ | refine cd ?_ | refine sk ?_ | refine xt ?_ | refine rt ?_); conv => whnf) | (refine And.intro (fun h => ?_) (fun h => ?_) <;> (try simp only [brsA] at h) <;> conv => whnf) | ((first | refine wf ?_ | refine wp' ?_ | refine ai ?_ | refine And.intro rfl ?_ | refine an ?_); conv => whnf))
 all_goals first | omega | (simp only [IntKind.wrap_u64]; omega)
theorem wmul64_c (x y : Nat) (hx : x < 18446744073709551616) (hy : y < 18446744073709551616) :
  ACalls Tryz.prog G 160 [.int .u64 x, .int .u64 y] (.tup [.int .u64 ((x * y / 18446744073709551616 : Nat) : Int), .int .u64 ((x * y % 18446744073709551616 : Nat) : Int)]) := by
 have hc := mul64_c (G := G) x y hx hy
 generalize x * y / 18446744073709551616 = a at *
 generalize x * y % 18446744073709551616 = b at *
 refine ACalls.of_WA ttok Tryz.func160 rfl rfl _ rfl ?_
 conv => whnf
 repeat' (first | refine sq ?_ | refine bk ?_ | ((first | refine rg ttok ?_ | refine dw ttok mixed ?_ | refine cd ?_ | refine sk ?_ | refine xt ?_ | refine rt ?_); conv => whnf) | (refine And.intro (fun h => ?_) (fun h => ?_) <;> (try simp only [brsA] at h) <;> conv => whnf) | ((first | refine Or.inl ?_ | skip); (conv => whnf); refine ⟨_, hc, ?_⟩; conv => whnf) | ((first | refine wf ?_ | refine wp' ?_ | refine ai ?_ | refine And.intro rfl ?_ | refine an ?_); conv => whnf))
theorem wdiv64_c (hi lo y : Nat) (hlo : lo < 18446744073709551616) (hy : y < 18446744073709551616) (hh : hi < y) :
  ACalls Tryz.prog G 138 [.int .u64 hi, .int .u64 lo, .int .u64 y] (.tup [.int .u64 (((hi * 18446744073709551616 + lo) / y : Nat) : Int), .int .u64 (((hi * 18446744073709551616 + lo) % y : Nat) : Int), .sb true]) := by
 have hc := div64_c (G := G) hi lo y hlo hy hh
 generalize (hi * 18446744073709551616 + lo) / y = a at *
 generalize (hi * 18446744073709551616 + lo) % y = b at *
 refine ACalls.of_WA ttok Tryz.func138 rfl rfl _ rfl ?_
 conv => whnf
 repeat' (first | refine sq ?_ | refine bk ?_ | ((first | refine rg ttok ?_ | refine dw ttok mixed ?_ | refine cd ?_ | refine sk ?_ | refine xt ?_ | refine rt ?_); conv => whnf) | (refine And.intro (fun h => ?_) (fun h => ?_) <;> (try simp only [brsA] at h) <;> conv => whnf) | ((first | refine Or.inl ?_ | skip); (conv => whnf); refine ⟨_, hc, ?_⟩; conv => whnf) | ((first | refine wf ?_ | refine wp' ?_ | refine ai ?_ | refine And.intro rfl ?_ | refine an ?_); conv => whnf))
 all_goals first | (exfalso; omega) | trace_state
end Go.Proofs.YtcomiiakkhafpaaGreat

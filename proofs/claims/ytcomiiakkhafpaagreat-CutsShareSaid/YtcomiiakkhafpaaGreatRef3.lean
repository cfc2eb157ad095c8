/-
  The reference's greatest common divisors and whole numbers.
-/
import Derived.Test.YtcomiiakkhafpaaGreatRef2
set_option linter.unusedSimpArgs false
set_option linter.unusedSectionVars false
namespace Go.Proofs.YtcomiiakkhafpaaGreat
open Go.Proofs.YtcomiiakkhafpaaGreat.Am
variable [Inhabited DRT]
variable {G : GInv}
def boxN (v : Nat) : Blk := .box 30 [.int .u64 (wW v 0 : Nat), .int .u64 (wW v 1 : Nat), .int .u64 (wW v 2 : Nat), .int .u64 (wW v 3 : Nat), .int .u64 (wW v 4 : Nat), .int .u64 (wW v 5 : Nat), .int .u64 (wW v 6 : Nat), .int .u64 (wW v 7 : Nat)]
theorem wW_zero {b : Nat} (h : b < 65536 ^ 32) (h0 : wW b 0 = 0) (h1 : wW b 1 = 0) (h2 : wW b 2 = 0) (h3 : wW b 3 = 0) (h4 : wW b 4 = 0) (h5 : wW b 5 = 0) (h6 : wW b 6 = 0) (h7 : wW b 7 = 0) : b = 0 := by
 have e := wv_expl (wW_ok b)
 rw [wv_wW h, h0, h1, h2, h3, h4, h5, h6, h7] at e
 exact e
theorem pow_le_of {m t : Nat} (h : 2 ^ m < 2 ^ t) : m < t := (Nat.pow_lt_pow_iff_right (by omega)).1 h
theorem gcd_step {a b m : Nat} (h : b < a) (hb : 0 < b) {T : Nat} (hT : a * b * 2 ^ m < T) : b * (a % b) * 2 ^ (m + 1) < T := by
 have h1 : a % b < b := Nat.mod_lt _ hb
 have h2 : b * (a / b) + a % b = a := Nat.div_add_mod a b
 have h3 : 1 ≤ a / b := (Nat.le_div_iff_mul_le hb).2 (by omega)
 have h4 : b * 1 ≤ b * (a / b) := Nat.mul_le_mul_left _ h3
 have h5 : b * (2 * (a % b)) ≤ b * a := Nat.mul_le_mul_left _ (by omega)
 have h6 : b * (a % b) * 2 ^ (m + 1) = b * (2 * (a % b)) * 2 ^ m := by
  rw [Nat.pow_succ, Nat.mul_comm (2 ^ m) 2, ← Nat.mul_assoc, Nat.mul_assoc b, Nat.mul_comm (a % b) 2]
 rw [h6]
 refine Nat.lt_of_le_of_lt (Nat.mul_le_mul_right _ h5) ?_
 rw [Nat.mul_comm b a]; exact hT
def GcdI (T x y n a b : Nat) : Prop := n ≤ 1000 ∧ a < 65536 ^ 32 ∧ b < 65536 ^ 32 ∧ Nat.gcd a b = Nat.gcd x y ∧ (n = 0 ∧ b = y ∨ ∃ m, n = m + 1 ∧ b < a ∧ a * b * 2 ^ m < T)
set_option maxRecDepth 100000 in
set_option maxHeartbeats 1000000 in
theorem gcd_c (x y : Nat) (hx : x < 65536 ^ 32) (hy : y < 65536 ^ 32) (hyy : y * y < 2 ^ 990) : ACalls Tryz.prog G 92 [wideN x, wideN y] (wideN (Nat.gcd x y)) := by
 have ho := fun a b => overN_c (G := G) a b
 have hmax : ∀ m a b : Nat, 0 < b → b < a → a * b * 2 ^ m < 2 ^ 990 → m < 990 := fun m a b h1 h2 h3 => by
  refine pow_le_of (Nat.lt_of_le_of_lt ?_ h3)
  have : 1 ≤ a * b := Nat.mul_pos (by omega) h1
  have := Nat.mul_le_mul_right (2 ^ m) this
  omega
 generalize hT : 2 ^ 990 = T at *
 refine ACalls.of_WA ttok Tryz.func92 rfl rfl _ rfl ?_
 conv => whnf
 repeat (first | refine sq ?_ | refine bk ?_ | ((first | refine rg ttok ?_ | refine dw ttok mixed ?_ | refine cd ?_ | refine sk ?_ | refine xt ?_ | refine rt ?_); conv => whnf))
 refine WA_loopI (fun s : Nat × Nat × Nat => GcdI T x y s.1 s.2.1 s.2.2) (fun s => match s with | (n, _, _) => [(5, .int .i64 (n : Int))]) (fun s => match s with | (_, a, b) => [boxN a, boxN b, boxN 0]) (fun s => 1000 - s.1) (0, x, y) ⟨Nat.zero_le _, hx, hy, rfl, .inl ⟨rfl, rfl⟩⟩ ?_ ?_
 ·conv => whnf
  repeat (first | exact fa | ((first | refine fb ?_ | (refine And.intro ?_ ?_; rotate_left)); conv => whnf))
 ·rintro ⟨n, a, b⟩ hI
  have hI : GcdI T x y n a b := hI
  obtain ⟨hn, ha, hb, hg, hc⟩ := hI
  have ho := ho a b ha hb
  by_cases h0 : b = 0
  ·subst h0
   rw [Nat.gcd_zero_right] at hg
   subst hg
   conv => whnf
   repeat' (first | refine sq ?_ | refine bk ?_ | ((first | refine rg ttok ?_ | refine dw ttok mixed ?_ | refine cd ?_ | refine sk ?_ | refine xt ?_ | refine rt ?_); conv => whnf) | (refine And.intro (fun h => ?_) (fun h => ?_) <;> (try simp only [brsA] at h) <;> conv => whnf) | ((first | refine wf ?_ | refine wp' ?_ | refine ai ?_ | refine And.intro rfl ?_ | refine an ?_ | fail); conv => whnf))
   all_goals first
    | (rename_i h _; exact absurd h (by simp [wW]))
    | (exact absurd ‹_ = false› (by simp [wW]))
    | (repeat (first | exact rfl | exact trivial | (refine And.intro rfl ?_; conv => whnf)))
  ·have ho := ho (by omega)
   have hn' : n < 1000 := by
    rcases hc with ⟨e, _⟩ | ⟨m, e, h1, h2⟩
    ·omega
    ·have := hmax m a b (by omega) h1 h2; omega
   have hnx : GcdI T x y (n + 1) b (a % b) := by
    refine ⟨by omega, hb, Nat.lt_of_le_of_lt (Nat.mod_le _ _) ha, ?_, .inr ?_⟩
    ·rw [← hg, Nat.gcd_comm a b, Nat.gcd_rec b a, Nat.gcd_comm]
    ·have hml : a % b < b := Nat.mod_lt _ (by omega)
     rcases hc with ⟨e, e2⟩ | ⟨m, e, h1, h2⟩
     ·refine ⟨0, by omega, hml, ?_⟩
      rw [Nat.pow_zero, Nat.mul_one]
      refine Nat.lt_of_le_of_lt (Nat.mul_le_mul_left b (Nat.le_of_lt hml)) ?_
      rw [e2]; exact hyy
     ·exact ⟨m + 1, by omega, hml, gcd_step h1 (by omega) h2⟩
   conv => whnf
   repeat' (first | refine sq ?_ | refine bk ?_ | ((first | refine rg ttok ?_ | refine dw ttok mixed ?_ | refine cd ?_ | refine sk ?_ | refine xt ?_ | refine rt ?_); conv => whnf) | (refine And.intro (fun h => ?_) (fun h => ?_) <;> (try simp only [brsA] at h) <;> conv => whnf) | ((first | refine Or.inl ?_ | skip); (conv => whnf); refine ⟨_, ho, ?_⟩; conv => whnf) | ((first | refine wf ?_ | refine wp' ?_ | refine ai ?_ | refine And.intro rfl ?_ | refine an ?_ | fail); conv => whnf))
   all_goals first | contradiction | (exfalso; omega) | skip
   ·refine ⟨(n + 1, b, a % b), hnx, (by show 1000 - (n + 1) < 1000 - n; omega), ?_⟩
    conv => whnf
    repeat (first | exact fa | ((first | refine fb ?_ | (refine And.intro ?_ ?_; rotate_left)); conv => whnf))
    all_goals first | omega | trace_state
   ·exfalso
    have h := ‹_ = true›
    simp only [Bool.and_eq_true, beq_iff_eq, and_true] at h
    obtain ⟨z0, z1, z2, z3, z4, z5, z6, z7⟩ := h
    exact h0 (wW_zero hb (by omega) (by omega) (by omega) (by omega) (by omega) (by omega) (by omega) (by omega))
end Go.Proofs.YtcomiiakkhafpaaGreat
namespace Go.Proofs.YtcomiiakkhafpaaGreat
open Go.Proofs.YtcomiiakkhafpaaGreat.Am
variable [Inhabited DRT]
variable {G : GInv}
/-! ### Whole numbers -/
def sgnA (neg : Bool) (v : Nat) : A := .agg [.sb neg, .int .u64 (wW v 0 : Nat), .int .u64 (wW v 1 : Nat), .int .u64 (wW v 2 : Nat), .int .u64 (wW v 3 : Nat), .int .u64 (wW v 4 : Nat), .int .u64 (wW v 5 : Nat), .int .u64 (wW v 6 : Nat), .int .u64 (wW v 7 : Nat)]
def intN (z : Int) : A := sgnA (decide (z < 0)) z.natAbs
theorem wW_low {v : Nat} (h : v < 18446744073709551616) (j : Nat) : wW v j = if j = 0 then v else 0 := by
 unfold wW
 split
 ·rename_i e; subst e
  rw [Nat.pow_zero, Nat.div_one, Nat.mod_eq_of_lt h]
 ·rename_i e
  have : 18446744073709551616 ^ 1 ≤ 18446744073709551616 ^ j := Nat.pow_le_pow_right (by omega) (by omega)
  rw [Nat.div_eq_of_lt (by omega)]
set_option maxRecDepth 100000 in
theorem of5_c (n : Int) (h1 : -9223372036854775808 ≤ n) (h2 : n ≤ 9223372036854775807) : ACalls Tryz.prog G 60 [.int .i64 n] (intN n) := by
 have hl := fun j => wW_low (v := n.natAbs) (by omega) j
 have l0 := hl 0
 have l1 := hl 1
 have l2 := hl 2
 have l3 := hl 3
 have l4 := hl 4
 have l5 := hl 5
 have l6 := hl 6
 have l7 := hl 7
 unfold intN sgnA
 rw [l0, l1, l2, l3, l4, l5, l6, l7]
 refine ACalls.of_WA ttok Tryz.func60 rfl rfl _ rfl ?_
 conv => whnf
 repeat' (first | refine sq ?_ | refine bk ?_ | ((first | refine rg ttok ?_ | refine dw ttok mixed ?_ | refine cd ?_ | refine sk ?_ | refine xt ?_ | refine rt ?_); conv => whnf) | (refine And.intro (fun h => ?_) (fun h => ?_) <;> (try simp only [brsA] at h) <;> conv => whnf) | ((first | refine wf ?_ | refine wp' ?_ | refine ai ?_ | refine And.intro rfl ?_ | refine an ?_ | fail); conv => whnf))
 all_goals first | contradiction | (exfalso; omega) | skip
 all_goals rfl
set_option maxRecDepth 100000 in
theorem fix_c (neg : Bool) (v : Nat) (hv : v < 65536 ^ 32) : ACalls Tryz.prog G 94 [sgnA neg v] (sgnA (neg && decide (v ≠ 0)) v) := by
 refine ACalls.of_WA ttok Tryz.func94 rfl rfl _ rfl ?_
 conv => whnf
 repeat' (first | refine sq ?_ | refine bk ?_ | ((first | refine rg ttok ?_ | refine dw ttok mixed ?_ | refine cd ?_ | refine sk ?_ | refine xt ?_ | refine rt ?_); conv => whnf) | (refine And.intro (fun h => ?_) (fun h => ?_) <;> (try simp only [brsA] at h) <;> conv => whnf) | ((first | refine wf ?_ | refine wp' ?_ | refine ai ?_ | refine And.intro rfl ?_ | refine an ?_ | fail); conv => whnf))
 all_goals first | contradiction | (exfalso; omega) | skip
 ·have h := ‹_ = true›
  simp only [Bool.and_eq_true, beq_iff_eq, and_true] at h
  obtain ⟨z0, z1, z2, z3, z4, z5, z6, z7⟩ := h
  have e := wW_zero hv (by omega) (by omega) (by omega) (by omega) (by omega) (by omega) (by omega) (by omega)
  refine And.intro (by rw [decide_eq_false (fun q => q e), Bool.and_false]) ?_
  conv => whnf
  repeat (first | exact fa | ((first | refine fb ?_ | (refine And.intro ?_ ?_; rotate_left)); conv => whnf))
 ·have h := ‹_ = false›
  have e : v ≠ 0 := fun q => by
   subst q
   exact absurd h (by simp [wW])
  refine And.intro (by rw [decide_eq_true e, Bool.and_true]) ?_
  conv => whnf
  repeat (first | exact fa | ((first | refine fb ?_ | (refine And.intro ?_ ?_; rotate_left)); conv => whnf))
end Go.Proofs.YtcomiiakkhafpaaGreat
namespace Go.Proofs.YtcomiiakkhafpaaGreat
open Go.Proofs.YtcomiiakkhafpaaGreat.Am
variable [Inhabited DRT]
variable {G : GInv}
theorem wideN_c (d : List Nat) (hd : DigP d) (ld : d.length ≤ 1000000) (hv : val d < 65536 ^ 32) : ACalls Tryz.prog G 134 [digA d] (.tup [wideN (val d), .sb true]) := by
 have h := wide03_c (G := G) d hd ld
 rw [wW_same (word_ok hd), wv_word hd hv, decide_eq_true ((ZP_val hd).2 hv)] at h
 exact h
set_option maxRecDepth 100000 in
set_option maxHeartbeats 1000000 in
theorem mul5_c (p q : Bool) (v w : Nat) (hv : v < 65536 ^ 32) (hw : w < 65536 ^ 32) (hvw : v * w < 65536 ^ 32) :
  ACalls Tryz.prog G 95 [sgnA p v, sgnA q w] (.tup [sgnA ((p != q) && decide (v * w ≠ 0)) (v * w), .sb true]) := by
 have c1 := digits03_c (G := G) (wW v) (wW_ok v)
 have c2 := digits03_c (G := G) (wW w) (wW_ok w)
 have dv := dW_ok (wW_ok v)
 have dw := dW_ok (wW_ok w)
 have c3 := times_c (G := G) (dW (wW v)) (dW (wW w)) dv dw (by rw [dW_len]; omega) (by rw [dW_len]; omega)
 have ht := timesL_val dv dw
 have e1 : val (dW (wW v)) = v := wv_wW hv
 have e2 : val (dW (wW w)) = w := wv_wW hw
 rw [e1, e2] at ht
 have c4 := wideN_c (G := G) _ (timesL_ok dv dw) (by rw [timesL_len, dW_len, dW_len]; omega) (by rw [ht]; exact hvw)
 rw [ht] at c4
 generalize timesL (dW (wW v)) (dW (wW w)) = L at *
 have c5 := fun b => fix_c (G := G) b (v * w) hvw
 generalize v * w = u at *
 clear e1 e2 ht dv dw
 unfold sgnA wideN at *
 generalize dW (wW v) = DV at *
 generalize dW (wW w) = DW at *
 generalize wW v = V at *
 generalize wW w = W at *
 generalize wW u = U at *
 refine ACalls.of_WA ttok Tryz.func95 rfl rfl _ rfl ?_
 conv => whnf
 repeat' (first | refine sq ?_ | refine bk ?_ | ((first | refine rg ttok ?_ | refine dw ttok mixed ?_ | refine cd ?_ | refine sk ?_ | refine xt ?_ | refine rt ?_); conv => whnf) | (refine And.intro (fun h => ?_) (fun h => ?_) <;> (try simp only [brsA] at h) <;> conv => whnf) | ((first | refine Or.inl ?_ | skip); (conv => whnf); (first | refine ⟨_, c1, ?_⟩ | refine ⟨_, c2, ?_⟩ | refine ⟨_, c3, ?_⟩ | refine ⟨_, c4, ?_⟩ | refine ⟨_, c5 _, ?_⟩); conv => whnf) | ((first | refine wf ?_ | refine wp' ?_ | refine ai ?_ | refine And.intro rfl ?_ | refine an ?_ | fail); conv => whnf))
 all_goals first | contradiction | (exfalso; omega) | skip
end Go.Proofs.YtcomiiakkhafpaaGreat
namespace Go.Proofs.YtcomiiakkhafpaaGreat
open Go.Proofs.YtcomiiakkhafpaaGreat.Am
variable [Inhabited DRT]
variable {G : GInv}
end Go.Proofs.YtcomiiakkhafpaaGreat
namespace Go.Proofs.YtcomiiakkhafpaaGreat
open Go.Proofs.YtcomiiakkhafpaaGreat.Am
variable [Inhabited DRT]
variable {G : GInv}
end Go.Proofs.YtcomiiakkhafpaaGreat
namespace Go.Proofs.YtcomiiakkhafpaaGreat
open Go.Proofs.YtcomiiakkhafpaaGreat.Am
variable [Inhabited DRT]
variable {G : GInv}
def addV (p q : Bool) (v w : Nat) : Nat := if p = q then v + w else if v < w then w - v else v - w
def addS (p q : Bool) (v w : Nat) : Bool := if p = q then p else if v < w then q else p
set_option maxRecDepth 100000 in
set_option maxHeartbeats 1000000 in
theorem add5_c (p q : Bool) (v w : Nat) (hv : v < 65536 ^ 32) (hw : w < 65536 ^ 32) (hvw : v + w < 65536 ^ 32) :
  ACalls Tryz.prog G 108 [sgnA p v, sgnA q w] (.tup [sgnA (addS p q v w && decide (addV p q v w ≠ 0)) (addV p q v w), .sb true]) := by
 have c1 := digits03_c (G := G) (wW v) (wW_ok v)
 have c2 := digits03_c (G := G) (wW w) (wW_ok w)
 have dv := dW_ok (wW_ok v)
 have dw := dW_ok (wW_ok w)
 have lv := dW_len (wW v)
 have lw := dW_len (wW w)
 have e1 : val (dW (wW v)) = v := wv_wW hv
 have e2 : val (dW (wW w)) = w := wv_wW hw
 generalize dW (wW v) = DV at *
 generalize dW (wW w) = DW at *
 have c3 := less_c (G := G) DV DW dv dw (by omega) (by omega)
 rw [e1, e2] at c3
 have c5 := fun b => fix_c (G := G) b (addV p q v w) (by unfold addV; split <;> (try split) <;> omega)
 have c4 : ∀ L, DigP L → L.length ≤ 40 → val L = addV p q v w → ACalls Tryz.prog G 134 [digA L] (.tup [wideN (addV p q v w), .sb true]) := fun L h1 h2 h3 => by
  have := wideN_c (G := G) L h1 (by omega) (by rw [h3]; unfold addV; split <;> (try split) <;> omega)
  rw [h3] at this; exact this
 by_cases hpq : p = q
 ·have c6 := plus_c (G := G) DV DW dv dw (by omega) (by omega)
  have hl := plusL_le dv dw
  have c4 := c4 (plusL DV DW) (plusL_ok _ _) (by omega) (by rw [plusL_val dv dw, addV, if_pos hpq]; omega)
  have hs : addS p q v w = p := by rw [addS, if_pos hpq]
  rw [hs]
  subst hpq
  generalize plusL DV DW = L at *
  generalize addV p p v w = u at *
  clear hv hw hvw e1 e2 c3 hs
  unfold sgnA wideN at *
  generalize wW v = V at *
  generalize wW w = W at *
  generalize wW u = U at *
  refine ACalls.of_WA ttok Tryz.func108 rfl rfl _ rfl ?_
  conv => whnf
  repeat' (first | refine WA_seq ?_ | refine WA_block ?_ | ((first | refine WA_region ttok ?_ | refine WA_draw ttok mixed ?_ | refine WA_cond ?_ | refine WA_skip ?_ | refine WA_exit ?_ | refine WA_ret ?_); conv => whnf) | (refine And.intro (fun h => ?_) (fun h => ?_) <;> (try simp only [brsA] at h) <;> conv => whnf) | (refine Or.inl ?_; (conv => whnf); refine ⟨_, c1, ?_⟩; conv => whnf) | (refine Or.inr (Or.inr (Or.inl ?_)); (conv => whnf); refine ⟨_, c1, ?_⟩; conv => whnf) | (refine Exists.intro _ (And.intro (c1) ?_); conv => whnf) | (refine Or.inl ?_; (conv => whnf); refine ⟨_, c2, ?_⟩; conv => whnf) | (refine Or.inr (Or.inr (Or.inl ?_)); (conv => whnf); refine ⟨_, c2, ?_⟩; conv => whnf) | (refine Exists.intro _ (And.intro (c2) ?_); conv => whnf) | (refine Or.inl ?_; (conv => whnf); refine ⟨_, c6, ?_⟩; conv => whnf) | (refine Or.inr (Or.inr (Or.inl ?_)); (conv => whnf); refine ⟨_, c6, ?_⟩; conv => whnf) | (refine Exists.intro _ (And.intro (c6) ?_); conv => whnf) | (refine Or.inl ?_; (conv => whnf); refine ⟨_, c4, ?_⟩; conv => whnf) | (refine Or.inr (Or.inr (Or.inl ?_)); (conv => whnf); refine ⟨_, c4, ?_⟩; conv => whnf) | (refine Exists.intro _ (And.intro (c4) ?_); conv => whnf) | (refine Or.inl ?_; (conv => whnf); refine ⟨_, c5 _, ?_⟩; conv => whnf) | (refine Or.inr (Or.inr (Or.inl ?_)); (conv => whnf); refine ⟨_, c5 _, ?_⟩; conv => whnf) | (refine Exists.intro _ (And.intro (c5 _) ?_); conv => whnf) | (refine WR_fit ?_ ?_; (focus (first | exact wr_i64 (by omega) | exact wr_u64 (by omega) | exact wr_u8 (by omega) | exact wr_i32 (by omega) | exact wr_u32 (by omega))); conv => whnf) | ((first | refine WR_wrap ?_ | (refine And.intro (a := indepB _ _ = true) ?_ ?_; (focus kernel_rfl)) | refine And.intro rfl ?_ | (refine And.intro ?_ ?_; (focus (first | omega | decide | (dsimp only; omega) | (simp at *; omega))))); conv => whnf))
  all_goals first | contradiction | (exfalso; omega) | skip
 ·by_cases hlt : v < w
  ·have hle : val DV ≤ val DW := by omega
   have c6 := minus_c (G := G) DW DV dw dv (by omega)
   have c4 := c4 (minusL DW DV) (minusL_ok _ _) (by rw [minusL_len]; omega) (by rw [minusL_val dw dv hle, addV, if_neg hpq, if_pos hlt]; omega)
   have hs : addS p q v w = q := by rw [addS, if_neg hpq, if_pos hlt]
   rw [hs]
   rw [decide_eq_true hlt] at c3
   generalize minusL DW DV = L at *
   generalize addV p q v w = u at *
   clear hv hw hvw e1 e2 hs hle
   unfold sgnA wideN at *
   generalize wW v = V at *
   generalize wW w = W at *
   generalize wW u = U at *
   refine ACalls.of_WA ttok Tryz.func108 rfl rfl _ rfl ?_
   conv => whnf
   repeat' (first | refine WA_seq ?_ | refine WA_block ?_ | ((first | refine WA_region ttok ?_ | refine WA_draw ttok mixed ?_ | refine WA_cond ?_ | refine WA_skip ?_ | refine WA_exit ?_ | refine WA_ret ?_); conv => whnf) | (refine And.intro (fun h => ?_) (fun h => ?_) <;> (try simp only [brsA] at h) <;> conv => whnf) | (refine Or.inl ?_; (conv => whnf); refine ⟨_, c1, ?_⟩; conv => whnf) | (refine Or.inr (Or.inr (Or.inl ?_)); (conv => whnf); refine ⟨_, c1, ?_⟩; conv => whnf) | (refine Exists.intro _ (And.intro (c1) ?_); conv => whnf) | (refine Or.inl ?_; (conv => whnf); refine ⟨_, c2, ?_⟩; conv => whnf) | (refine Or.inr (Or.inr (Or.inl ?_)); (conv => whnf); refine ⟨_, c2, ?_⟩; conv => whnf) | (refine Exists.intro _ (And.intro (c2) ?_); conv => whnf) | (refine Or.inl ?_; (conv => whnf); refine ⟨_, c3, ?_⟩; conv => whnf) | (refine Or.inr (Or.inr (Or.inl ?_)); (conv => whnf); refine ⟨_, c3, ?_⟩; conv => whnf) | (refine Exists.intro _ (And.intro (c3) ?_); conv => whnf) | (refine Or.inl ?_; (conv => whnf); refine ⟨_, c6, ?_⟩; conv => whnf) | (refine Or.inr (Or.inr (Or.inl ?_)); (conv => whnf); refine ⟨_, c6, ?_⟩; conv => whnf) | (refine Exists.intro _ (And.intro (c6) ?_); conv => whnf) | (refine Or.inl ?_; (conv => whnf); refine ⟨_, c4, ?_⟩; conv => whnf) | (refine Or.inr (Or.inr (Or.inl ?_)); (conv => whnf); refine ⟨_, c4, ?_⟩; conv => whnf) | (refine Exists.intro _ (And.intro (c4) ?_); conv => whnf) | (refine Or.inl ?_; (conv => whnf); refine ⟨_, c5 _, ?_⟩; conv => whnf) | (refine Or.inr (Or.inr (Or.inl ?_)); (conv => whnf); refine ⟨_, c5 _, ?_⟩; conv => whnf) | (refine Exists.intro _ (And.intro (c5 _) ?_); conv => whnf) | (refine WR_fit ?_ ?_; (focus (first | exact wr_i64 (by omega) | exact wr_u64 (by omega) | exact wr_u8 (by omega) | exact wr_i32 (by omega) | exact wr_u32 (by omega))); conv => whnf) | ((first | refine WR_wrap ?_ | (refine And.intro (a := indepB _ _ = true) ?_ ?_; (focus kernel_rfl)) | refine And.intro rfl ?_ | (refine And.intro ?_ ?_; (focus (first | omega | decide | (dsimp only; omega) | (simp at *; omega))))); conv => whnf))
   all_goals first | contradiction | (exfalso; omega) | skip
  ·have hle : val DW ≤ val DV := by omega
   have c6 := minus_c (G := G) DV DW dv dw (by omega)
   have c4 := c4 (minusL DV DW) (minusL_ok _ _) (by rw [minusL_len]; omega) (by rw [minusL_val dv dw hle, addV, if_neg hpq, if_neg hlt]; omega)
   have hs : addS p q v w = p := by rw [addS, if_neg hpq, if_neg hlt]
   rw [hs]
   rw [decide_eq_false hlt] at c3
   generalize minusL DV DW = L at *
   generalize addV p q v w = u at *
   clear hv hw hvw e1 e2 hs hle
   unfold sgnA wideN at *
   generalize wW v = V at *
   generalize wW w = W at *
   generalize wW u = U at *
   refine ACalls.of_WA ttok Tryz.func108 rfl rfl _ rfl ?_
   conv => whnf
   repeat' (first | refine WA_seq ?_ | refine WA_block ?_ | ((first | refine WA_region ttok ?_ | refine WA_draw ttok mixed ?_ | refine WA_cond ?_ | refine WA_skip ?_ | refine WA_exit ?_ | refine WA_ret ?_); conv => whnf) | (refine And.intro (fun h => ?_) (fun h => ?_) <;> (try simp only [brsA] at h) <;> conv => whnf) | (refine Or.inl ?_; (conv => whnf); refine ⟨_, c1, ?_⟩; conv => whnf) | (refine Or.inr (Or.inr (Or.inl ?_)); (conv => whnf); refine ⟨_, c1, ?_⟩; conv => whnf) | (refine Exists.intro _ (And.intro (c1) ?_); conv => whnf) | (refine Or.inl ?_; (conv => whnf); refine ⟨_, c2, ?_⟩; conv => whnf) | (refine Or.inr (Or.inr (Or.inl ?_)); (conv => whnf); refine ⟨_, c2, ?_⟩; conv => whnf) | (refine Exists.intro _ (And.intro (c2) ?_); conv => whnf) | (refine Or.inl ?_; (conv => whnf); refine ⟨_, c3, ?_⟩; conv => whnf) | (refine Or.inr (Or.inr (Or.inl ?_)); (conv => whnf); refine ⟨_, c3, ?_⟩; conv => whnf) | (refine Exists.intro _ (And.intro (c3) ?_); conv => whnf) | (refine Or.inl ?_; (conv => whnf); refine ⟨_, c6, ?_⟩; conv => whnf) | (refine Or.inr (Or.inr (Or.inl ?_)); (conv => whnf); refine ⟨_, c6, ?_⟩; conv => whnf) | (refine Exists.intro _ (And.intro (c6) ?_); conv => whnf) | (refine Or.inl ?_; (conv => whnf); refine ⟨_, c4, ?_⟩; conv => whnf) | (refine Or.inr (Or.inr (Or.inl ?_)); (conv => whnf); refine ⟨_, c4, ?_⟩; conv => whnf) | (refine Exists.intro _ (And.intro (c4) ?_); conv => whnf) | (refine Or.inl ?_; (conv => whnf); refine ⟨_, c5 _, ?_⟩; conv => whnf) | (refine Or.inr (Or.inr (Or.inl ?_)); (conv => whnf); refine ⟨_, c5 _, ?_⟩; conv => whnf) | (refine Exists.intro _ (And.intro (c5 _) ?_); conv => whnf) | (refine WR_fit ?_ ?_; (focus (first | exact wr_i64 (by omega) | exact wr_u64 (by omega) | exact wr_u8 (by omega) | exact wr_i32 (by omega) | exact wr_u32 (by omega))); conv => whnf) | ((first | refine WR_wrap ?_ | (refine And.intro (a := indepB _ _ = true) ?_ ?_; (focus kernel_rfl)) | refine And.intro rfl ?_ | (refine And.intro ?_ ?_; (focus (first | omega | decide | (dsimp only; omega) | (simp at *; omega))))); conv => whnf))
   all_goals first | contradiction | (exfalso; omega) | skip
end Go.Proofs.YtcomiiakkhafpaaGreat

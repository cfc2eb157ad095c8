/-
  What divides both most; numbers with a sign.
-/
import Derived.Test.YtcomiiakkhafpaaGreatWide2
set_option linter.unusedSimpArgs false
set_option linter.unusedSectionVars false
namespace Go.Proofs.YtcomiiakkhafpaaGreat
open Go.Proofs.YtcomiiakkhafpaaGreat.Am
variable [Inhabited DRT]
variable {G : GInv}
/-! ### What divides both most -/
theorem eqW {a b : Nat} (ha : a < 65536 ^ 32) (hb : b < 65536 ^ 32) : ((((wW a 0 : Nat) : Int) == ((wW b 0 : Nat) : Int)) && ((((wW a 1 : Nat) : Int) == ((wW b 1 : Nat) : Int)) && ((((wW a 2 : Nat) : Int) == ((wW b 2 : Nat) : Int)) && ((((wW a 3 : Nat) : Int) == ((wW b 3 : Nat) : Int)) && ((((wW a 4 : Nat) : Int) == ((wW b 4 : Nat) : Int)) && ((((wW a 5 : Nat) : Int) == ((wW b 5 : Nat) : Int)) && ((((wW a 6 : Nat) : Int) == ((wW b 6 : Nat) : Int)) && ((((wW a 7 : Nat) : Int) == ((wW b 7 : Nat) : Int)) && true)))))))) = decide (a = b) := by
 rw [Bool.eq_iff_iff, decide_eq_true_iff]
 simp only [Bool.and_eq_true, beq_iff_eq, and_true]
 constructor
 ·rintro ⟨z0, z1, z2, z3, z4, z5, z6, z7⟩
  have ea := wv_wW ha
  have eb := wv_wW hb
  rw [wv_expl (wW_ok a)] at ea
  rw [wv_expl (wW_ok b)] at eb
  rw [← ea, ← eb, Int.ofNat_inj.1 z0, Int.ofNat_inj.1 z1, Int.ofNat_inj.1 z2, Int.ofNat_inj.1 z3, Int.ofNat_inj.1 z4, Int.ofNat_inj.1 z5, Int.ofNat_inj.1 z6, Int.ofNat_inj.1 z7]
 ·rintro rfl
  simp
theorem gcd_sub_odd {a b k o : Nat} (hb : b % 2 = 1) (hab : b < a) (hd : a - b = 2 ^ k * o) : Nat.gcd o b = Nat.gcd a b := by
 have h1 : Nat.gcd a b = Nat.gcd (a - b) b := by
  have : a = (a - b) + b := by omega
  conv => lhs; rw [this]
  rw [Nat.gcd_add_self_left]
 rw [h1, hd]
 have h2 : Nat.Coprime b 2 := by
  have : Nat.gcd b 2 = Nat.gcd 2 (b % 2) := by rw [Nat.gcd_comm, Nat.gcd_rec, Nat.gcd_comm]
  unfold Nat.Coprime
  rw [this, hb]; rfl
 have h3 : Nat.Coprime (2 ^ k) b := (Nat.Coprime.pow_right k h2).symm
 exact (Nat.Coprime.gcd_mul_left_cancel o h3).symm
theorem odd_cop {b : Nat} (k : Nat) (hb : b % 2 = 1) : Nat.Coprime (2 ^ k) b := by
 have h2 : Nat.Coprime b 2 := by
  have : Nat.gcd b 2 = Nat.gcd 2 (b % 2) := by rw [Nat.gcd_comm, Nat.gcd_rec, Nat.gcd_comm]
  unfold Nat.Coprime
  rw [this, hb]; rfl
 exact (Nat.Coprime.pow_right k h2).symm
theorem gcd_parts {s t a b : Nat} (ha : a % 2 = 1) (hb : b % 2 = 1) : Nat.gcd (2 ^ s * a) (2 ^ t * b) = Nat.gcd a b * 2 ^ min s t := by
 rcases Nat.le_total s t with h | h
 ·rw [Nat.min_eq_left h]
  obtain ⟨u, rfl⟩ : ∃ u, t = s + u := ⟨t - s, by omega⟩
  rw [Nat.pow_add, Nat.mul_assoc, Nat.gcd_mul_left, Nat.gcd_comm a, Nat.Coprime.gcd_mul_left_cancel b (odd_cop u ha), Nat.gcd_comm b, Nat.mul_comm]
 ·rw [Nat.min_eq_right h]
  obtain ⟨u, rfl⟩ : ∃ u, s = t + u := ⟨s - t, by omega⟩
  rw [Nat.pow_add, Nat.mul_assoc, Nat.gcd_mul_left, Nat.Coprime.gcd_mul_left_cancel a (odd_cop u hb), Nat.mul_comm]
def GcdB (g : Nat) (x : Nat × Nat × (Nat → Nat) × (Nat → Nat)) : Prop := x.1 % 2 = 1 ∧ x.2.1 % 2 = 1 ∧ Nat.gcd x.1 x.2.1 = g ∧ x.1 < 2 ^ 127 ∧ x.2.1 < 2 ^ 127 ∧ wW x.1 = x.2.2.1 ∧ wW x.2.1 = x.2.2.2
theorem p127 : (2 : Nat) ^ 127 < 65536 ^ 32 := by decide
set_option maxRecDepth 100000 in
set_option maxHeartbeats 4000000 in
theorem gcdB_c (x y : Nat) (hx : x < 2 ^ 127) (hy : y < 2 ^ 127) : ACalls Tryz.prog G 104 [wideN x, wideN y] (wideN (Nat.gcd x y)) := by
 have hP := p127
 have zx := wideZero_c (G := G) x (by omega)
 have zy := wideZero_c (G := G) y (by omega)
 by_cases x0 : x = 0
 ·subst x0
  rw [Nat.gcd_zero_left]
  rw [decide_eq_true rfl] at zx
  unfold wideN wideA at *
  generalize wW 0 = X at *
  generalize wW y = Y at *
  refine ACalls.of_WA ttok Tryz.func104 rfl rfl _ rfl ?_
  conv => whnf
  repeat' (first | refine sq ?_ | refine bk ?_ | ((first | refine rg ttok ?_ | refine dw ttok mixed ?_ | refine cd ?_ | refine sk ?_ | refine xt ?_ | refine rt ?_); conv => whnf) | (refine And.intro (fun h => ?_) (fun h => ?_) <;> (try simp only [brsA] at h) <;> conv => whnf) | (refine Or.inl ?_; (conv => whnf); refine ⟨_, zx, ?_⟩; conv => whnf) | ((first | refine wf ?_ | refine wp' ?_ | refine ai ?_ | refine And.intro rfl ?_ | refine an ?_ | fail); conv => whnf))
  all_goals first | contradiction | (exfalso; omega) | skip
 ·rw [decide_eq_false x0] at zx
  by_cases y0 : y = 0
  ·subst y0
   rw [Nat.gcd_zero_right]
   rw [decide_eq_true rfl] at zy
   unfold wideN wideA at *
   generalize wW 0 = Y at *
   generalize wW x = X at *
   refine ACalls.of_WA ttok Tryz.func104 rfl rfl _ rfl ?_
   conv => whnf
   repeat' (first | refine sq ?_ | refine bk ?_ | ((first | refine rg ttok ?_ | refine dw ttok mixed ?_ | refine cd ?_ | refine sk ?_ | refine xt ?_ | refine rt ?_); conv => whnf) | (refine And.intro (fun h => ?_) (fun h => ?_) <;> (try simp only [brsA] at h) <;> conv => whnf) | (refine Or.inl ?_; (conv => whnf); (first | refine ⟨_, zx, ?_⟩ | refine ⟨_, zy, ?_⟩); conv => whnf) | ((first | refine wf ?_ | refine wp' ?_ | refine ai ?_ | refine And.intro rfl ?_ | refine an ?_ | fail); conv => whnf))
   all_goals first | contradiction | (exfalso; omega) | skip
  ·rw [decide_eq_false y0] at zy
   obtain ⟨s, a, ex, ha, hs⟩ := odd_part 127 x (by omega) hx
   obtain ⟨t, b, ey, hb, ht⟩ := odd_part 127 y (by omega) hy
   have tx := twosO_c (G := G) s a (by omega) ha
   have ty := twosO_c (G := G) t b (by omega) hb
   rw [← ex] at tx
   rw [← ey] at ty
   have sx := shiftR_c (G := G) x s (by omega) (by omega)
   have sy := shiftR_c (G := G) y t (by omega) (by omega)
   have dx : x / 2 ^ s = a := by rw [ex, Nat.mul_div_cancel_left _ (Nat.pow_pos (by omega))]
   have dy : y / 2 ^ t = b := by rw [ey, Nat.mul_div_cancel_left _ (Nat.pow_pos (by omega))]
   rw [dx] at sx
   rw [dy] at sy
   have hg : Nat.gcd x y = Nat.gcd a b * 2 ^ min s t := by rw [ex, ey]; exact gcd_parts ha hb
   have hax : a ≤ x := by rw [← dx]; exact Nat.div_le_self _ _
   have hby : b ≤ y := by rw [← dy]; exact Nat.div_le_self _ _
   have hmin : (if (t : Int) < (s : Int) then (t : Int) else (s : Int)) = ((min s t : Nat) : Int) := by
    split <;> omega
   rw [hg]
   have hmn : min s t < 128 := by omega
   clear hg dx dy ex ey
   generalize hgg : Nat.gcd a b = g at *
   have hsl := fun v => shiftL_c (G := G) v (min s t) hmn
   generalize min s t = mn at *
   unfold wideN wideA at zx zy tx ty sx sy ⊢
   generalize wW x = X at *
   generalize wW y = Y at *
   refine ACalls.of_WA ttok Tryz.func104 rfl rfl _ rfl ?_
   conv => whnf
   repeat' (first | ((rw [hmin]; conv => whnf)) | refine sq ?_ | refine bk ?_ | ((first | refine rg ttok ?_ | refine dw ttok mixed ?_ | refine cd ?_ | refine sk ?_ | refine xt ?_ | refine rt ?_); conv => whnf) | (refine And.intro (fun h => ?_) (fun h => ?_) <;> (try simp only [brsA] at h) <;> conv => whnf) | (refine Or.inl ?_; (conv => whnf); (first | refine ⟨_, zx, ?_⟩ | refine ⟨_, zy, ?_⟩ | refine ⟨_, tx, ?_⟩ | refine ⟨_, ty, ?_⟩ | refine ⟨_, sx, ?_⟩ | refine ⟨_, sy, ?_⟩); conv => whnf) | ((first | refine wf ?_ | refine wp' ?_ | refine ai ?_ | refine And.intro rfl ?_ | refine an ?_ | fail); conv => whnf))
   all_goals first | contradiction | (exfalso; omega) | skip
   clear zx zy tx ty sx sy
   refine WA_loopI (GcdB g) (fun _ => []) (fun z => match z with | (_, _, A, B) => [bxF A, bxF B, bxF (fun _ => 0)]) (fun z => z.1 + z.2.1) (a, b, wW a, wW b) ⟨ha, hb, hgg, by show a < _; omega, by show b < _; omega, rfl, rfl⟩ ?_ ?_
   ·conv => whnf
    repeat (first | exact fa | ((first | refine fb ?_ | (refine And.intro ?_ ?_; rotate_left)); conv => whnf))
   ·rintro ⟨p, q, P, Q⟩ hI
    obtain ⟨hp, hq, hgp, hp2, hq2, hP1, hQ1⟩ := hI
    have hp : p % 2 = 1 := hp
    have hq : q % 2 = 1 := hq
    have hgp : Nat.gcd p q = g := hgp
    have hp2 : p < 2 ^ 127 := hp2
    have hq2 : q < 2 ^ 127 := hq2
    have hP1 : wW p = P := hP1
    have hQ1 : wW q = Q := hQ1
    have he := eqW (a := p) (b := q) (by omega) (by omega)
    rw [hP1, hQ1] at he
    by_cases hpq : p = q
    ·subst hpq
     rw [Nat.gcd_self] at hgp
     subst hgp
     rw [decide_eq_true rfl] at he
     have cs := hsl p
     unfold wideN wideA at cs
     rw [hP1] at cs
     generalize wW (p * 2 ^ mn) = U at *
     conv => whnf
     repeat' (first | (exact Bool.noConfusion (he.symm.trans (by assumption))) | (exact absurd he (by assumption)) | refine sq ?_ | refine bk ?_ | ((first | refine rg ttok ?_ | refine dw ttok mixed ?_ | refine cd ?_ | refine sk ?_ | refine xt ?_ | refine rt ?_); conv => whnf) | (refine And.intro (fun h => ?_) (fun h => ?_) <;> (try simp only [brsA] at h) <;> conv => whnf) | (refine Or.inl ?_; (conv => whnf); refine ⟨_, cs, ?_⟩; conv => whnf) | ((first | refine wf ?_ | refine wp' ?_ | refine ai ?_ | refine And.intro rfl ?_ | refine an ?_ | fail); conv => whnf))
     all_goals first | contradiction | (exfalso; omega) | skip
    ·rw [decide_eq_false hpq] at he
     have hc := wideCmp_c (G := G) p q (by omega) (by omega)
     by_cases hlt : p < q
     ·have hcv : cmpN p q = -1 := by unfold cmpN; rw [if_pos hlt]
      rw [hcv] at hc
      obtain ⟨k, o, e1, e2, e3⟩ := odd_part 127 (q - p) (by omega) (by omega)
      have c1 := wideSub_c (G := G) q p (by omega) (by omega)
      have c2 := twosO_c (G := G) k o (by omega) e2
      rw [← e1] at c2
      have c3 := shiftR_c (G := G) (q - p) k (by omega) (by omega)
      have dk : (q - p) / 2 ^ k = o := by rw [e1, Nat.mul_div_cancel_left _ (Nat.pow_pos (by omega))]
      rw [dk] at c3
      have ho : o ≤ q - p := by rw [← dk]; exact Nat.div_le_self _ _
      have hp0 : 0 < p := by omega
      have hn : GcdB g (o, p, wW o, P) := ⟨e2, hp, by show Nat.gcd o p = g; rw [gcd_sub_odd hp hlt e1, Nat.gcd_comm, hgp], (by show o < _; omega), hp2, rfl, hP1⟩
      clear e1 dk hgp hsl
      unfold wideN wideA at hc c1 c2 c3
      rw [hP1, hQ1] at hc c1
      generalize wW (q - p) = D at *
      generalize wW o = O at *
      conv => whnf
      repeat' (first | (exact Bool.noConfusion (he.symm.trans (by assumption))) | refine sq ?_ | refine bk ?_ | ((first | refine rg ttok ?_ | refine dw ttok mixed ?_ | refine cd ?_ | refine sk ?_ | refine xt ?_ | refine rt ?_); conv => whnf) | (refine And.intro (fun h => ?_) (fun h => ?_) <;> (try simp only [brsA] at h) <;> conv => whnf) | (refine Or.inl ?_; (conv => whnf); (first | refine ⟨_, hc, ?_⟩ | refine ⟨_, c1, ?_⟩ | refine ⟨_, c2, ?_⟩ | refine ⟨_, c3, ?_⟩); conv => whnf) | ((first | refine wf ?_ | refine wp' ?_ | refine ai ?_ | refine And.intro rfl ?_ | refine an ?_ | fail); conv => whnf))
      all_goals first | contradiction | (exfalso; omega) | skip
      all_goals
       refine ⟨(o, p, O, P), hn, (by show o + p < p + q; omega), ?_⟩
       conv => whnf
       repeat (first | exact fa | ((first | refine fb ?_ | (refine And.intro ?_ ?_; rotate_left)); conv => whnf))
     ·have hlt2 : q < p := by omega
      have hcv : cmpN p q = 1 := by unfold cmpN; rw [if_neg hlt, if_pos hlt2]
      rw [hcv] at hc
      obtain ⟨k, o, e1, e2, e3⟩ := odd_part 127 (p - q) (by omega) (by omega)
      have c1 := wideSub_c (G := G) p q (by omega) (by omega)
      have c2 := twosO_c (G := G) k o (by omega) e2
      rw [← e1] at c2
      have c3 := shiftR_c (G := G) (p - q) k (by omega) (by omega)
      have dk : (p - q) / 2 ^ k = o := by rw [e1, Nat.mul_div_cancel_left _ (Nat.pow_pos (by omega))]
      rw [dk] at c3
      have ho : o ≤ p - q := by rw [← dk]; exact Nat.div_le_self _ _
      have hq0 : 0 < q := by omega
      have hn : GcdB g (o, q, wW o, Q) := ⟨e2, hq, by show Nat.gcd o q = g; rw [gcd_sub_odd hq hlt2 e1, hgp], (by show o < _; omega), hq2, rfl, hQ1⟩
      clear e1 dk hgp hsl
      unfold wideN wideA at hc c1 c2 c3
      rw [hP1, hQ1] at hc c1
      generalize wW (p - q) = D at *
      generalize wW o = O at *
      conv => whnf
      repeat' (first | (exact Bool.noConfusion (he.symm.trans (by assumption))) | refine sq ?_ | refine bk ?_ | ((first | refine rg ttok ?_ | refine dw ttok mixed ?_ | refine cd ?_ | refine sk ?_ | refine xt ?_ | refine rt ?_); conv => whnf) | (refine And.intro (fun h => ?_) (fun h => ?_) <;> (try simp only [brsA] at h) <;> conv => whnf) | (refine Or.inl ?_; (conv => whnf); (first | refine ⟨_, hc, ?_⟩ | refine ⟨_, c1, ?_⟩ | refine ⟨_, c2, ?_⟩ | refine ⟨_, c3, ?_⟩); conv => whnf) | ((first | refine wf ?_ | refine wp' ?_ | refine ai ?_ | refine And.intro rfl ?_ | refine an ?_ | fail); conv => whnf))
      all_goals first | contradiction | (exfalso; omega) | skip
      all_goals
       refine ⟨(o, q, O, Q), hn, (by show o + q < p + q; omega), ?_⟩
       conv => whnf
       repeat (first | exact fa | ((first | refine fb ?_ | (refine And.intro ?_ ?_; rotate_left)); conv => whnf))
end Go.Proofs.YtcomiiakkhafpaaGreat
namespace Go.Proofs.YtcomiiakkhafpaaGreat
open Go.Proofs.YtcomiiakkhafpaaGreat.Am
variable [Inhabited DRT]
variable {G : GInv}
/-! ### Whole numbers: package sign -/
theorem sgn_is {x : Int} {v : Nat} {p : Bool} (h1 : v = x.natAbs) (h2 : p = decide (x < 0)) : sgnA p v = intN x := by unfold intN; rw [h1, h2]
theorem wW0 : ∀ j, wW 0 j = 0 := fun j => by rw [wW_low (by omega)]; split <;> rfl
set_option maxRecDepth 100000 in
theorem sfix_c (p : Bool) (v : Nat) (hv : v < 65536 ^ 32) : ACalls Tryz.prog G 100 [sgnA p v] (sgnA (p && decide (v ≠ 0)) v) := by
 have hz := wideZero_c (G := G) v hv
 by_cases h0 : v = 0
 ·subst h0
  rw [decide_eq_true rfl] at hz
  rw [decide_eq_false (by omega), Bool.and_false]
  unfold wideN wideA at hz
  unfold sgnA
  rw [wW0 0, wW0 1, wW0 2, wW0 3, wW0 4, wW0 5, wW0 6, wW0 7] at *
  refine ACalls.of_WA ttok Tryz.func100 rfl rfl _ rfl ?_
  conv => whnf
  repeat' (first | refine sq ?_ | refine bk ?_ | ((first | refine rg ttok ?_ | refine dw ttok mixed ?_ | refine cd ?_ | refine sk ?_ | refine xt ?_ | refine rt ?_); conv => whnf) | (refine And.intro (fun h => ?_) (fun h => ?_) <;> (try simp only [brsA] at h) <;> conv => whnf) | (refine Or.inl ?_; (conv => whnf); refine ⟨_, hz, ?_⟩; conv => whnf) | ((first | refine wf ?_ | refine wp' ?_ | refine ai ?_ | refine And.intro rfl ?_ | refine an ?_ | fail); conv => whnf))
  all_goals first | contradiction | (exfalso; omega) | rfl | skip
 ·rw [decide_eq_false h0] at hz
  rw [decide_eq_true h0, Bool.and_true]
  unfold wideN wideA at hz
  unfold sgnA
  generalize wW v = V at *
  refine ACalls.of_WA ttok Tryz.func100 rfl rfl _ rfl ?_
  conv => whnf
  repeat' (first | refine sq ?_ | refine bk ?_ | ((first | refine rg ttok ?_ | refine dw ttok mixed ?_ | refine cd ?_ | refine sk ?_ | refine xt ?_ | refine rt ?_); conv => whnf) | (refine And.intro (fun h => ?_) (fun h => ?_) <;> (try simp only [brsA] at h) <;> conv => whnf) | (refine Or.inl ?_; (conv => whnf); refine ⟨_, hz, ?_⟩; conv => whnf) | ((first | refine wf ?_ | refine wp' ?_ | refine ai ?_ | refine And.intro rfl ?_ | refine an ?_ | fail); conv => whnf))
  all_goals first | contradiction | (exfalso; omega) | skip
theorem fixI_c (x : Int) (h : x.natAbs < 65536 ^ 32) : ACalls Tryz.prog G 100 [intN x] (intN x) := by
 have c := sfix_c (G := G) (decide (x < 0)) x.natAbs h
 have e : sgnA (decide (x < 0) && decide (x.natAbs ≠ 0)) x.natAbs = intN x := sgn_is rfl (by
  rw [Bool.eq_iff_iff, Bool.and_eq_true, decide_eq_true_iff, decide_eq_true_iff]; omega)
 rw [e] at c
 exact c
set_option maxRecDepth 100000 in
theorem sOf_c (n : Int) (h1 : -9223372036854775808 ≤ n) (h2 : n ≤ 9223372036854775807) : ACalls Tryz.prog G 63 [.int .i64 n] (intN n) := by
 have ht := two64_c (G := G) n h1 h2
 have ho := wideOf_c (G := G) n.natAbs
 have hf := fixI_c (G := G) n (by rw [pow512]; omega)
 have hw := wide1_eq (b := n.natAbs) (by omega)
 rw [← hw] at ho
 unfold intN sgnA at hf ⊢
 unfold wideN wideA at ho
 generalize wW n.natAbs = V at *
 clear hw
 refine ACalls.of_WA ttok Tryz.func63 rfl rfl _ rfl ?_
 conv => whnf
 repeat' (first | refine sq ?_ | refine bk ?_ | ((first | refine rg ttok ?_ | refine dw ttok mixed ?_ | refine cd ?_ | refine sk ?_ | refine xt ?_ | refine rt ?_); conv => whnf) | (refine And.intro (fun h => ?_) (fun h => ?_) <;> (try simp only [brsA] at h) <;> conv => whnf) | (refine Or.inl ?_; (conv => whnf); (first | refine ⟨_, ht, ?_⟩ | refine ⟨_, ho, ?_⟩ | refine ⟨_, hf, ?_⟩); conv => whnf) | ((first | refine wf ?_ | refine wp' ?_ | refine ai ?_ | refine And.intro rfl ?_ | refine an ?_ | fail); conv => whnf))
 all_goals first | contradiction | (exfalso; omega) | skip
set_option maxRecDepth 100000 in
theorem made_c (b : Bool) (u : Nat) (hu : u < 65536 ^ 32) : ACalls Tryz.prog G 145 [.sb b, wideN u, .sb true] (.tup [sgnA (b && decide (u ≠ 0)) u, .sb true]) := by
 have hf := sfix_c (G := G) b u hu
 unfold sgnA at *
 unfold wideN wideA
 generalize wW u = U at *
 refine ACalls.of_WA ttok Tryz.func145 rfl rfl _ rfl ?_
 conv => whnf
 repeat' (first | refine sq ?_ | refine bk ?_ | ((first | refine rg ttok ?_ | refine dw ttok mixed ?_ | refine cd ?_ | refine sk ?_ | refine xt ?_ | refine rt ?_); conv => whnf) | (refine And.intro (fun h => ?_) (fun h => ?_) <;> (try simp only [brsA] at h) <;> conv => whnf) | (refine Or.inl ?_; (conv => whnf); refine ⟨_, hf, ?_⟩; conv => whnf) | ((first | refine wf ?_ | refine wp' ?_ | refine ai ?_ | refine And.intro rfl ?_ | refine an ?_ | fail); conv => whnf))
 all_goals first | contradiction | (exfalso; omega) | skip
set_option maxRecDepth 100000 in
theorem sMul_c (x y : Int) (hx : x.natAbs < 65536 ^ 32) (hy : y.natAbs < 18446744073709551616) (h : x.natAbs * y.natAbs < 65536 ^ 32) : ACalls Tryz.prog G 106 [intN x, intN y] (.tup [intN (x * y), .sb true]) := by
 have c1 := wideMul_c (G := G) x.natAbs y.natAbs hx hy h
 have c2 := made_c (G := G) (decide (x < 0) != decide (y < 0)) (x.natAbs * y.natAbs) h
 have e : sgnA ((decide (x < 0) != decide (y < 0)) && decide (x.natAbs * y.natAbs ≠ 0)) (x.natAbs * y.natAbs) = intN (x * y) := sgn_is (Int.natAbs_mul x y).symm (by
  rw [Bool.eq_iff_iff, Bool.and_eq_true, decide_eq_true_iff, decide_eq_true_iff, ← Int.natAbs_mul]
  have hm : (x * y).natAbs ≠ 0 ↔ x ≠ 0 ∧ y ≠ 0 := by rw [Ne, Int.natAbs_eq_zero, Int.mul_eq_zero]; omega
  rw [hm]
  rcases Int.lt_or_le x 0 with a | a <;> rcases Int.lt_or_le y 0 with b | b
  ·have := Int.mul_nonneg_of_nonpos_of_nonpos (Int.le_of_lt a) (Int.le_of_lt b)
   rw [decide_eq_true a, decide_eq_true b]; simp; omega
  ·rw [decide_eq_true a, decide_eq_false (by omega)]
   constructor
   ·rintro ⟨_, q1, q2⟩; exact Int.mul_neg_of_neg_of_pos a (by omega)
   ·intro q
    refine ⟨rfl, by omega, fun q2 => ?_⟩
    rw [q2, Int.mul_zero] at q; omega
  ·rw [decide_eq_false (by omega), decide_eq_true b]
   constructor
   ·rintro ⟨_, q1, q2⟩; exact Int.mul_neg_of_pos_of_neg (by omega) b
   ·intro q
    refine ⟨rfl, fun q2 => ?_, by omega⟩
    rw [q2, Int.zero_mul] at q; omega
  ·have := Int.mul_nonneg a b
   rw [decide_eq_false (by omega), decide_eq_false (by omega)]; simp; omega)
 rw [e] at c2
 have eX : intN x = sgnA (decide (x < 0)) x.natAbs := rfl
 have eY : intN y = sgnA (decide (y < 0)) y.natAbs := rfl
 rw [eX, eY]
 clear e eX eY hx hy h
 unfold intN sgnA at *
 unfold wideN wideA at *
 generalize wW x.natAbs = X at *
 generalize wW y.natAbs = Y at *
 generalize wW (x.natAbs * y.natAbs) = U at *
 generalize wW (x * y).natAbs = Z at *
 generalize decide (x < 0) = p at *
 generalize decide (y < 0) = q at *
 generalize decide (x * y < 0) = b at *
 refine ACalls.of_WA ttok Tryz.func106 rfl rfl _ rfl ?_
 conv => whnf
 repeat' (first | refine sq ?_ | refine bk ?_ | ((first | refine rg ttok ?_ | refine dw ttok mixed ?_ | refine cd ?_ | refine sk ?_ | refine xt ?_ | refine rt ?_); conv => whnf) | (refine And.intro (fun h => ?_) (fun h => ?_) <;> (try simp only [brsA] at h) <;> conv => whnf) | (refine Or.inl ?_; (conv => whnf); (first | refine ⟨_, c1, ?_⟩ | refine ⟨_, c2, ?_⟩); conv => whnf) | ((first | refine wf ?_ | refine wp' ?_ | refine ai ?_ | refine And.intro rfl ?_ | refine an ?_ | fail); conv => whnf))
 all_goals first | contradiction | (exfalso; omega) | skip
end Go.Proofs.YtcomiiakkhafpaaGreat
namespace Go.Proofs.YtcomiiakkhafpaaGreat
open Go.Proofs.YtcomiiakkhafpaaGreat.Am
variable [Inhabited DRT]
variable {G : GInv}
/-! ### Whole numbers: sums, comparison -/
theorem cmpN_lt {a b : Nat} (h : a < b) : cmpN a b = -1 := by unfold cmpN; rw [if_pos h]
theorem cmpN_ge {a b : Nat} (h : b ≤ a) : cmpN a b = (if b < a then 1 else 0) := by unfold cmpN; rw [if_neg (by omega)]
set_option maxRecDepth 100000 in
set_option maxHeartbeats 1000000 in
/-- A sum of numbers whose signs are told. -/
theorem add_gen (p q b : Bool) (v w u : Nat) (x y : A) (zb : Bool) (zu : Nat)
  (fx : ACalls Tryz.prog G 100 [x] (sgnA p v)) (fy : ACalls Tryz.prog G 100 [y] (sgnA q w))
  (hx : x = sgnA p v) (hy : y = sgnA q w) (hm : ACalls Tryz.prog G 145 [.sb b, wideN u, .sb true] (.tup [sgnA zb zu, .sb true]))
  (h : p = q ∧ b = p ∧ ACalls Tryz.prog G 143 [wideN v, wideN w] (.tup [wideN u, .sb true]) ∨
   p ≠ q ∧ v < w ∧ b = q ∧ ACalls Tryz.prog G 132 [wideN v, wideN w] (.int .i64 (-1)) ∧ ACalls Tryz.prog G 142 [wideN w, wideN v] (.tup [wideN u, .sb true]) ∨
   p ≠ q ∧ b = p ∧ (∃ c : Int, ¬ c < 0 ∧ ACalls Tryz.prog G 132 [wideN v, wideN w] (.int .i64 c)) ∧ ACalls Tryz.prog G 142 [wideN v, wideN w] (.tup [wideN u, .sb true])) :
  ACalls Tryz.prog G 107 [x, y] (.tup [sgnA zb zu, .sb true]) := by
 subst hx hy
 unfold sgnA wideN wideA at *
 generalize wW v = V at *
 generalize wW w = W at *
 generalize wW u = U at *
 generalize wW zu = Z at *
 rcases h with ⟨h1, h2, c1⟩ | ⟨h1, h2, h3, c1, c2⟩ | ⟨h1, h2, ⟨c, hc, c1⟩, c2⟩
 ·subst h1 h2
  cases b <;>
  ·refine ACalls.of_WA ttok Tryz.func107 rfl rfl _ rfl ?_
   conv => whnf
   repeat' (first | refine sq ?_ | refine bk ?_ | ((first | refine rg ttok ?_ | refine dw ttok mixed ?_ | refine cd ?_ | refine sk ?_ | refine xt ?_ | refine rt ?_); conv => whnf) | (refine And.intro (fun h => ?_) (fun h => ?_) <;> (try simp only [brsA] at h) <;> conv => whnf) | (refine Or.inl ?_; (conv => whnf); (first | refine ⟨_, fx, ?_⟩ | refine ⟨_, fy, ?_⟩ | refine ⟨_, c1, ?_⟩ | refine ⟨_, hm, ?_⟩); conv => whnf) | ((first | refine wf ?_ | refine wp' ?_ | refine ai ?_ | refine And.intro rfl ?_ | refine an ?_ | fail); conv => whnf))
   all_goals first | contradiction | (exfalso; omega) | skip
 ·subst h3
  cases p <;> cases b <;> first | exact absurd rfl h1 | skip
  all_goals
   refine ACalls.of_WA ttok Tryz.func107 rfl rfl _ rfl ?_
   conv => whnf
   repeat' (first | refine sq ?_ | refine bk ?_ | ((first | refine rg ttok ?_ | refine dw ttok mixed ?_ | refine cd ?_ | refine sk ?_ | refine xt ?_ | refine rt ?_); conv => whnf) | (refine And.intro (fun h => ?_) (fun h => ?_) <;> (try simp only [brsA] at h) <;> conv => whnf) | (refine Or.inl ?_; (conv => whnf); (first | refine ⟨_, fx, ?_⟩ | refine ⟨_, fy, ?_⟩ | refine ⟨_, c1, ?_⟩ | refine ⟨_, c2, ?_⟩ | refine ⟨_, hm, ?_⟩); conv => whnf) | ((first | refine wf ?_ | refine wp' ?_ | refine ai ?_ | refine And.intro rfl ?_ | refine an ?_ | fail); conv => whnf))
   all_goals first | contradiction | (exfalso; omega) | skip
 ·subst h2
  cases b <;> cases q <;> first | exact absurd rfl h1 | skip
  all_goals
   refine ACalls.of_WA ttok Tryz.func107 rfl rfl _ rfl ?_
   conv => whnf
   repeat' (first | refine sq ?_ | refine bk ?_ | ((first | refine rg ttok ?_ | refine dw ttok mixed ?_ | refine cd ?_ | refine sk ?_ | refine xt ?_ | refine rt ?_); conv => whnf) | (refine And.intro (fun h => ?_) (fun h => ?_) <;> (try simp only [brsA] at h) <;> conv => whnf) | (refine Or.inl ?_; (conv => whnf); (first | refine ⟨_, fx, ?_⟩ | refine ⟨_, fy, ?_⟩ | refine ⟨_, c1, ?_⟩ | refine ⟨_, c2, ?_⟩ | refine ⟨_, hm, ?_⟩); conv => whnf) | ((first | refine wf ?_ | refine wp' ?_ | refine ai ?_ | refine And.intro rfl ?_ | refine an ?_ | fail); conv => whnf))
   all_goals first | contradiction | (exfalso; omega) | skip
theorem sAdd_c (x y : Int) (h : x.natAbs + y.natAbs < 65536 ^ 32) : ACalls Tryz.prog G 107 [intN x, intN y] (.tup [intN (x + y), .sb true]) := by
 have fx := fixI_c (G := G) x (by omega)
 have fy := fixI_c (G := G) y (by omega)
 have hu : (x + y).natAbs < 65536 ^ 32 := by omega
 have key : ∀ (b : Bool) (u : Nat), u < 65536 ^ 32 → u = (x + y).natAbs → (b && decide (u ≠ 0)) = decide (x + y < 0) → ACalls Tryz.prog G 145 [.sb b, wideN u, .sb true] (.tup [intN (x + y), .sb true]) := fun b u h1 h2 h3 => by
  have := made_c (G := G) b u h1
  rw [h3, sgn_is h2 rfl] at this
  exact this
 by_cases hs : decide (x < 0) = decide (y < 0)
 ·have hs2 := decide_eq_decide.1 hs
  refine add_gen (decide (x < 0)) (decide (y < 0)) (decide (x < 0)) x.natAbs y.natAbs (x.natAbs + y.natAbs) _ _ (decide (x + y < 0)) (x + y).natAbs fx fy rfl rfl (key _ _ h (by omega) ?_) (Or.inl ⟨hs, rfl, wideAdd_c _ _ h⟩)
  rw [Bool.eq_iff_iff, Bool.and_eq_true, decide_eq_true_iff, decide_eq_true_iff, decide_eq_true_iff]; omega
 ·have hs2 : ¬ (x < 0 ↔ y < 0) := fun q => hs (decide_eq_decide.2 q)
  have hc := wideCmp_c (G := G) x.natAbs y.natAbs (by omega) (by omega)
  by_cases hlt : x.natAbs < y.natAbs
  ·rw [cmpN_lt hlt] at hc
   refine add_gen (decide (x < 0)) (decide (y < 0)) (decide (y < 0)) x.natAbs y.natAbs (y.natAbs - x.natAbs) _ _ (decide (x + y < 0)) (x + y).natAbs fx fy rfl rfl (key _ _ (by omega) (by omega) ?_) (Or.inr (Or.inl ⟨hs, hlt, rfl, hc, wideSub_c _ _ (by omega) (by omega)⟩))
   rw [Bool.eq_iff_iff, Bool.and_eq_true, decide_eq_true_iff, decide_eq_true_iff, decide_eq_true_iff]; omega
  ·refine add_gen (decide (x < 0)) (decide (y < 0)) (decide (x < 0)) x.natAbs y.natAbs (x.natAbs - y.natAbs) _ _ (decide (x + y < 0)) (x + y).natAbs fx fy rfl rfl (key _ _ (by omega) (by omega) ?_) (Or.inr (Or.inr ⟨hs, rfl, ⟨_, ?_, hc⟩, wideSub_c _ _ (by omega) (by omega)⟩))
   ·rw [Bool.eq_iff_iff, Bool.and_eq_true, decide_eq_true_iff, decide_eq_true_iff, decide_eq_true_iff]; omega
   ·rw [cmpN_ge (by omega)]; split <;> omega
end Go.Proofs.YtcomiiakkhafpaaGreat

/-
  Numerals, the walks of the package num; a number's text is read as the number.
-/
import Derived.Test.YtagokdeflnkplaaDoorText
import Derived.Lib.ItoaLen
import Derived.Test.YtagokdeflnkplaaDoorWords
set_option linter.unusedSimpArgs false
namespace Go.Proofs.YtagokdeflnkplaaDoor
open Go.Proofs.YtagokdeflnkplaaDoor.Am
open Go.RowKit (Below)
variable {G : GInv}
def isD (c : UInt8) : Prop := 48 ≤ c.toNat ∧ c.toNat ≤ 57
instance (c : UInt8) : Decidable (isD c) := inferInstanceAs (Decidable (_ ∧ _))
def digP (s : List UInt8) : Prop := s ≠ [] ∧ ¬ (s.getD 0 0 = 48 ∧ 1 < s.length) ∧ ∀ j, j < s.length → isD (s.getD j 0)
instance (s : List UInt8) : Decidable (digP s) := inferInstanceAs (Decidable (_ ∧ _))
/-! ### Numerals -/
def nval (s : List UInt8) : Nat := s.foldl (fun a c => 10 * a + (c.toNat - 48)) 0
theorem nval_snoc (t : List UInt8) (c : UInt8) : nval (t ++ [c]) = 10 * nval t + (c.toNat - 48) := by simp [nval]
theorem ofNat_toNat {v : Nat} (h : v < 10) : (UInt8.ofNat (48 + v)).toNat = 48 + v := by simp; omega
theorem dd_ind {p : Nat → Prop} (h1 : ∀ u, u < 10 → p u) (h2 : ∀ u, ¬ u < 10 → p (u / 10) → p u) : ∀ u, p u := by
  intro u
  induction u using Nat.strongRecOn with
  | _ u ih =>
    by_cases h : u < 10
    · exact h1 u h
    · exact h2 u h (ih _ (by omega))
theorem dd_one {u : Nat} (h : u < 10) : Lib.decDigits u = [UInt8.ofNat (48 + u)] := Lib.decDigits_one h
theorem dd_step {u : Nat} (h : ¬ u < 10) : Lib.decDigits u = Lib.decDigits (u / 10) ++ [UInt8.ofNat (48 + u % 10)] := by rw [Lib.decDigits, dif_neg h]
theorem nval_dd : ∀ u, nval (Lib.decDigits u) = u := by
  refine dd_ind ?_ ?_
  · intro u h; rw [dd_one h]; simp only [nval, List.foldl]; rw [ofNat_toNat h]; omega
  · intro u h ih; rw [dd_step h, nval_snoc, ih, ofNat_toNat (by omega)]; omega
theorem dd_digit : ∀ u, ∀ c ∈ Lib.decDigits u, isD c := by
  refine dd_ind ?_ ?_
  · intro u h; rw [dd_one h]; intro c hc; rw [List.mem_singleton] at hc; subst hc; have := ofNat_toNat h; exact ⟨by omega, by omega⟩
  · intro u h ih; rw [dd_step h]; intro c hc
    simp only [List.mem_append, List.mem_singleton] at hc
    rcases hc with hc | hc
    · exact ih c hc
    · subst hc; have := ofNat_toNat (v := u % 10) (by omega); exact ⟨by omega, by omega⟩
theorem dd_ne : ∀ u, Lib.decDigits u ≠ [] := by
  refine dd_ind ?_ ?_
  · intro u h; rw [dd_one h]; simp
  · intro u h ih; rw [dd_step h]; simp
theorem isD_all {s : List UInt8} (h : ∀ j, j < s.length → isD (s.getD j 0)) : ∀ c ∈ s, isD c := by
  intro c hc
  obtain ⟨j, hj, rfl⟩ := List.getElem_of_mem hc
  have := h j hj
  rwa [List.getD_eq_getElem?_getD, List.getElem?_eq_getElem hj] at this
theorem dd_nval_aux : ∀ (n : Nat) (s : List UInt8), s.length = n → s ≠ [] → (¬ (s.getD 0 0 = 48 ∧ 1 < s.length)) → (∀ c ∈ s, isD c) → Lib.decDigits (nval s) = s := by
  intro n
  induction n with
  | zero => intro s h h1; exact absurd (List.length_eq_zero_iff.1 h) h1
  | succ n ih =>
    intro s hl hne hz hd
    obtain ⟨t, c, rfl⟩ : ∃ t c, s = t ++ [c] := ⟨s.dropLast, s.getLast hne, (List.dropLast_concat_getLast hne).symm⟩
    have hc : isD c := hd c (by simp)
    have hcc : UInt8.ofNat (48 + (c.toNat - 48)) = c := by
      apply UInt8.toNat_inj.1
      rw [ofNat_toNat (by have := hc.1; have := hc.2; omega)]; have := hc.1; omega
    have hlt : c.toNat - 48 < 10 := by have := hc.2; omega
    rw [nval_snoc]
    cases t with
    | nil => simp only [nval, List.foldl, List.nil_append]; rw [dd_one (by omega)]; simp only [Nat.mul_zero, Nat.zero_add]; rw [hcc]
    | cons x xs =>
      have hx : x ≠ 48 := by intro e; subst e; exact hz ⟨rfl, by simp⟩
      have := ih (x :: xs) (by simpa using hl) (by simp) (by rintro ⟨h, _⟩; exact hx h) (fun c hc => hd c (List.mem_append_left _ hc))
      have hpos : 1 ≤ nval (x :: xs) := by
        rcases Nat.eq_zero_or_pos (nval (x :: xs)) with h | h
        · rw [h, dd_one (by omega)] at this
          have : x = UInt8.ofNat (48 + 0) := by simpa using (List.cons.inj this).1.symm
          exact absurd this hx
        · exact h
      rw [dd_step (by omega), show (10 * nval (x :: xs) + (c.toNat - 48)) / 10 = nval (x :: xs) by omega, this, show (10 * nval (x :: xs) + (c.toNat - 48)) % 10 = c.toNat - 48 by omega, hcc]
theorem dd_nval {s : List UInt8} (h : digP s) : Lib.decDigits (nval s) = s := dd_nval_aux _ s rfl h.1 h.2.1 (isD_all h.2.2)

/-! ### Bounds -/
theorem foldl_lin (s : List UInt8) : ∀ a : Nat, s.foldl (fun a c => 10 * a + (c.toNat - 48)) a = a * 10 ^ s.length + nval s := by
  induction s with
  | nil => intro a; simp [nval]
  | cons c t ih =>
    intro a
    simp only [List.foldl, nval, List.length_cons]
    rw [ih, ih (10 * 0 + (c.toNat - 48))]
    rw [Nat.pow_succ]
    generalize 10 ^ t.length = p
    rw [Nat.add_mul, Nat.mul_zero, Nat.zero_add, Nat.mul_comm 10 a, Nat.mul_assoc, Nat.mul_comm 10 p, Nat.add_assoc]
theorem nval_cons (c : UInt8) (t : List UInt8) : nval (c :: t) = (c.toNat - 48) * 10 ^ t.length + nval t := by
  have := foldl_lin t (10 * 0 + (c.toNat - 48))
  simpa [nval] using this
theorem nval_lt : ∀ (s : List UInt8), (∀ c ∈ s, isD c) → nval s < 10 ^ s.length := by
  intro s
  induction s with
  | nil => intro _; simp [nval]
  | cons c t ih =>
    intro h
    rw [nval_cons, List.length_cons, Nat.pow_succ]
    have h1 := ih (fun c hc => h c (by simp [hc]))
    have h2 : c.toNat - 48 ≤ 9 := by have := (h c (by simp)).2; omega
    have := Nat.mul_le_mul_right (10 ^ t.length) h2
    omega
theorem less_iff : ∀ (a b : List UInt8), a.length = b.length → (∀ c ∈ a, isD c) → (∀ c ∈ b, isD c) → (Op.bytesLess a b = decide (nval a < nval b) ∧ (a = b ↔ nval a = nval b)) := by
  intro a
  induction a with
  | nil =>
    intro b hl _ _
    have : b = [] := by cases b with | nil => rfl | cons => simp at hl
    subst this; simp [Op.bytesLess]
  | cons x s ih =>
    intro b hl ha hb
    cases b with
    | nil => simp at hl
    | cons y t =>
      have hl' : s.length = t.length := by simpa using hl
      obtain ⟨h1, h2⟩ := ih t hl' (fun c hc => ha c (by simp [hc])) (fun c hc => hb c (by simp [hc]))
      have hs := nval_lt s (fun c hc => ha c (by simp [hc]))
      have ht := nval_lt t (fun c hc => hb c (by simp [hc]))
      have hx := ha x (by simp)
      have hy := hb y (by simp)
      rw [nval_cons, nval_cons, ← hl']
      rw [← hl'] at ht
      generalize hp : 10 ^ s.length = p at *
      have hxy : (x < y) ↔ x.toNat < y.toNat := UInt8.lt_iff_toNat_lt
      have hxe : (x = y) ↔ x.toNat = y.toNat := UInt8.toNat_inj.symm
      simp only [Op.bytesLess, h1, List.cons.injEq, h2]
      rcases Nat.lt_trichotomy x.toNat y.toNat with h | h | h
      · have e : x.toNat - 48 + 1 ≤ y.toNat - 48 := by have := hx.1; omega
        have := Nat.mul_le_mul_right p e
        rw [Nat.add_mul] at this
        have hlt : (x.toNat - 48) * p + nval s < (y.toNat - 48) * p + nval t := by omega
        refine ⟨?_, ?_⟩
        · simp [hxy.2 h, hlt]
        · constructor
          · rintro ⟨h3, _⟩; have := hxe.1 h3; omega
          · intro h3; omega
      · have e := hxe.2 h
        subst e
        refine ⟨?_, ?_⟩
        · simp
        · simp
      · have e : y.toNat - 48 + 1 ≤ x.toNat - 48 := by have := hy.1; omega
        have := Nat.mul_le_mul_right p e
        rw [Nat.add_mul] at this
        have hlt : (y.toNat - 48) * p + nval t < (x.toNat - 48) * p + nval s := by omega
        have n1 : ¬ x < y := fun h4 => by have := hxy.1 h4; omega
        have n2 : ¬ x = y := fun h4 => by have := hxe.1 h4; omega
        refine ⟨?_, ?_⟩
        · rw [show (x == y) = false by simpa using n2, decide_eq_false n1, Bool.false_and, Bool.or_false]; exact (decide_eq_false (by omega)).symm
        · constructor
          · rintro ⟨h3, _⟩; exact absurd h3 n2
          · intro h3; omega


theorem nval_take (s : List UInt8) {k : Nat} (h : k < s.length) : nval (s.take (k + 1)) = 10 * nval (s.take k) + ((s.getD k 0).toNat - 48) := by
  have htk : s.take (k + 1) = s.take k ++ [s.getD k 0] := by
    rw [List.take_add_one, List.getD_eq_getElem?_getD, List.getElem?_eq_getElem h]; simp
  rw [htk, nval_snoc]
theorem nval_take_le (s : List UInt8) (k : Nat) : nval (s.take k) ≤ nval s := by
  have e2 : nval (s.take k ++ s.drop k) = nval (s.take k) * 10 ^ (s.drop k).length + nval (s.drop k) := by
    rw [← foldl_lin]; unfold nval; exact List.foldl_append
  rw [List.take_append_drop] at e2
  have := Nat.le_mul_of_pos_right (nval (s.take k)) (Nat.pos_of_ne_zero (show 10 ^ (s.drop k).length ≠ 0 from by simp))
  omega
theorem len60 : (Lib.decDigits 1152921504606846976).length = 19 := by simp [Lib.decDigits]
theorem itoa60 : Lib.itoa 1152921504606846976 = Lib.decDigits 1152921504606846976 := by unfold Lib.itoa; rw [if_neg (by decide)]; rfl
/-- Is a numeral too great, as the code asks it? -/
theorem big_iff {b : List UInt8} (hd : digP b) : ((19 < b.length) ∨ (b.length = 19 ∧ (!(Op.bytesLess b (Lib.itoa 1152921504606846976) || b == Lib.itoa 1152921504606846976)) = true)) ↔ 1152921504606846976 < nval b := by
  rw [itoa60]
  have hal := isD_all hd.2.2
  have hlt := nval_lt b hal
  by_cases h19 : 19 < b.length
  · refine ⟨fun _ => ?_, fun _ => .inl h19⟩
    have h1 : b.getD 0 0 ≠ 48 := fun h => hd.2.1 ⟨h, by omega⟩
    cases hb : b with
    | nil => exact absurd hb hd.1
    | cons x xs =>
      rw [hb] at h1 h19
      have hx := hal x (by rw [hb]; simp)
      have hx1 : x.toNat ≠ 48 := fun h => h1 (UInt8.toNat_inj.1 (by simpa using h))
      rw [nval_cons]
      have h2 : 1 ≤ x.toNat - 48 := by have := hx.1; omega
      have h3 : 10 ^ 19 ≤ 10 ^ xs.length := Nat.pow_le_pow_right (by omega) (by simp at h19; omega)
      have := Nat.mul_le_mul_right (10 ^ xs.length) h2
      omega
  · by_cases he : b.length = 19
    · have hl : b.length = (Lib.decDigits 1152921504606846976).length := by rw [len60]; omega
      obtain ⟨l1, l2⟩ := less_iff b _ hl hal (dd_digit _)
      rw [nval_dd] at l1 l2
      have hc : ((!(Op.bytesLess b (Lib.decDigits 1152921504606846976) || b == Lib.decDigits 1152921504606846976)) = true) ↔ 1152921504606846976 < nval b := by
        rw [l1]
        simp [l2]; omega
      rw [hc]
      exact ⟨fun h => h.elim (fun h => absurd h h19) (fun h => h.2), fun h => .inr ⟨he, h⟩⟩
    · have h18 : nval b < 10 ^ 18 := Nat.lt_of_lt_of_le hlt (Nat.pow_le_pow_right (by omega) (by omega))
      exact ⟨fun h => h.elim (fun h => absurd h h19) (fun h => absurd h.1 he), fun h => by omega⟩
theorem digP_len {b : List UInt8} (hd : digP b) (h : nval b ≤ 1152921504606846976) : b.length ≤ 19 := by
  rcases Nat.lt_or_ge 19 b.length with q | q
  · have := (big_iff hd).1 (.inl q); omega
  · exact q
/-! ### The library's functions, as contracts -/
def HasTab (G : GInv) : Prop := ∀ w, G.G w → Lib.TabIs Tryd.prog w "internal/strconv.uint64pow10" .u64 Lib.pow10Tab
theorem cutPrefix_c (s p : List UInt8) : ACalls Tryd.prog G 76 [.str s, .str p] (.tup [.str (Lib.trimPrefix s p), .sb (Lib.hasPrefix s p)]) := by
  refine ⟨⟨Tryd.f76, _, Tryd.func76, rfl, by kernel_rfl⟩, ?_⟩
  intro im w vs him hG hl hr
  match vs, hl with
  | [a, b], _ =>
    have h0 : RelI im w (.str s) a := hr 0 (by simp) (by simp)
    have h1 : RelI im w (.str p) b := hr 1 (by simp) (by simp)
    obtain rfl := strI_inv h0
    obtain rfl := strI_inv h1
    refine Calls_mono (Tryd.strings_CutPrefix ⟨s.toArray⟩ ⟨p.toArray⟩ w) ?_
    rintro e w' ⟨rfl, rfl⟩
    refine ⟨_, rfl, ?_, Bw.refl _ _⟩
    refine .tup _ [.string ⟨(Lib.trimPrefix s p).toArray⟩, .bool (Lib.hasPrefix s p)] rfl ?_
    intro j h h'
    match j with
    | 0 => exact .str _
    | 1 => exact .sb _
    | j + 2 => exact absurd h (by simp)
theorem itoa_c (hT : HasTab G) (n : Int) (h0 : -9223372036854775808 ≤ n) (h1 : n ≤ 9223372036854775807) : ACalls Tryd.prog G 78 [.int .i64 n] (.str (Lib.itoa n)) := by
  refine ⟨⟨Tryd.f78, _, Tryd.func78, rfl, by kernel_rfl⟩, ?_⟩
  intro im w vs him hG hl hr
  match vs, hl with
  | [a], _ =>
    have h0 : RelI im w (.int .i64 n) a := hr 0 (by simp) (by simp)
    cases h0
    refine Calls_mono (Tryd.strconv_Itoa n (by omega) h1 w (hT w hG)) ?_
    rintro e w' ⟨rfl, k, os, rfl⟩
    refine ⟨_, rfl, .str _, Bw.of_below ⟨rfl, rfl, rfl, ?_, fun k hk => ?_⟩⟩
    · simp [Go.Sort.grow]
    · exact Go.Sort.heap_grow_old _ _ hk
/-! ### num -/
theorem text_c (hT : HasTab G) (n : Int) (h0 : -9223372036854775808 ≤ n) (h1 : n ≤ 9223372036854775807) : ACalls Tryd.prog G 45 [.int .i64 n] (.str (Lib.itoa n)) := by
  refine ACalls.of_WA ttok Tryd.func45 rfl rfl _ rfl ?_
  conv => whnf
  repeat' (first | refine WA_seq ?_ | (refine WA_region ttok ?_; conv => whnf) | (refine WA_draw ttok mixed ?_; conv => whnf) | (refine WA_cond ?_; conv => whnf) | refine WA_block ?_ | (refine WA_skip ?_; conv => whnf) | (refine WA_exit ?_; conv => whnf) | (refine WA_ret ?_; conv => whnf) | (refine And.intro (fun h => ?_) (fun h => ?_) <;> (try simp only [brsA] at h) <;> conv => whnf) | (refine Or.inl ?_; (conv => whnf); refine Exists.intro _ (And.intro (itoa_c hT n h0 h1) ?_); conv => whnf) | (refine Or.inr (Or.inr (Or.inl ?_)); (conv => whnf); refine Exists.intro _ (And.intro (itoa_c hT n h0 h1) ?_); conv => whnf) | (refine Exists.intro _ (And.intro (itoa_c hT n h0 h1) ?_); conv => whnf) | (refine WR_fit ?_ ?_; (focus (first | exact wr_i64 (by omega) | exact wr_u64 (by omega) | exact wr_u8 (by omega) | exact wr_i32 (by omega) | exact wr_u32 (by omega))); conv => whnf) | (refine WR_wrap ?_; conv => whnf) | (refine And.intro (a := indepB _ _ = true) ?_ ?_; (focus kernel_rfl); conv => whnf) | (refine And.intro rfl ?_; conv => whnf) | (refine And.intro ?_ ?_; (focus (first | omega | decide | (dsimp only; omega) | (simp at *; omega))); conv => whnf))
theorem value_c (s : List UInt8) (hd : ∀ j, j < s.length → isD (s.getD j 0)) (hb : nval s ≤ 1152921504606846976) (hl : s.length ≤ 1000000) : ACalls Tryd.prog G 79 [.str s] (.int .i64 (nval s)) := by
  refine ACalls.of_WA ttok Tryd.func79 rfl rfl _ rfl ?_
  conv => whnf
  repeat (first | refine WA_seq ?_ | (refine WA_region ttok ?_; conv => whnf) | (refine WA_draw ttok mixed ?_; conv => whnf) | (refine WA_cond ?_; conv => whnf) | refine WA_block ?_ | (refine WA_skip ?_; conv => whnf) | (refine WA_exit ?_; conv => whnf) | (refine WA_ret ?_; conv => whnf))
  refine WA_loopI (fun i : Nat => i ≤ s.length) (fun i => [(3, .int .i64 (nval (s.take i) : Nat)), (7, .int .i64 (i : Int))]) (fun _ => []) (fun i => s.length - i) 0 (by omega) ?_ ?_
  · conv => whnf
    repeat (first | exact rfl | exact trivial | exact Or.inl (fun _ _ => rfl) | exact (fun _ => rfl) | exact (fun _ _ => rfl) | exact Or.inl (fun _ hi => absurd hi (Nat.not_lt_zero _)) | (refine And.intro rfl ?_; conv => whnf) | (refine And.intro (Or.inl (fun _ _ => rfl)) ?_; conv => whnf) | (refine And.intro (fun _ => rfl) ?_; conv => whnf) | (refine And.intro (fun _ _ => rfl) ?_; conv => whnf) | (refine And.intro ?_ ?_; rotate_left; conv => whnf))
  · intro i hi
    conv => whnf
    repeat (first | refine WA_seq ?_ | (refine WA_region ttok ?_; conv => whnf) | (refine WA_draw ttok mixed ?_; conv => whnf) | (refine WA_cond ?_; conv => whnf) | refine WA_block ?_ | (refine WA_skip ?_; conv => whnf) | (refine WA_exit ?_; conv => whnf) | (refine WA_ret ?_; conv => whnf))
    refine ⟨fun h => ?_, fun h => ?_⟩
    · have h := of_decide_eq_true h
      have h1 := nval_take s (k := i) (by omega)
      have h2 := nval_take_le s (i + 1)
      have h3 : (s.getD (i : Int).toNat 0).toNat = (s.getD i 0).toNat := rfl
      have h4 := hd i (by omega)
      have h5 : 48 ≤ (s.getD i 0).toNat := h4.1
      have h6 : (s.getD i 0).toNat ≤ 57 := h4.2
      conv => whnf
      repeat' (first | refine WA_seq ?_ | (refine WA_region ttok ?_; conv => whnf) | (refine WA_draw ttok mixed ?_; conv => whnf) | (refine WA_cond ?_; conv => whnf) | refine WA_block ?_ | (refine WA_skip ?_; conv => whnf) | (refine WA_exit ?_; conv => whnf) | (refine WA_ret ?_; conv => whnf) | (refine And.intro (fun h => ?_) (fun h => ?_) <;> (try simp only [brsA] at h) <;> conv => whnf) | (refine WR_fit ?_ ?_; (focus (first | exact wr_i64 (by omega) | exact wr_u64 (by omega) | exact wr_u8 (by omega) | exact wr_i32 (by omega) | exact wr_u32 (by omega))); conv => whnf) | (refine WR_wrap ?_; conv => whnf) | (refine And.intro (a := indepB _ _ = true) ?_ ?_; (focus kernel_rfl); conv => whnf) | (refine And.intro rfl ?_; conv => whnf) | (refine And.intro ?_ ?_; (focus (first | omega | decide | (dsimp only; omega) | (simp at *; omega))); conv => whnf))
      refine ⟨i + 1, (by show i + 1 ≤ s.length; omega), (by show s.length - (i + 1) < s.length - i; omega), ?_⟩
      conv => whnf
      repeat (first | exact rfl | exact trivial | exact Or.inl (fun _ _ => rfl) | exact (fun _ => rfl) | exact (fun _ _ => rfl) | exact Or.inl (fun _ hi => absurd hi (Nat.not_lt_zero _)) | (refine And.intro rfl ?_; conv => whnf) | (refine And.intro (Or.inl (fun _ _ => rfl)) ?_; conv => whnf) | (refine And.intro (fun _ => rfl) ?_; conv => whnf) | (refine And.intro (fun _ _ => rfl) ?_; conv => whnf) | (refine And.intro ?_ ?_; rotate_left; conv => whnf))
      all_goals first | omega | trace_state
    · have h := of_decide_eq_false h
      have e : i = s.length := by omega
      subst e
      rw [List.take_length]
      conv => whnf
      repeat' (first | refine WA_seq ?_ | (refine WA_region ttok ?_; conv => whnf) | (refine WA_draw ttok mixed ?_; conv => whnf) | (refine WA_cond ?_; conv => whnf) | refine WA_block ?_ | (refine WA_skip ?_; conv => whnf) | (refine WA_exit ?_; conv => whnf) | (refine WA_ret ?_; conv => whnf) | (refine And.intro (fun h => ?_) (fun h => ?_) <;> (try simp only [brsA] at h) <;> conv => whnf) | (refine WR_fit ?_ ?_; (focus (first | exact wr_i64 (by omega) | exact wr_u64 (by omega) | exact wr_u8 (by omega) | exact wr_i32 (by omega) | exact wr_u32 (by omega))); conv => whnf) | (refine WR_wrap ?_; conv => whnf) | (refine And.intro (a := indepB _ _ = true) ?_ ?_; (focus kernel_rfl); conv => whnf) | (refine And.intro rfl ?_; conv => whnf) | (refine And.intro ?_ ?_; (focus (first | omega | decide | (dsimp only; omega) | (simp at *; omega))); conv => whnf))
end Go.Proofs.YtagokdeflnkplaaDoor
set_option linter.unusedSimpArgs false
namespace Go.Proofs.YtagokdeflnkplaaDoor
open Go.Proofs.YtagokdeflnkplaaDoor.Am
variable {G : GInv}
theorem u8_48 (c : UInt8) : (c.toNat : Int) = 48 ↔ c = 48 := by
  constructor
  · intro h; apply UInt8.toNat_inj.1; simpa using (by omega : c.toNat = 48)
  · intro h; subst h; rfl
set_option maxRecDepth 100000 in
theorem digits_c (s : List UInt8) (hl : s.length ≤ 1000000) : ACalls Tryd.prog G 77 [.str s] (.sb (decide (digP s))) := by
  by_cases h0 : s = []
  · subst h0
    rw [decide_eq_false (show ¬ digP [] from fun h => h.1 rfl)]
    refine ACalls.of_WA ttok Tryd.func77 rfl rfl _ rfl ?_
    conv => whnf
    repeat' (first | refine WA_seq ?_ | (refine WA_region ttok ?_; conv => whnf) | (refine WA_draw ttok mixed ?_; conv => whnf) | (refine WA_cond ?_; conv => whnf) | refine WA_block ?_ | (refine WA_skip ?_; conv => whnf) | (refine WA_exit ?_; conv => whnf) | (refine WA_ret ?_; conv => whnf) | (refine And.intro (fun h => ?_) (fun h => ?_) <;> (try simp only [brsA] at h) <;> conv => whnf) | (refine WR_fit ?_ ?_; (focus (first | exact wr_i64 (by omega) | exact wr_u64 (by omega) | exact wr_u8 (by omega) | exact wr_i32 (by omega) | exact wr_u32 (by omega))); conv => whnf) | (refine WR_wrap ?_; conv => whnf) | (refine And.intro (a := indepB _ _ = true) ?_ ?_; (focus kernel_rfl); conv => whnf) | (refine And.intro rfl ?_; conv => whnf) | (refine And.intro ?_ ?_; (focus (first | omega | decide | (dsimp only; omega) | (simp at *; omega))); conv => whnf))
    all_goals first | contradiction | (exfalso; omega) | skip
  · have hp : 0 < s.length := List.length_pos_iff.2 h0
    have hz := u8_48 (s.getD 0 0)
    by_cases h1 : s.getD 0 0 = 48 ∧ 1 < s.length
    · rw [decide_eq_false (show ¬ digP s from fun h => h.2.1 h1)]
      have hz' := hz.2 h1.1
      have h12 := h1.2
      refine ACalls.of_WA ttok Tryd.func77 rfl rfl _ rfl ?_
      conv => whnf
      repeat' (first | refine WA_seq ?_ | (refine WA_region ttok ?_; conv => whnf) | (refine WA_draw ttok mixed ?_; conv => whnf) | (refine WA_cond ?_; conv => whnf) | refine WA_block ?_ | (refine WA_skip ?_; conv => whnf) | (refine WA_exit ?_; conv => whnf) | (refine WA_ret ?_; conv => whnf) | (refine And.intro (fun h => ?_) (fun h => ?_) <;> (try simp only [brsA] at h) <;> conv => whnf) | (refine WR_fit ?_ ?_; (focus (first | exact wr_i64 (by omega) | exact wr_u64 (by omega) | exact wr_u8 (by omega) | exact wr_i32 (by omega) | exact wr_u32 (by omega))); conv => whnf) | (refine WR_wrap ?_; conv => whnf) | (refine And.intro (a := indepB _ _ = true) ?_ ?_; (focus kernel_rfl); conv => whnf) | (refine And.intro rfl ?_; conv => whnf) | (refine And.intro ?_ ?_; (focus (first | omega | decide | (dsimp only; omega) | (simp at *; omega))); conv => whnf))
      all_goals first | contradiction | (exfalso; omega) | (exact absurd hz' ‹_›)
    · refine ACalls.of_WA ttok Tryd.func77 rfl rfl _ rfl ?_
      conv => whnf
      repeat' (first | refine WA_seq ?_ | (refine WA_region ttok ?_; conv => whnf) | (refine WA_draw ttok mixed ?_; conv => whnf) | (refine WA_cond ?_; conv => whnf) | refine WA_block ?_ | (refine WA_skip ?_; conv => whnf) | (refine WA_exit ?_; conv => whnf) | (refine WA_ret ?_; conv => whnf) | (refine And.intro (fun h => ?_) (fun h => ?_) <;> (try simp only [brsA] at h) <;> conv => whnf) | (refine WR_fit ?_ ?_; (focus (first | exact wr_i64 (by omega) | exact wr_u64 (by omega) | exact wr_u8 (by omega) | exact wr_i32 (by omega) | exact wr_u32 (by omega))); conv => whnf) | (refine WR_wrap ?_; conv => whnf) | (refine And.intro (a := indepB _ _ = true) ?_ ?_; (focus kernel_rfl); conv => whnf) | (refine And.intro rfl ?_; conv => whnf) | (refine And.intro ?_ ?_; (focus (first | omega | decide | (dsimp only; omega) | (simp at *; omega))); conv => whnf))
      all_goals first | contradiction | exact absurd ⟨(u8_48 _).1 ‹_›, by omega⟩ h1 | skip
      all_goals
        refine WA_loopI (fun i : Nat => i ≤ s.length ∧ ∀ j, j < i → isD (s.getD j 0)) (fun i => [(18, .int .i64 (i : Int))]) (fun _ => []) (fun i => s.length - i) 0 ⟨by omega, fun j hj => by omega⟩ ?_ ?_
        · conv => whnf
          repeat (first | exact rfl | exact trivial | exact Or.inl (fun _ _ => rfl) | exact (fun _ => rfl) | exact (fun _ _ => rfl) | exact Or.inl (fun _ hi => absurd hi (Nat.not_lt_zero _)) | (refine And.intro rfl ?_; conv => whnf) | (refine And.intro (Or.inl (fun _ _ => rfl)) ?_; conv => whnf) | (refine And.intro (fun _ => rfl) ?_; conv => whnf) | (refine And.intro (fun _ _ => rfl) ?_; conv => whnf) | (refine And.intro ?_ ?_; rotate_left; conv => whnf))
        · rintro i ⟨hi, hd⟩
          conv => whnf
          repeat (first | refine WA_seq ?_ | (refine WA_region ttok ?_; conv => whnf) | (refine WA_draw ttok mixed ?_; conv => whnf) | (refine WA_cond ?_; conv => whnf) | refine WA_block ?_ | (refine WA_skip ?_; conv => whnf) | (refine WA_exit ?_; conv => whnf) | (refine WA_ret ?_; conv => whnf))
          refine ⟨fun h => ?_, fun h => ?_⟩
          · have h := of_decide_eq_true h
            conv => whnf
            repeat' (first | refine WA_seq ?_ | (refine WA_region ttok ?_; conv => whnf) | (refine WA_draw ttok mixed ?_; conv => whnf) | (refine WA_cond ?_; conv => whnf) | refine WA_block ?_ | (refine WA_skip ?_; conv => whnf) | (refine WA_exit ?_; conv => whnf) | (refine WA_ret ?_; conv => whnf) | (refine And.intro (fun h => ?_) (fun h => ?_) <;> (try simp only [brsA] at h) <;> conv => whnf) | (refine WR_fit ?_ ?_; (focus (first | exact wr_i64 (by omega) | exact wr_u64 (by omega) | exact wr_u8 (by omega) | exact wr_i32 (by omega) | exact wr_u32 (by omega))); conv => whnf) | (refine WR_wrap ?_; conv => whnf) | (refine And.intro (a := indepB _ _ = true) ?_ ?_; (focus kernel_rfl); conv => whnf) | (refine And.intro rfl ?_; conv => whnf) | (refine And.intro ?_ ?_; (focus (first | omega | decide | (dsimp only; omega) | (simp at *; omega))); conv => whnf))
            · refine (decide_eq_false fun hh => ?_).symm
              have h5 : 48 ≤ (s.getD i 0).toNat := (hh.2.2 i (by omega)).1
              have h6 : (s.getD i 0).toNat ≤ 57 := (hh.2.2 i (by omega)).2
              have h3 : (s.getD (i : Int).toNat 0).toNat = (s.getD i 0).toNat := rfl
              omega
            · refine ⟨i + 1, ⟨by omega, ?_⟩, (by show s.length - (i + 1) < s.length - i; omega), ?_⟩
              · intro j hj
                rcases Nat.lt_or_eq_of_le (Nat.le_of_lt_succ hj) with q | q
                · exact hd j q
                · subst q
                  have h3 : (s.getD (j : Int).toNat 0).toNat = (s.getD j 0).toNat := rfl
                  exact ⟨by omega, by omega⟩
              · conv => whnf
                repeat (first | exact rfl | exact trivial | exact Or.inl (fun _ _ => rfl) | exact (fun _ => rfl) | exact (fun _ _ => rfl) | exact Or.inl (fun _ hi => absurd hi (Nat.not_lt_zero _)) | (refine And.intro rfl ?_; conv => whnf) | (refine And.intro (Or.inl (fun _ _ => rfl)) ?_; conv => whnf) | (refine And.intro (fun _ => rfl) ?_; conv => whnf) | (refine And.intro (fun _ _ => rfl) ?_; conv => whnf) | (refine And.intro ?_ ?_; rotate_left; conv => whnf))
            · refine (decide_eq_false fun hh => ?_).symm
              have h5 : 48 ≤ (s.getD i 0).toNat := (hh.2.2 i (by omega)).1
              have h3 : (s.getD (i : Int).toNat 0).toNat = (s.getD i 0).toNat := rfl
              omega
          · have h := of_decide_eq_false h
            conv => whnf
            repeat' (first | refine WA_seq ?_ | (refine WA_region ttok ?_; conv => whnf) | (refine WA_draw ttok mixed ?_; conv => whnf) | (refine WA_cond ?_; conv => whnf) | refine WA_block ?_ | (refine WA_skip ?_; conv => whnf) | (refine WA_exit ?_; conv => whnf) | (refine WA_ret ?_; conv => whnf) | (refine And.intro (fun h => ?_) (fun h => ?_) <;> (try simp only [brsA] at h) <;> conv => whnf) | (refine WR_fit ?_ ?_; (focus (first | exact wr_i64 (by omega) | exact wr_u64 (by omega) | exact wr_u8 (by omega) | exact wr_i32 (by omega) | exact wr_u32 (by omega))); conv => whnf) | (refine WR_wrap ?_; conv => whnf) | (refine And.intro (a := indepB _ _ = true) ?_ ?_; (focus kernel_rfl); conv => whnf) | (refine And.intro rfl ?_; conv => whnf) | (refine And.intro ?_ ?_; (focus (first | omega | decide | (dsimp only; omega) | (simp at *; omega))); conv => whnf))
            exact (decide_eq_true (show digP s from ⟨h0, h1, fun j hj => hd j (by omega)⟩)).symm
end Go.Proofs.YtagokdeflnkplaaDoor
set_option linter.unusedSimpArgs false
namespace Go.Proofs.YtagokdeflnkplaaDoor
open Go.Proofs.YtagokdeflnkplaaDoor.Am
variable {G : GInv}
def bareP (s : List UInt8) : List UInt8 := Lib.trimPrefix s [45]
def minP (s : List UInt8) : Bool := Lib.hasPrefix s [45]
def numP (s : List UInt8) : Prop := digP (bareP s) ∧ ¬ (minP s = true ∧ bareP s = [48])
instance (s : List UInt8) : Decidable (numP s) := inferInstanceAs (Decidable (_ ∧ _))
/-- What a text is read as. -/
def parseN (s : List UInt8) : Int × Int :=
  if numP s then
    if 1152921504606846976 < nval (bareP s) then (0, 6) else
    if minP s = true then (-(nval (bareP s) : Int), 0) else ((nval (bareP s) : Int), 0)
  else (0, 2)
theorem trim_len (s : List UInt8) : (bareP s).length ≤ s.length := by unfold bareP Lib.trimPrefix; split <;> simp
set_option maxRecDepth 100000 in
set_option maxHeartbeats 2000000 in
theorem parse_c (hT : HasTab G) (s : List UInt8) (hl : s.length ≤ 1000000) : ACalls Tryd.prog G 42 [.str s] (.tup [.int .i64 (parseN s).1, .int .i64 (parseN s).2]) := by
  have hcp : ACalls Tryd.prog G 76 [.str s, .str [45]] (.tup [.str (bareP s), .sb (minP s)]) := cutPrefix_c s [45]
  have hbl := trim_len s
  have hdg := digits_c (G := G) (bareP s) (by omega)
  have hit := itoa_c hT 1152921504606846976 (by decide) (by decide)
  unfold parseN
  by_cases hn : numP s
  · rw [if_pos hn]
    have hbig := big_iff hn.1
    have hlen := digP_len hn.1
    rw [decide_eq_true hn.1] at hdg
    have hn2 := hn.2
    by_cases hb : 1152921504606846976 < nval (bareP s)
    · rw [if_pos hb]
      have hbb := hbig.2 hb
      refine ACalls.of_WA ttok Tryd.func42 rfl rfl _ rfl ?_
      conv => whnf
      repeat' (first | refine WA_seq ?_ | (refine WA_region ttok ?_; conv => whnf) | (refine WA_draw ttok mixed ?_; conv => whnf) | (refine WA_cond ?_; conv => whnf) | refine WA_block ?_ | (refine WA_skip ?_; conv => whnf) | (refine WA_exit ?_; conv => whnf) | (refine WA_ret ?_; conv => whnf) | (refine And.intro (fun h => ?_) (fun h => ?_) <;> (try simp only [brsA] at h) <;> conv => whnf) | (refine Or.inl ?_; (conv => whnf); refine Exists.intro _ (And.intro (hcp) ?_); conv => whnf) | (refine Or.inr (Or.inr (Or.inl ?_)); (conv => whnf); refine Exists.intro _ (And.intro (hcp) ?_); conv => whnf) | (refine Exists.intro _ (And.intro (hcp) ?_); conv => whnf) | (refine Or.inl ?_; (conv => whnf); refine Exists.intro _ (And.intro (hdg) ?_); conv => whnf) | (refine Or.inr (Or.inr (Or.inl ?_)); (conv => whnf); refine Exists.intro _ (And.intro (hdg) ?_); conv => whnf) | (refine Exists.intro _ (And.intro (hdg) ?_); conv => whnf) | (refine Or.inl ?_; (conv => whnf); refine Exists.intro _ (And.intro (hit) ?_); conv => whnf) | (refine Or.inr (Or.inr (Or.inl ?_)); (conv => whnf); refine Exists.intro _ (And.intro (hit) ?_); conv => whnf) | (refine Exists.intro _ (And.intro (hit) ?_); conv => whnf) | (refine WR_fit ?_ ?_; (focus (first | exact wr_i64 (by omega) | exact wr_u64 (by omega) | exact wr_u8 (by omega) | exact wr_i32 (by omega) | exact wr_u32 (by omega))); conv => whnf) | (refine WR_wrap ?_; conv => whnf) | (refine And.intro (a := indepB _ _ = true) ?_ ?_; (focus kernel_rfl); conv => whnf) | (refine And.intro rfl ?_; conv => whnf) | (refine And.intro ?_ ?_; (focus (first | omega | decide | (dsimp only; omega) | (simp at *; omega))); conv => whnf))
      all_goals clear hcp hdg hit
      all_goals first | contradiction | (exfalso; omega) | (exact absurd ⟨‹minP s = true›, ‹bareP s = [48]›⟩ hn2) | (exfalso; rw [‹(_ || _) = true›] at hbb; simp at hbb; omega) | (rw [if_pos ‹minP s = true›]; exact ⟨rfl, rfl⟩) | (rw [if_neg (by rw [‹minP s = false›]; exact Bool.noConfusion)]; exact ⟨rfl, rfl⟩) | (exact (hbb (.inr ⟨by omega, by rw [‹(_ || _) = false›]; rfl⟩)).elim) | (exact absurd ⟨‹digP _›, fun q => by simp_all⟩ hn) | trace_state
    · rw [if_neg hb]
      have hbb := fun h => hb (hbig.1 h)
      have hv := value_c (G := G) (bareP s) hn.1.2.2 (by omega) (by omega)
      refine ACalls.of_WA ttok Tryd.func42 rfl rfl _ rfl ?_
      conv => whnf
      repeat' (first | refine WA_seq ?_ | (refine WA_region ttok ?_; conv => whnf) | (refine WA_draw ttok mixed ?_; conv => whnf) | (refine WA_cond ?_; conv => whnf) | refine WA_block ?_ | (refine WA_skip ?_; conv => whnf) | (refine WA_exit ?_; conv => whnf) | (refine WA_ret ?_; conv => whnf) | (refine And.intro (fun h => ?_) (fun h => ?_) <;> (try simp only [brsA] at h) <;> conv => whnf) | (refine Or.inl ?_; (conv => whnf); refine Exists.intro _ (And.intro (hcp) ?_); conv => whnf) | (refine Or.inr (Or.inr (Or.inl ?_)); (conv => whnf); refine Exists.intro _ (And.intro (hcp) ?_); conv => whnf) | (refine Exists.intro _ (And.intro (hcp) ?_); conv => whnf) | (refine Or.inl ?_; (conv => whnf); refine Exists.intro _ (And.intro (hdg) ?_); conv => whnf) | (refine Or.inr (Or.inr (Or.inl ?_)); (conv => whnf); refine Exists.intro _ (And.intro (hdg) ?_); conv => whnf) | (refine Exists.intro _ (And.intro (hdg) ?_); conv => whnf) | (refine Or.inl ?_; (conv => whnf); refine Exists.intro _ (And.intro (hit) ?_); conv => whnf) | (refine Or.inr (Or.inr (Or.inl ?_)); (conv => whnf); refine Exists.intro _ (And.intro (hit) ?_); conv => whnf) | (refine Exists.intro _ (And.intro (hit) ?_); conv => whnf) | (refine Or.inl ?_; (conv => whnf); refine Exists.intro _ (And.intro (hv) ?_); conv => whnf) | (refine Or.inr (Or.inr (Or.inl ?_)); (conv => whnf); refine Exists.intro _ (And.intro (hv) ?_); conv => whnf) | (refine Exists.intro _ (And.intro (hv) ?_); conv => whnf) | (refine WR_fit ?_ ?_; (focus (first | exact wr_i64 (by omega) | exact wr_u64 (by omega) | exact wr_u8 (by omega) | exact wr_i32 (by omega) | exact wr_u32 (by omega))); conv => whnf) | (refine WR_wrap ?_; conv => whnf) | (refine And.intro (a := indepB _ _ = true) ?_ ?_; (focus kernel_rfl); conv => whnf) | (refine And.intro rfl ?_; conv => whnf) | (refine And.intro ?_ ?_; (focus (first | omega | decide | (dsimp only; omega) | (simp at *; omega))); conv => whnf))
      all_goals clear hcp hdg hit
      all_goals first | contradiction | (exfalso; omega) | (exact absurd ⟨‹minP s = true›, ‹bareP s = [48]›⟩ hn2) | (exfalso; rw [‹(_ || _) = true›] at hbb; simp at hbb; omega) | (rw [if_pos ‹minP s = true›]; exact ⟨rfl, rfl⟩) | (rw [if_neg (by rw [‹minP s = false›]; exact Bool.noConfusion)]; exact ⟨rfl, rfl⟩) | (exact (hbb (.inr ⟨by omega, by rw [‹(_ || _) = false›]; rfl⟩)).elim) | (exact absurd ⟨‹digP _›, fun q => by simp_all⟩ hn) | trace_state
  · rw [if_neg hn]
    refine ACalls.of_WA ttok Tryd.func42 rfl rfl _ rfl ?_
    conv => whnf
    repeat' (first | refine WA_seq ?_ | (refine WA_region ttok ?_; conv => whnf) | (refine WA_draw ttok mixed ?_; conv => whnf) | (refine WA_cond ?_; conv => whnf) | refine WA_block ?_ | (refine WA_skip ?_; conv => whnf) | (refine WA_exit ?_; conv => whnf) | (refine WA_ret ?_; conv => whnf) | (refine And.intro (fun h => ?_) (fun h => ?_) <;> (try simp only [brsA] at h) <;> conv => whnf) | (refine Or.inl ?_; (conv => whnf); refine Exists.intro _ (And.intro (hcp) ?_); conv => whnf) | (refine Or.inr (Or.inr (Or.inl ?_)); (conv => whnf); refine Exists.intro _ (And.intro (hcp) ?_); conv => whnf) | (refine Exists.intro _ (And.intro (hcp) ?_); conv => whnf) | (refine Or.inl ?_; (conv => whnf); refine Exists.intro _ (And.intro (hdg) ?_); conv => whnf) | (refine Or.inr (Or.inr (Or.inl ?_)); (conv => whnf); refine Exists.intro _ (And.intro (hdg) ?_); conv => whnf) | (refine Exists.intro _ (And.intro (hdg) ?_); conv => whnf) | (refine Or.inl ?_; (conv => whnf); refine Exists.intro _ (And.intro (hit) ?_); conv => whnf) | (refine Or.inr (Or.inr (Or.inl ?_)); (conv => whnf); refine Exists.intro _ (And.intro (hit) ?_); conv => whnf) | (refine Exists.intro _ (And.intro (hit) ?_); conv => whnf) | (refine WR_fit ?_ ?_; (focus (first | exact wr_i64 (by omega) | exact wr_u64 (by omega) | exact wr_u8 (by omega) | exact wr_i32 (by omega) | exact wr_u32 (by omega))); conv => whnf) | (refine WR_wrap ?_; conv => whnf) | (refine And.intro (a := indepB _ _ = true) ?_ ?_; (focus kernel_rfl); conv => whnf) | (refine And.intro rfl ?_; conv => whnf) | (refine And.intro ?_ ?_; (focus (first | omega | decide | (dsimp only; omega) | (simp at *; omega))); conv => whnf))
    all_goals clear hcp hdg hit
    all_goals first | contradiction | (exfalso; omega) | (exact absurd ⟨‹minP s = true›, ‹bareP s = [48]›⟩ hn2) | (exfalso; rw [‹(_ || _) = true›] at hbb; simp at hbb; omega) | (rw [if_pos ‹minP s = true›]; exact ⟨rfl, rfl⟩) | (rw [if_neg (by rw [‹minP s = false›]; exact Bool.noConfusion)]; exact ⟨rfl, rfl⟩) | (exact (hbb (.inr ⟨by omega, by rw [‹(_ || _) = false›]; rfl⟩)).elim) | (exact absurd ⟨‹digP _›, fun q => by simp_all⟩ hn) | trace_state
end Go.Proofs.YtagokdeflnkplaaDoor
set_option linter.unusedSimpArgs false
namespace Go.Proofs.YtagokdeflnkplaaDoor
open Go.Proofs.YtagokdeflnkplaaDoor.Am
/-! ### A number's text is read as the number; what is read as one is its text -/
theorem prefix_cons (s : List UInt8) (h : Lib.hasPrefix s [45] = true) : s = 45 :: Lib.trimPrefix s [45] := by
  unfold Lib.trimPrefix
  rw [if_pos h]
  unfold Lib.hasPrefix at h
  cases s with
  | nil => simp at h
  | cons c t => simp at h; simp [h]
theorem one_law (s : List UInt8) (hz : (parseN s).2 = 0) : Lib.itoa (parseN s).1 = s := by
  unfold parseN at hz ⊢
  by_cases h : numP s
  · rw [if_pos h] at hz ⊢
    by_cases hg : 1152921504606846976 < nval (bareP s)
    · rw [if_pos hg] at hz; simp at hz
    · rw [if_neg hg]
      have hd := dd_nval h.1
      by_cases hm : minP s = true
      · rw [if_pos hm]
        have hne : nval (bareP s) ≠ 0 := by
          intro e; rw [e, dd_one (by omega)] at hd; exact h.2 ⟨hm, hd.symm⟩
        show Lib.itoa (-(nval (bareP s) : Int)) = s
        rw [Lib.itoa_neg _ (by omega), hd]
        exact (prefix_cons s hm).symm
      · rw [if_neg hm]
        show Lib.itoa ((nval (bareP s) : Int)) = s
        rw [Lib.itoa_nonneg, hd]
        have hm' : ¬ Lib.hasPrefix s [45] = true := hm
        unfold bareP Lib.trimPrefix; rw [if_neg hm']
  · rw [if_neg h] at hz; simp at hz
end Go.Proofs.YtagokdeflnkplaaDoor
set_option linter.unusedSimpArgs false
namespace Go.Proofs.YtagokdeflnkplaaDoor
open Go.Proofs.YtagokdeflnkplaaDoor.Am
variable {G : GInv}
def intsA (l : List Int) : A := .sl l.length 1 fun i => [.int .i64 (l.getD i 0)]
/-! ### Numbers that are parted -/
def errL : List (List UInt8) → Int
  | [] => 0
  | p :: ps => if (parseN p).2 ≠ 0 then (parseN p).2 else errL ps
def numL (ps : List (List UInt8)) : List Int := ps.map fun p => (parseN p).1
theorem errL_drop (ps : List (List UInt8)) {i : Nat} (h : i < ps.length) : errL (ps.drop i) = if (parseN (ps.getD i [])).2 ≠ 0 then (parseN (ps.getD i [])).2 else errL (ps.drop (i + 1)) := by
  rw [List.drop_eq_getElem_cons h, errL, List.getD_eq_getElem?_getD, List.getElem?_eq_getElem h]; rfl
theorem numL_get (ps : List (List UInt8)) {i : Nat} (h : i < ps.length) : (numL ps).getD i 0 = (parseN (ps.getD i [])).1 := by
  unfold numL
  simp [List.getD_eq_getElem?_getD, h]
theorem cutL_get_len (c : UInt8) (s : List UInt8) (i : Nat) : ((cutL c s).getD i []).length ≤ s.length := by
  have h1 := totL_cutL c s
  rcases Nat.lt_or_ge i (cutL c s).length with h | h
  · have h2 := totL_take (cutL c s) i h
    have h3 := totL_take_le (cutL c s) (i + 1)
    omega
  · rw [List.getD_eq_getElem?_getD, List.getElem?_eq_none h]; simp
theorem rowInt (L : List Int) (i : Nat) (r : Nat → List A) (hr : r 0 = [.int .i64 (L.getD i 0)]) (j : Nat) (hj : j < i + 1) : rowCat i (fun j => [.int .i64 (L.getD j 0)]) r j = [A.int IntKind.i64 (L.getD j 0)] := by
  unfold rowCat
  split
  · rfl
  · rename_i q
    have q : ¬ j < i := fun h' => by rw [show Nat.blt j i = true from Nat.ble_eq_true_of_le h'] at q; cases q
    have e : j = i := by omega
    subst e
    rw [Nat.sub_self, hr]
end Go.Proofs.YtagokdeflnkplaaDoor

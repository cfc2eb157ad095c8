/-
  The place of an Id; how roads differ in one; changes counted.
-/
import Derived.Test.YtekfaocnlejgaaaRoad1
set_option linter.unusedSimpArgs false
set_option linter.unusedSectionVars false
namespace Go.Proofs.Ytekfaocnlejgaaa
open Go.Proofs.Ytekfaocnlejgaaa.Am
variable [Inhabited DRT]
variable {G : GInv}
/-! ### The place of an Id -/
def bsF (p : Nat → Bool) : Nat → Nat → Nat → Nat
  | 0, lo, _ => lo
  | f + 1, lo, hi => if lo < hi then (if p ((lo + hi) / 2) = true then bsF p f ((lo + hi) / 2 + 1) hi else bsF p f lo ((lo + hi) / 2)) else lo
theorem bsF_fuel (p : Nat → Bool) : ∀ (f g lo hi : Nat), hi - lo ≤ f → hi - lo ≤ g → bsF p f lo hi = bsF p g lo hi
  | 0, 0, _, _, _, _ => rfl
  | 0, g + 1, lo, hi, h, _ => by rw [bsF, bsF, if_neg (by omega)]
  | f + 1, 0, lo, hi, _, h => by rw [bsF, bsF, if_neg (by omega)]
  | f + 1, g + 1, lo, hi, h1, h2 => by
    rw [bsF, bsF]
    split
    · split
      · exact bsF_fuel p f g _ _ (by omega) (by omega)
      · exact bsF_fuel p f g _ _ (by omega) (by omega)
    · rfl
theorem bsF_step (p : Nat → Bool) {lo hi : Nat} (h : lo < hi) : bsF p (hi - lo) lo hi = if p ((lo + hi) / 2) = true then bsF p (hi - ((lo + hi) / 2 + 1)) ((lo + hi) / 2 + 1) hi else bsF p ((lo + hi) / 2 - lo) lo ((lo + hi) / 2) := by
  rw [show hi - lo = (hi - lo - 1) + 1 by omega, bsF, if_pos h]
  split
  · exact bsF_fuel p _ _ _ _ (by omega) (by omega)
  · exact bsF_fuel p _ _ _ _ (by omega) (by omega)
theorem bsF_inv (p : Nat → Bool) (n : Nat) (hm : ∀ a b, a ≤ b → b < n → p b = true → p a = true) : ∀ (f lo hi : Nat), hi - lo ≤ f → lo ≤ hi → hi ≤ n → (∀ k, k < lo → p k = true) → (∀ k, hi ≤ k → k < n → p k = false) →
    lo ≤ bsF p f lo hi ∧ bsF p f lo hi ≤ hi ∧ (∀ k, k < bsF p f lo hi → p k = true) ∧ (∀ k, bsF p f lo hi ≤ k → k < n → p k = false)
  | 0, lo, hi, h, h1, h2, h3, h4 => by
    have : lo = hi := by omega
    subst this
    exact ⟨Nat.le_refl _, Nat.le_refl _, h3, h4⟩
  | f + 1, lo, hi, h, h1, h2, h3, h4 => by
    rw [bsF]
    split
    · split
      · rename_i q1 q2
        obtain ⟨a, b, c, d⟩ := bsF_inv p n hm f ((lo + hi) / 2 + 1) hi (by omega) (by omega) h2 (fun k hk => hm k _ (by omega) (by omega) q2) h4
        exact ⟨by omega, b, c, d⟩
      · rename_i q1 q2
        obtain ⟨a, b, c, d⟩ := bsF_inv p n hm f lo ((lo + hi) / 2) (by omega) (by omega) (by omega) h3 (fun k hk hn => by
          cases hq : p k
          · rfl
          · exact absurd (hm _ k hk hn hq) q2)
        exact ⟨a, by omega, c, d⟩
    · have : lo = hi := by omega
      subst this
      exact ⟨Nat.le_refl _, Nat.le_refl _, h3, h4⟩
def lessR (l : List Rd) (id : Int) (i : Nat) : Bool := decide (cmpI (l.getD i default).id id < 0)
def bsL (l : List Rd) (id : Int) : Nat := bsF (lessR l id) l.length 0 l.length
def isL (l : List Rd) (id : Int) : Bool := decide (bsL l id < l.length) && decide (cmpI (l.getD (bsL l id) default).id id = 0)
theorem clo27_c (r : Rd) (id : Int) : ACalls Try.prog G 27 [.agg (rdA r), .int .i64 id] (.int .i64 (cmpI r.id id)) := by
  refine ACalls.of_WA ttok Try.func27 rfl rfl _ rfl ?_
  conv => whnf
  repeat' (first | refine WA_seq ?_ | refine WA_block ?_ | ((first | refine WA_region ttok ?_ | refine WA_draw ttok mixed ?_ | refine WA_cond ?_ | refine WA_skip ?_ | refine WA_exit ?_ | refine WA_ret ?_); conv => whnf) | (refine And.intro (fun h => ?_) (fun h => ?_) <;> (try simp only [brsA] at h) <;> conv => whnf) | (refine Or.inl ?_; (conv => whnf); refine ⟨_, compare_c _ _, ?_⟩; conv => whnf) | (refine Or.inr (Or.inr (Or.inl ?_)); (conv => whnf); refine ⟨_, compare_c _ _, ?_⟩; conv => whnf) | (refine Exists.intro _ (And.intro (compare_c _ _) ?_); conv => whnf) | (refine WR_fit ?_ ?_; (focus (first | exact wr_i64 (by omega) | exact wr_u64 (by omega) | exact wr_u8 (by omega) | exact wr_i32 (by omega) | exact wr_u32 (by omega))); conv => whnf) | ((first | refine WR_wrap ?_ | (refine And.intro (a := indepB _ _ = true) ?_ ?_; (focus kernel_rfl)) | refine And.intro rfl ?_ | (refine And.intro ?_ ?_; (focus (first | omega | decide | (dsimp only; omega) | (simp at *; omega))))); conv => whnf))
set_option maxRecDepth 100000 in
theorem bsearch_c (l : List Rd) (id : Int) (hl : l.length ≤ 1000000) : ACalls Try.prog G 26 [rdsA l, .int .i64 id, .fn 27 []] (.tup [.int .i64 (bsL l id), .sb (isL l id)]) := by
  refine ACalls.of_WA ttok Try.func26 rfl rfl _ rfl ?_
  conv => whnf
  repeat' (first | refine WA_seq ?_ | refine WA_block ?_ | ((first | refine WA_region ttok ?_ | refine WA_draw ttok mixed ?_ | refine WA_cond ?_ | refine WA_skip ?_ | refine WA_exit ?_ | refine WA_ret ?_); conv => whnf) | (refine And.intro (fun h => ?_) (fun h => ?_) <;> (try simp only [brsA] at h) <;> conv => whnf) | (refine WR_fit ?_ ?_; (focus (first | exact wr_i64 (by omega) | exact wr_u64 (by omega) | exact wr_u8 (by omega) | exact wr_i32 (by omega) | exact wr_u32 (by omega))); conv => whnf) | ((first | refine WR_wrap ?_ | (refine And.intro (a := indepB _ _ = true) ?_ ?_; (focus kernel_rfl)) | refine And.intro rfl ?_ | (refine And.intro ?_ ?_; (focus (first | omega | decide | (dsimp only; omega) | (simp at *; omega))))); conv => whnf))
  refine WA_loopI (fun x : Nat × Nat => x.1 ≤ x.2 ∧ x.2 ≤ l.length ∧ bsF (lessR l id) (x.2 - x.1) x.1 x.2 = bsL l id) (fun x => match x with | (lo, hi) => [(9, .int .i64 (lo : Int)), (10, .int .i64 (hi : Int))]) (fun _ => []) (fun x => x.2 - x.1) (0, l.length) ⟨by simp, by simp, rfl⟩ ?_ ?_
  · conv => whnf
    repeat (first | exact rfl | exact trivial | exact Or.inl (fun _ _ => rfl) | exact (fun _ => rfl) | exact (fun _ _ => rfl) | exact Or.inl (fun _ hi => absurd hi (Nat.not_lt_zero _)) | ((first | refine And.intro rfl ?_ | refine And.intro (Or.inl (fun _ _ => rfl)) ?_ | refine And.intro (fun _ => rfl) ?_ | refine And.intro (fun _ _ => rfl) ?_ | (refine And.intro ?_ ?_; rotate_left)); conv => whnf))
  · rintro ⟨lo, hi⟩ ⟨h1, h2, h3⟩
    have h1 : lo ≤ hi := h1
    have h2 : hi ≤ l.length := h2
    have h3 : bsF (lessR l id) (hi - lo) lo hi = bsL l id := h3
    have hm : ((lo : Int) + (hi : Int)).fdiv (2 ^ (min (Int.toNat 1) IntKind.u64.bits)) = (((lo + hi) / 2 : Nat) : Int) := by
      have e2 : (2 : Int) ^ (min (Int.toNat 1) IntKind.u64.bits) = 2 := by decide
      rw [e2, Int.fdiv_eq_ediv_of_nonneg _ (by decide)]
      omega
    conv => whnf
    repeat (first | refine WA_seq ?_ | refine WA_block ?_ | ((first | refine WA_region ttok ?_ | refine WA_draw ttok mixed ?_ | refine WA_cond ?_ | refine WA_skip ?_ | refine WA_exit ?_ | refine WA_ret ?_); conv => whnf))
    refine ⟨fun h => ?_, fun h => ?_⟩
    · have h := of_decide_eq_true h
      have hlt : lo < hi := by omega
      conv => whnf
      refine WA_skip ?_
      conv => whnf
      refine WA_block ?_
      refine WA_seq ?_
      refine WA_region ttok ?_
      conv => whnf
      refine WR_fit (wr_i64 (by omega)) ?_
      conv => whnf
      refine WR_fit (wr_u64 (by omega)) ?_
      conv => whnf
      refine ⟨by decide, ?_⟩
      conv => whnf
      rw [hm]
      have hc := clo27_c (G := G) (l.getD ((lo + hi) / 2) default) id
      repeat' (first | refine WA_seq ?_ | refine WA_block ?_ | ((first | refine WA_region ttok ?_ | refine WA_draw ttok mixed ?_ | refine WA_cond ?_ | refine WA_skip ?_ | refine WA_exit ?_ | refine WA_ret ?_); conv => whnf) | (refine And.intro (fun h => ?_) (fun h => ?_) <;> (try simp only [brsA] at h) <;> conv => whnf) | (refine Or.inl ?_; (conv => whnf); refine ⟨_, hc, ?_⟩; conv => whnf) | (refine Or.inr (Or.inr (Or.inl ?_)); (conv => whnf); refine ⟨_, hc, ?_⟩; conv => whnf) | (refine Exists.intro _ (And.intro (hc) ?_); conv => whnf) | (refine WR_fit ?_ ?_; (focus (first | exact wr_i64 (by omega) | exact wr_u64 (by omega) | exact wr_u8 (by omega) | exact wr_i32 (by omega) | exact wr_u32 (by omega))); conv => whnf) | ((first | refine WR_wrap ?_ | (refine And.intro (a := indepB _ _ = true) ?_ ?_; (focus kernel_rfl)) | refine And.intro rfl ?_ | (refine And.intro ?_ ?_; (focus (first | omega | decide | (dsimp only; omega) | (simp at *; omega))))); conv => whnf))
      · have h : cmpI (l.getD ((lo + hi) / 2) default).id id < 0 := h
        refine ⟨((lo + hi) / 2 + 1, hi), ⟨?_, h2, ?_⟩, ?_, ?_⟩
        · show (lo + hi) / 2 + 1 ≤ hi; omega
        · show bsF (lessR l id) (hi - ((lo + hi) / 2 + 1)) ((lo + hi) / 2 + 1) hi = bsL l id
          rw [← h3, bsF_step _ hlt, if_pos (by simp only [lessR, h, decide_true])]
        · show hi - ((lo + hi) / 2 + 1) < hi - lo; omega
        · conv => whnf
          repeat (first | exact rfl | exact trivial | exact Or.inl (fun _ _ => rfl) | exact (fun _ => rfl) | exact (fun _ _ => rfl) | exact Or.inl (fun _ hi => absurd hi (Nat.not_lt_zero _)) | ((first | refine And.intro rfl ?_ | refine And.intro (Or.inl (fun _ _ => rfl)) ?_ | refine And.intro (fun _ => rfl) ?_ | refine And.intro (fun _ _ => rfl) ?_ | (refine And.intro ?_ ?_; rotate_left)); conv => whnf))
      · have h : ¬ cmpI (l.getD ((lo + hi) / 2) default).id id < 0 := h
        refine ⟨(lo, (lo + hi) / 2), ⟨?_, ?_, ?_⟩, ?_, ?_⟩
        · show lo ≤ (lo + hi) / 2; omega
        · show (lo + hi) / 2 ≤ l.length; omega
        · show bsF (lessR l id) ((lo + hi) / 2 - lo) lo ((lo + hi) / 2) = bsL l id
          rw [← h3, bsF_step _ hlt, if_neg (by simp only [lessR, h, decide_false]; simp)]
        · show (lo + hi) / 2 - lo < hi - lo; omega
        · conv => whnf
          repeat (first | exact rfl | exact trivial | exact Or.inl (fun _ _ => rfl) | exact (fun _ => rfl) | exact (fun _ _ => rfl) | exact Or.inl (fun _ hi => absurd hi (Nat.not_lt_zero _)) | ((first | refine And.intro rfl ?_ | refine And.intro (Or.inl (fun _ _ => rfl)) ?_ | refine And.intro (fun _ => rfl) ?_ | refine And.intro (fun _ _ => rfl) ?_ | (refine And.intro ?_ ?_; rotate_left)); conv => whnf))
    · have h := of_decide_eq_false h
      have he : lo = bsL l id := by
        rw [← h3, show hi - lo = 0 by omega]; rfl
      have hc := clo27_c (G := G) (l.getD lo default) id
      conv => whnf
      repeat' (first | refine WA_seq ?_ | refine WA_block ?_ | ((first | refine WA_region ttok ?_ | refine WA_draw ttok mixed ?_ | refine WA_cond ?_ | refine WA_skip ?_ | refine WA_exit ?_ | refine WA_ret ?_); conv => whnf) | (refine And.intro (fun h => ?_) (fun h => ?_) <;> (try simp only [brsA] at h) <;> conv => whnf) | (refine Or.inl ?_; (conv => whnf); refine ⟨_, hc, ?_⟩; conv => whnf) | (refine Or.inr (Or.inr (Or.inl ?_)); (conv => whnf); refine ⟨_, hc, ?_⟩; conv => whnf) | (refine Exists.intro _ (And.intro (hc) ?_); conv => whnf) | (refine WR_fit ?_ ?_; (focus (first | exact wr_i64 (by omega) | exact wr_u64 (by omega) | exact wr_u8 (by omega) | exact wr_i32 (by omega) | exact wr_u32 (by omega))); conv => whnf) | ((first | refine WR_wrap ?_ | (refine And.intro (a := indepB _ _ = true) ?_ ?_; (focus kernel_rfl)) | refine And.intro rfl ?_ | (refine And.intro ?_ ?_; (focus (first | omega | decide | (dsimp only; omega) | (simp at *; omega))))); conv => whnf))
      · have hd : decide (bsL l id < l.length) = true := decide_eq_true (by omega)
        unfold isL
        rw [hd, Bool.true_and, ← he]
        rfl
      · have hd : decide (bsL l id < l.length) = false := decide_eq_false (by omega)
        unfold isL
        rw [hd, Bool.false_and]
theorem at_c (l : List Rd) (id : Int) (hl : l.length ≤ 1000000) : ACalls Try.prog G 16 [rdsA l, .int .i64 id] (.tup [.int .i64 (bsL l id), .sb (isL l id)]) := by
  refine ACalls.of_WA ttok Try.func16 rfl rfl _ rfl ?_
  conv => whnf
  repeat' (first | refine WA_seq ?_ | refine WA_block ?_ | ((first | refine WA_region ttok ?_ | refine WA_draw ttok mixed ?_ | refine WA_cond ?_ | refine WA_skip ?_ | refine WA_exit ?_ | refine WA_ret ?_); conv => whnf) | (refine And.intro (fun h => ?_) (fun h => ?_) <;> (try simp only [brsA] at h) <;> conv => whnf) | (refine Or.inl ?_; (conv => whnf); refine ⟨_, bsearch_c l id hl, ?_⟩; conv => whnf) | (refine Or.inr (Or.inr (Or.inl ?_)); (conv => whnf); refine ⟨_, bsearch_c l id hl, ?_⟩; conv => whnf) | (refine Exists.intro _ (And.intro (bsearch_c l id hl) ?_); conv => whnf) | (refine WR_fit ?_ ?_; (focus (first | exact wr_i64 (by omega) | exact wr_u64 (by omega) | exact wr_u8 (by omega) | exact wr_i32 (by omega) | exact wr_u32 (by omega))); conv => whnf) | ((first | refine WR_wrap ?_ | (refine And.intro (a := indepB _ _ = true) ?_ ?_; (focus kernel_rfl)) | refine And.intro rfl ?_ | (refine And.intro ?_ ?_; (focus (first | omega | decide | (dsimp only; omega) | (simp at *; omega))))); conv => whnf))
/-! ### The reference's place of an Id; how roads differ in one -/
def idAt (l : List Rd) (id : Int) (i : Nat) : Bool := decide ((l.getD i default).id = id)
def fnd (l : List Rd) (id : Int) : Int := fstAt (idAt l id) l.length 0
theorem fnd_c (l : List Rd) (id : Int) (hl : l.length ≤ 1000000) : ACalls Try.prog G 10 [rdsA l, .int .i64 id] (.int .i64 (fnd l id)) := by
  refine ACalls.of_WA ttok Try.func10 rfl rfl _ rfl ?_
  conv => whnf
  repeat' (first | refine WA_seq ?_ | refine WA_block ?_ | ((first | refine WA_region ttok ?_ | refine WA_draw ttok mixed ?_ | refine WA_cond ?_ | refine WA_skip ?_ | refine WA_exit ?_ | refine WA_ret ?_); conv => whnf) | (refine And.intro (fun h => ?_) (fun h => ?_) <;> (try simp only [brsA] at h) <;> conv => whnf) | (refine WR_fit ?_ ?_; (focus (first | exact wr_i64 (by omega) | exact wr_u64 (by omega) | exact wr_u8 (by omega) | exact wr_i32 (by omega) | exact wr_u32 (by omega))); conv => whnf) | ((first | refine WR_wrap ?_ | (refine And.intro (a := indepB _ _ = true) ?_ ?_; (focus kernel_rfl)) | refine And.intro rfl ?_ | (refine And.intro ?_ ?_; (focus (first | omega | decide | (dsimp only; omega) | (simp at *; omega))))); conv => whnf))
  refine WA_loopI (fun i : Nat => i ≤ l.length ∧ fnd l id = fstAt (idAt l id) (l.length - i) i) (fun i => [(5, .int .i64 (i : Int))]) (fun _ => []) (fun i => l.length - i) 0 ⟨by omega, rfl⟩ ?_ ?_
  · conv => whnf
    repeat (first | exact rfl | exact trivial | exact Or.inl (fun _ _ => rfl) | exact (fun _ => rfl) | exact (fun _ _ => rfl) | exact Or.inl (fun _ hi => absurd hi (Nat.not_lt_zero _)) | ((first | refine And.intro rfl ?_ | refine And.intro (Or.inl (fun _ _ => rfl)) ?_ | refine And.intro (fun _ => rfl) ?_ | refine And.intro (fun _ _ => rfl) ?_ | (refine And.intro ?_ ?_; rotate_left)); conv => whnf))
  · rintro i ⟨hi, he⟩
    conv => whnf
    repeat' (first | refine WA_seq ?_ | refine WA_block ?_ | ((first | refine WA_region ttok ?_ | refine WA_draw ttok mixed ?_ | refine WA_cond ?_ | refine WA_skip ?_ | refine WA_exit ?_ | refine WA_ret ?_); conv => whnf) | (refine And.intro (fun h => ?_) (fun h => ?_) <;> (try simp only [brsA] at h) <;> conv => whnf) | (refine WR_fit ?_ ?_; (focus (first | exact wr_i64 (by omega) | exact wr_u64 (by omega) | exact wr_u8 (by omega) | exact wr_i32 (by omega) | exact wr_u32 (by omega))); conv => whnf) | ((first | refine WR_wrap ?_ | (refine And.intro (a := indepB _ _ = true) ?_ ?_; (focus kernel_rfl)) | refine And.intro rfl ?_ | (refine And.intro ?_ ?_; (focus (first | omega | decide | (dsimp only; omega) | (simp at *; omega))))); conv => whnf))
    · have h : (l.getD i default).id = id := h
      rw [he, fstAt_step _ (show i < l.length by omega), if_pos (show idAt l id i = true from decide_eq_true h)]
    · have h : ¬ (l.getD i default).id = id := h
      refine ⟨i + 1, ⟨by omega, by rw [he, fstAt_step _ (show i < l.length by omega), if_neg (by unfold idAt; rw [decide_eq_false h]; exact Bool.noConfusion)]⟩, (by show l.length - (i + 1) < l.length - i; omega), ?_⟩
      conv => whnf
      repeat (first | exact rfl | exact trivial | exact Or.inl (fun _ _ => rfl) | exact (fun _ => rfl) | exact (fun _ _ => rfl) | exact Or.inl (fun _ hi => absurd hi (Nat.not_lt_zero _)) | ((first | refine And.intro rfl ?_ | refine And.intro (Or.inl (fun _ _ => rfl)) ?_ | refine And.intro (fun _ => rfl) ?_ | refine And.intro (fun _ _ => rfl) ?_ | (refine And.intro ?_ ?_; rotate_left)); conv => whnf))
    · rw [he, show l.length - i = 0 by omega]; rfl
theorem fstAt_lt (p : Nat → Bool) : ∀ (n i : Nat), fstAt p n i < (i + n : Nat) ∧ -1 ≤ fstAt p n i
  | 0, i => by simp [fstAt]; omega
  | n + 1, i => by
    rw [fstAt]
    split
    · omega
    · have := fstAt_lt p n (i + 1); omega
theorem fnd_lt (l : List Rd) (id : Int) : fnd l id < l.length ∧ -1 ≤ fnd l id := by
  have := fstAt_lt (idAt l id) l.length 0
  unfold fnd; omega
def howR (a b : List Rd) (id : Int) : Int := if fnd a id < 0 ∧ fnd b id < 0 then 0 else if fnd a id < 0 then 1 else if fnd b id < 0 then 2 else if a.getD (fnd a id).toNat default = b.getD (fnd b id).toNat default then 0 else 3
set_option maxRecDepth 100000 in
set_option maxHeartbeats 2000000 in
theorem how_c (a b : List Rd) (id : Int) (ha : Lt a) (hb : b.length ≤ 1000000) : ACalls Try.prog G 9 [rdsA a, rdsA b, .int .i64 id] (.int .i64 (howR a b id)) := by
  have h1 := fnd_c (G := G) a id (by have := ha.1; omega)
  have h2 := fnd_c (G := G) b id hb
  have la := fnd_lt a id
  have lb := fnd_lt b id
  unfold howR
  generalize fnd a id = x at *
  generalize fnd b id = y at *
  by_cases hn : 0 ≤ x
  · have h3 := one_c (G := G) (a.getD x.toNat default) (b.getD y.toNat default) (ha.2 _ (by omega))
    refine ACalls.of_WA ttok Try.func9 rfl rfl _ rfl ?_
    conv => whnf
    repeat' (first | refine WA_seq ?_ | refine WA_block ?_ | ((first | refine WA_region ttok ?_ | refine WA_draw ttok mixed ?_ | refine WA_cond ?_ | refine WA_skip ?_ | refine WA_exit ?_ | refine WA_ret ?_); conv => whnf) | (refine And.intro (fun h => ?_) (fun h => ?_) <;> (try simp only [brsA] at h) <;> conv => whnf) | (refine Or.inl ?_; (conv => whnf); refine ⟨_, h1, ?_⟩; conv => whnf) | (refine Or.inr (Or.inr (Or.inl ?_)); (conv => whnf); refine ⟨_, h1, ?_⟩; conv => whnf) | (refine Exists.intro _ (And.intro (h1) ?_); conv => whnf) | (refine Or.inl ?_; (conv => whnf); refine ⟨_, h2, ?_⟩; conv => whnf) | (refine Or.inr (Or.inr (Or.inl ?_)); (conv => whnf); refine ⟨_, h2, ?_⟩; conv => whnf) | (refine Exists.intro _ (And.intro (h2) ?_); conv => whnf) | (refine Or.inl ?_; (conv => whnf); refine ⟨_, h3, ?_⟩; conv => whnf) | (refine Or.inr (Or.inr (Or.inl ?_)); (conv => whnf); refine ⟨_, h3, ?_⟩; conv => whnf) | (refine Exists.intro _ (And.intro (h3) ?_); conv => whnf) | (refine WR_fit ?_ ?_; (focus (first | exact wr_i64 (by omega) | exact wr_u64 (by omega) | exact wr_u8 (by omega) | exact wr_i32 (by omega) | exact wr_u32 (by omega))); conv => whnf) | ((first | refine WR_wrap ?_ | (refine And.intro (a := indepB _ _ = true) ?_ ?_; (focus kernel_rfl)) | refine And.intro rfl ?_ | (refine And.intro ?_ ?_; (focus (first | omega | decide | (dsimp only; omega) | (simp at *; omega))))); conv => whnf))
    all_goals first | (exfalso; omega) | skip
    all_goals (repeat' split) <;> first | rfl | contradiction | (exfalso; omega)
  · refine ACalls.of_WA ttok Try.func9 rfl rfl _ rfl ?_
    conv => whnf
    repeat' (first | refine WA_seq ?_ | refine WA_block ?_ | ((first | refine WA_region ttok ?_ | refine WA_draw ttok mixed ?_ | refine WA_cond ?_ | refine WA_skip ?_ | refine WA_exit ?_ | refine WA_ret ?_); conv => whnf) | (refine And.intro (fun h => ?_) (fun h => ?_) <;> (try simp only [brsA] at h) <;> conv => whnf) | (refine Or.inl ?_; (conv => whnf); refine ⟨_, h1, ?_⟩; conv => whnf) | (refine Or.inr (Or.inr (Or.inl ?_)); (conv => whnf); refine ⟨_, h1, ?_⟩; conv => whnf) | (refine Exists.intro _ (And.intro (h1) ?_); conv => whnf) | (refine Or.inl ?_; (conv => whnf); refine ⟨_, h2, ?_⟩; conv => whnf) | (refine Or.inr (Or.inr (Or.inl ?_)); (conv => whnf); refine ⟨_, h2, ?_⟩; conv => whnf) | (refine Exists.intro _ (And.intro (h2) ?_); conv => whnf) | (refine WR_fit ?_ ?_; (focus (first | exact wr_i64 (by omega) | exact wr_u64 (by omega) | exact wr_u8 (by omega) | exact wr_i32 (by omega) | exact wr_u32 (by omega))); conv => whnf) | ((first | refine WR_wrap ?_ | (refine And.intro (a := indepB _ _ = true) ?_ ?_; (focus kernel_rfl)) | refine And.intro rfl ?_ | (refine And.intro ?_ ?_; (focus (first | omega | decide | (dsimp only; omega) | (simp at *; omega))))); conv => whnf))
    all_goals first | (exfalso; omega) | skip
    all_goals (repeat' split) <;> first | rfl | contradiction | (exfalso; omega)
/-! ### Changes, counted -/
structure Ch where
  id : Int
  how : Int
  deriving Inhabited, DecidableEq
def chA (c : Ch) : List A := [.int .i64 c.id, .int .i64 c.how]
def rowC (l : List Ch) : Nat → List A := fun i => chA (l.getD i default)
def chsA (l : List Ch) : A := .sl l.length 2 (rowC l)
def cntH (l : List Ch) (h : Int) : Nat → Nat
  | 0 => 0
  | k + 1 => cntH l h k + if (l.getD k default).how = h then 1 else 0
theorem cntH_le (l : List Ch) (h : Int) : ∀ k, cntH l h k ≤ k
  | 0 => Nat.le_refl _
  | k + 1 => by have := cntH_le l h k; rw [cntH]; split <;> omega
theorem count_c (l : List Ch) (hl : l.length ≤ 1000000) : ACalls Try.prog G 12 [chsA l] (.agg [.int .i64 (cntH l 1 l.length : Nat), .int .i64 (cntH l 2 l.length : Nat), .int .i64 (cntH l 3 l.length : Nat)]) := by
  refine ACalls.of_WA ttok Try.func12 rfl rfl _ rfl ?_
  conv => whnf
  repeat' (first | refine WA_seq ?_ | refine WA_block ?_ | ((first | refine WA_region ttok ?_ | refine WA_draw ttok mixed ?_ | refine WA_cond ?_ | refine WA_skip ?_ | refine WA_exit ?_ | refine WA_ret ?_); conv => whnf) | (refine And.intro (fun h => ?_) (fun h => ?_) <;> (try simp only [brsA] at h) <;> conv => whnf) | (refine WR_fit ?_ ?_; (focus (first | exact wr_i64 (by omega) | exact wr_u64 (by omega) | exact wr_u8 (by omega) | exact wr_i32 (by omega) | exact wr_u32 (by omega))); conv => whnf) | ((first | refine WR_wrap ?_ | (refine And.intro (a := indepB _ _ = true) ?_ ?_; (focus kernel_rfl)) | refine And.intro rfl ?_ | (refine And.intro ?_ ?_; (focus (first | omega | decide | (dsimp only; omega) | (simp at *; omega))))); conv => whnf))
  refine WA_loopI (fun i : Nat => i ≤ l.length) (fun i => [(8, .int .i64 (i : Int))]) (fun i => [.box 30 [.int .i64 0, .int .i64 0, .int .i64 0], .box 30 [.int .i64 (cntH l 1 i : Nat), .int .i64 (cntH l 2 i : Nat), .int .i64 (cntH l 3 i : Nat)]]) (fun i => l.length - i) 0 (by omega) ?_ ?_
  · conv => whnf
    repeat (first | exact rfl | exact trivial | exact Or.inl (fun _ _ => rfl) | exact (fun _ => rfl) | exact (fun _ _ => rfl) | exact Or.inl (fun _ hi => absurd hi (Nat.not_lt_zero _)) | ((first | refine And.intro rfl ?_ | refine And.intro (Or.inl (fun _ _ => rfl)) ?_ | refine And.intro (fun _ => rfl) ?_ | refine And.intro (fun _ _ => rfl) ?_ | (refine And.intro ?_ ?_; rotate_left)); conv => whnf))
  · intro i hi
    have c1 := cntH_le l 1 i
    have c2 := cntH_le l 2 i
    have c3 := cntH_le l 3 i
    conv => whnf
    repeat (first | refine WA_seq ?_ | refine WA_block ?_ | ((first | refine WA_region ttok ?_ | refine WA_draw ttok mixed ?_ | refine WA_cond ?_ | refine WA_skip ?_ | refine WA_exit ?_ | refine WA_ret ?_); conv => whnf))
    refine ⟨fun h => ?_, fun h => ?_⟩
    · have h : (i : Int) < l.length := of_decide_eq_true h
      conv => whnf
      repeat' (first | refine WA_seq ?_ | refine WA_block ?_ | ((first | refine WA_region ttok ?_ | refine WA_draw ttok mixed ?_ | refine WA_cond ?_ | refine WA_skip ?_ | refine WA_exit ?_ | refine WA_ret ?_); conv => whnf) | (refine And.intro (fun h => ?_) (fun h => ?_) <;> (try simp only [brsA] at h) <;> conv => whnf) | (refine WR_fit ?_ ?_; (focus (first | exact wr_i64 (by omega) | exact wr_u64 (by omega) | exact wr_u8 (by omega) | exact wr_i32 (by omega) | exact wr_u32 (by omega))); conv => whnf) | ((first | refine WR_wrap ?_ | (refine And.intro (a := indepB _ _ = true) ?_ ?_; (focus kernel_rfl)) | refine And.intro rfl ?_ | (refine And.intro ?_ ?_; (focus (first | omega | decide | (dsimp only; omega) | (simp at *; omega))))); conv => whnf))
      all_goals first
        | (have q3 : (l.getD (i : Int).toNat default).how = 1 ∨ (l.getD (i : Int).toNat default).how = 2 ∨ (l.getD (i : Int).toNat default).how = 3 := by omega
           rcases q3 with q | q | q
           all_goals rw [q]
           all_goals repeat' (first | refine WA_seq ?_ | refine WA_block ?_ | ((first | refine WA_region ttok ?_ | refine WA_draw ttok mixed ?_ | refine WA_cond ?_ | refine WA_skip ?_ | refine WA_exit ?_ | refine WA_ret ?_); conv => whnf) | (refine And.intro (fun h => ?_) (fun h => ?_) <;> (try simp only [brsA] at h) <;> conv => whnf) | (refine WR_fit ?_ ?_; (focus (first | exact wr_i64 (by omega) | exact wr_u64 (by omega) | exact wr_u8 (by omega) | exact wr_i32 (by omega) | exact wr_u32 (by omega))); conv => whnf) | ((first | refine WR_wrap ?_ | (refine And.intro (a := indepB _ _ = true) ?_ ?_; (focus kernel_rfl)) | refine And.intro rfl ?_ | (refine And.intro ?_ ?_; (focus (first | omega | decide | (dsimp only; omega) | (simp at *; omega))))); conv => whnf)))
        | skip
      all_goals
        refine ⟨i + 1, (by show i + 1 ≤ l.length; omega), (by show l.length - (i + 1) < l.length - i; omega), ?_⟩
        conv => whnf
        repeat (first | exact rfl | exact trivial | exact Or.inl (fun _ _ => rfl) | exact (fun _ => rfl) | exact (fun _ _ => rfl) | exact Or.inl (fun _ hi => absurd hi (Nat.not_lt_zero _)) | ((first | refine And.intro rfl ?_ | refine And.intro (Or.inl (fun _ _ => rfl)) ?_ | refine And.intro (fun _ => rfl) ?_ | refine And.intro (fun _ _ => rfl) ?_ | (refine And.intro ?_ ?_; rotate_left)); conv => whnf))
      all_goals simp only [Int.toNat_natCast] at *
      all_goals (rw [cntH]; first | (rw [if_pos (by assumption)]; rfl) | (rw [if_neg (by omega)]; rfl))
    · have h : ¬ (i : Int) < l.length := of_decide_eq_false h
      have hi' : i = l.length := by omega
      subst hi'
      conv => whnf
      repeat' (first | refine WA_seq ?_ | refine WA_block ?_ | ((first | refine WA_region ttok ?_ | refine WA_draw ttok mixed ?_ | refine WA_cond ?_ | refine WA_skip ?_ | refine WA_exit ?_ | refine WA_ret ?_); conv => whnf) | (refine And.intro (fun h => ?_) (fun h => ?_) <;> (try simp only [brsA] at h) <;> conv => whnf) | (refine WR_fit ?_ ?_; (focus (first | exact wr_i64 (by omega) | exact wr_u64 (by omega) | exact wr_u8 (by omega) | exact wr_i32 (by omega) | exact wr_u32 (by omega))); conv => whnf) | ((first | refine WR_wrap ?_ | (refine And.intro (a := indepB _ _ = true) ?_ ?_; (focus kernel_rfl)) | refine And.intro rfl ?_ | (refine And.intro ?_ ?_; (focus (first | omega | decide | (dsimp only; omega) | (simp at *; omega))))); conv => whnf))
end Go.Proofs.Ytekfaocnlejgaaa

/-
  The changes from roads to others, in order; the law's example.
-/
import Derived.Test.YtekfaocnlejgaaaRoad2
import Derived.Test.YtekfaocnlejgaaaAm5
import Derived.Test.YtekfaocnlejgaaaAm4
import Derived.Test.YtekfaocnlejgaaaTurn1
import Derived.Test.YtekfaocnlejgaaaAm6
set_option linter.unusedSimpArgs false
set_option linter.unusedSectionVars false
namespace Go.Proofs.Ytekfaocnlejgaaa
open Go.Proofs.Ytekfaocnlejgaaa.Am
variable [Inhabited DRT]
variable {G : GInv}
set_option maxRecDepth 100000 in
theorem len64_0 : ACalls Try.prog G 52 [.int .u64 0] (.int .i64 0) := by
  refine ACalls.of_WA ttok Try.func52 rfl rfl _ rfl ?_
  conv => whnf
  repeat' (first | refine WA_seq ?_ | refine WA_block ?_ | ((first | refine WA_region ttok ?_ | refine WA_draw ttok mixed ?_ | refine WA_cond ?_ | refine WA_skip ?_ | refine WA_exit ?_ | refine WA_ret ?_); conv => whnf) | (refine And.intro (fun h => ?_) (fun h => ?_) <;> (try simp only [brsA] at h) <;> conv => whnf) | (refine WR_fit ?_ ?_; (focus (first | exact wr_i64 (by omega) | exact wr_u64 (by omega) | exact wr_u8 (by omega) | exact wr_i32 (by omega) | exact wr_u32 (by omega))); conv => whnf) | ((first | refine WR_wrap ?_ | (refine And.intro (a := indepB _ _ = true) ?_ ?_; (focus kernel_rfl)) | refine And.intro rfl ?_ | (refine And.intro ?_ ?_; (focus (first | omega | decide | (dsimp only; omega) | (simp at *; omega))))); conv => whnf))
  all_goals first | (exfalso; omega) | skip
  all_goals first | decide | rfl
theorem len_0 : ACalls Try.prog G 30 [.int .u64 0] (.int .i64 0) := by
  refine ACalls.of_WA ttok Try.func30 rfl rfl _ rfl ?_
  conv => whnf
  repeat' (first | refine WA_seq ?_ | refine WA_block ?_ | ((first | refine WA_region ttok ?_ | refine WA_draw ttok mixed ?_ | refine WA_cond ?_ | refine WA_skip ?_ | refine WA_exit ?_ | refine WA_ret ?_); conv => whnf) | (refine And.intro (fun h => ?_) (fun h => ?_) <;> (try simp only [brsA] at h) <;> conv => whnf) | (refine Or.inl ?_; (conv => whnf); refine ⟨_, len64_0, ?_⟩; conv => whnf) | (refine Or.inr (Or.inr (Or.inl ?_)); (conv => whnf); refine ⟨_, len64_0, ?_⟩; conv => whnf) | (refine Exists.intro _ (And.intro (len64_0) ?_); conv => whnf) | (refine WR_fit ?_ ?_; (focus (first | exact wr_i64 (by omega) | exact wr_u64 (by omega) | exact wr_u8 (by omega) | exact wr_i32 (by omega) | exact wr_u32 (by omega))); conv => whnf) | ((first | refine WR_wrap ?_ | (refine And.intro (a := indepB _ _ = true) ?_ ?_; (focus kernel_rfl)) | refine And.intro rfl ?_ | (refine And.intro ?_ ?_; (focus (first | omega | decide | (dsimp only; omega) | (simp at *; omega))))); conv => whnf))
  all_goals first | (exfalso; omega) | skip
theorem insCh_0 (row : Nat → List A) : ACalls Try.prog G 43 [.sl 0 2 row, .int .i64 0, .int .i64 0, .fn 19 []] (.tup []) := by
  refine ACalls.of_WA ttok Try.func43 rfl rfl _ rfl ?_
  conv => whnf
  repeat' (first | refine WA_seq ?_ | refine WA_block ?_ | ((first | refine WA_region ttok ?_ | refine WA_draw ttok mixed ?_ | refine WA_cond ?_ | refine WA_skip ?_ | refine WA_exit ?_ | refine WA_ret ?_); conv => whnf) | (refine And.intro (fun h => ?_) (fun h => ?_) <;> (try simp only [brsA] at h) <;> conv => whnf) | (refine WR_fit ?_ ?_; (focus (first | exact wr_i64 (by omega) | exact wr_u64 (by omega) | exact wr_u8 (by omega) | exact wr_i32 (by omega) | exact wr_u32 (by omega))); conv => whnf) | ((first | refine WR_wrap ?_ | (refine And.intro (a := indepB _ _ = true) ?_ ?_; (focus kernel_rfl)) | refine And.intro rfl ?_ | (refine And.intro ?_ ?_; (focus (first | omega | decide | (dsimp only; omega) | (simp at *; omega))))); conv => whnf))
  refine WA_loopI (fun _ : Nat => True) (fun _ => [(8, .int .i64 1)]) (fun _ => []) (fun _ => 0) 0 trivial ?_ ?_
  · conv => whnf
    repeat (first | exact rfl | exact trivial | exact Or.inl (fun _ _ => rfl) | exact (fun _ => rfl) | exact (fun _ _ => rfl) | exact Or.inl (fun _ hi => absurd hi (Nat.not_lt_zero _)) | ((first | refine And.intro rfl ?_ | refine And.intro (Or.inl (fun _ _ => rfl)) ?_ | refine And.intro (fun _ => rfl) ?_ | refine And.intro (fun _ _ => rfl) ?_ | (refine And.intro ?_ ?_; rotate_left)); conv => whnf))
  · intro i _
    conv => whnf
    repeat' (first | refine WA_seq ?_ | refine WA_block ?_ | ((first | refine WA_region ttok ?_ | refine WA_draw ttok mixed ?_ | refine WA_cond ?_ | refine WA_skip ?_ | refine WA_exit ?_ | refine WA_ret ?_); conv => whnf) | (refine And.intro (fun h => ?_) (fun h => ?_) <;> (try simp only [brsA] at h) <;> conv => whnf) | (refine WR_fit ?_ ?_; (focus (first | exact wr_i64 (by omega) | exact wr_u64 (by omega) | exact wr_u8 (by omega) | exact wr_i32 (by omega) | exact wr_u32 (by omega))); conv => whnf) | ((first | refine WR_wrap ?_ | (refine And.intro (a := indepB _ _ = true) ?_ ?_; (focus kernel_rfl)) | refine And.intro rfl ?_ | (refine And.intro ?_ ?_; (focus (first | omega | decide | (dsimp only; omega) | (simp at *; omega))))); conv => whnf))
    all_goals first | trivial | (exfalso; omega)
set_option maxRecDepth 100000 in
theorem pdqCh_0 (row : Nat → List A) : ACalls Try.prog G 29 [.sl 0 2 row, .int .i64 0, .int .i64 0, .int .i64 0, .fn 19 []] (.tup []) := by
  refine ACalls.of_WA ttok Try.func29 rfl rfl _ rfl ?_
  conv => whnf
  repeat (first | refine WA_seq ?_ | refine WA_block ?_ | ((first | refine WA_region ttok ?_ | refine WA_draw ttok mixed ?_ | refine WA_cond ?_ | refine WA_skip ?_ | refine WA_exit ?_ | refine WA_ret ?_); conv => whnf))
  refine WA_loopI (fun _ : Nat => True) (fun _ => [(1, .int .i64 0), (2, .int .i64 0), (3, .int .i64 0)]) (fun _ => []) (fun _ => 0) 0 trivial ?_ ?_
  · conv => whnf
    repeat (first | exact rfl | exact trivial | exact Or.inl (fun _ _ => rfl) | exact (fun _ => rfl) | exact (fun _ _ => rfl) | exact Or.inl (fun _ hi => absurd hi (Nat.not_lt_zero _)) | ((first | refine And.intro rfl ?_ | refine And.intro (Or.inl (fun _ _ => rfl)) ?_ | refine And.intro (fun _ => rfl) ?_ | refine And.intro (fun _ _ => rfl) ?_ | (refine And.intro ?_ ?_; rotate_left)); conv => whnf))
  · intro i _
    have hi := insCh_0 (G := G) row
    conv => whnf
    repeat' (first | refine WA_seq ?_ | refine WA_block ?_ | ((first | refine WA_region ttok ?_ | refine WA_draw ttok mixed ?_ | refine WA_cond ?_ | refine WA_skip ?_ | refine WA_exit ?_ | refine WA_ret ?_); conv => whnf) | (refine And.intro (fun h => ?_) (fun h => ?_) <;> (try simp only [brsA] at h) <;> conv => whnf) | (refine Or.inl ?_; (conv => whnf); refine ⟨_, hi, ?_⟩; conv => whnf) | (refine Or.inr (Or.inr (Or.inl ?_)); (conv => whnf); refine ⟨_, hi, ?_⟩; conv => whnf) | (refine Exists.intro _ (And.intro (hi) ?_); conv => whnf) | (refine WR_fit ?_ ?_; (focus (first | exact wr_i64 (by omega) | exact wr_u64 (by omega) | exact wr_u8 (by omega) | exact wr_i32 (by omega) | exact wr_u32 (by omega))); conv => whnf) | ((first | refine WR_wrap ?_ | (refine And.intro (a := indepB _ _ = true) ?_ ?_; (focus kernel_rfl)) | refine And.intro rfl ?_ | (refine And.intro ?_ ?_; (focus (first | omega | decide | (dsimp only; omega) | (simp at *; omega))))); conv => whnf))
    all_goals first | trivial | (exact absurd trivial h) | (exact absurd h (by decide)) | trace_state
set_option maxRecDepth 100000 in
theorem sortCh_0 (row : Nat → List A) : ACalls Try.prog G 18 [.sl 0 2 row, .fn 19 []] (.tup []) := by
  refine ACalls.of_WA ttok Try.func18 rfl rfl _ rfl ?_
  have hi := pdqCh_0 (G := G) row
  conv => whnf
  repeat' (first | refine WA_seq ?_ | refine WA_block ?_ | ((first | refine WA_region ttok ?_ | refine WA_draw ttok mixed ?_ | refine WA_cond ?_ | refine WA_skip ?_ | refine WA_exit ?_ | refine WA_ret ?_); conv => whnf) | (refine And.intro (fun h => ?_) (fun h => ?_) <;> (try simp only [brsA] at h) <;> conv => whnf) | (refine Or.inl ?_; (conv => whnf); refine ⟨_, len_0, ?_⟩; conv => whnf) | (refine Or.inr (Or.inr (Or.inl ?_)); (conv => whnf); refine ⟨_, len_0, ?_⟩; conv => whnf) | (refine Exists.intro _ (And.intro (len_0) ?_); conv => whnf) | (refine Or.inl ?_; (conv => whnf); refine ⟨_, hi, ?_⟩; conv => whnf) | (refine Or.inr (Or.inr (Or.inl ?_)); (conv => whnf); refine ⟨_, hi, ?_⟩; conv => whnf) | (refine Exists.intro _ (And.intro (hi) ?_); conv => whnf) | (refine WR_fit ?_ ?_; (focus (first | exact wr_i64 (by omega) | exact wr_u64 (by omega) | exact wr_u8 (by omega) | exact wr_i32 (by omega) | exact wr_u32 (by omega))); conv => whnf) | ((first | refine WR_wrap ?_ | (refine And.intro (a := indepB _ _ = true) ?_ ?_; (focus kernel_rfl)) | refine And.intro rfl ?_ | (refine And.intro ?_ ?_; (focus (first | omega | decide | (dsimp only; omega) | (simp at *; omega))))); conv => whnf))
  all_goals trivial

end Go.Proofs.Ytekfaocnlejgaaa
set_option linter.unusedSimpArgs false
set_option linter.unusedSectionVars false
set_option linter.unusedVariables false
namespace Go.Proofs.Ytekfaocnlejgaaa
open Go.Proofs.Ytekfaocnlejgaaa.Am Go.Sort Go.Proofs
variable [Inhabited DRT]
variable {G : GInv}
/-! ### Changes in order -/
def eCh (c : Ch) : List Int := [c.id, c.how]
def cfC (a b : Ch) : Int := cmpI a.id b.id
theorem cloC_c (a b : Ch) : ACalls Try.prog G 19 [.agg (chA a), .agg (chA b)] (.int .i64 (cfC a b)) := by
  refine ACalls.of_WA ttok Try.func19 rfl rfl _ rfl ?_
  conv => whnf
  repeat' (first | refine WA_seq ?_ | refine WA_block ?_ | ((first | refine WA_region ttok ?_ | refine WA_draw ttok mixed ?_ | refine WA_cond ?_ | refine WA_skip ?_ | refine WA_exit ?_ | refine WA_ret ?_); conv => whnf) | (refine And.intro (fun h => ?_) (fun h => ?_) <;> (try simp only [brsA] at h) <;> conv => whnf) | (refine Or.inl ?_; (conv => whnf); refine ⟨_, compare_c _ _, ?_⟩; conv => whnf) | (refine Or.inr (Or.inr (Or.inl ?_)); (conv => whnf); refine ⟨_, compare_c _ _, ?_⟩; conv => whnf) | (refine Exists.intro _ (And.intro (compare_c _ _) ?_); conv => whnf) | (refine WR_fit ?_ ?_; (focus (first | exact wr_i64 (by omega) | exact wr_u64 (by omega) | exact wr_u8 (by omega) | exact wr_i32 (by omega) | exact wr_u32 (by omega))); conv => whnf) | ((first | refine WR_wrap ?_ | (refine And.intro (a := indepB _ _ = true) ?_ ?_; (focus kernel_rfl)) | refine And.intro rfl ?_ | (refine And.intro ?_ ?_; (focus (first | omega | decide | (dsimp only; omega) | (simp at *; omega))))); conv => whnf))
  rfl
theorem ltC (a b : Ch) : ltOf cfC a b = true ↔ a.id < b.id := by
  unfold ltOf cfC cmpI
  rw [decide_eq_true_iff]
  split <;> (try split) <;> omega
theorem swo_ch : SWO (ltOf cfC) := by
  have e' : ∀ a b, ltOf cfC a b = false ↔ ¬ a.id < b.id := fun a b => by rw [← ltC]; simp
  refine ⟨fun x => ?_, fun x y z h1 h2 => ?_, fun x y z h1 h2 => ?_⟩
  · rw [e']; omega
  · rw [ltC] at *; omega
  · rw [e'] at *; omega
theorem sortC_c (hns : ¬ (default : DRT).ns) (l : List Ch) (hl : l.length ≤ 1000000) (h0 : 0 < l.length) :
    MCalls Try.prog G 18 [.own 1, .fn 19 []] [.ghost [.own 1, .junk, .junk], .row 38 2 l.length (rowE eCh l)] (.tup []) [.ghost [.own 1, .junk, .junk], .row 38 2 l.length (rowE eCh (srt cfC l))] :=
  MCalls.sortFunc hns (ρ := Try.laySortCh_ren) Try.laySortCh 2 (by omega) (fun w => by kernel_rfl) (fun w => by kernel_rfl) eCh (fun _ => rfl) cfC swo_ch 19 [] rfl
    (fun x y => cloC_c (G := G) x y) ⟨_, _, Try.func18, rfl, rfl⟩ 38 l hl h0
/-! ### The changes from roads to others -/
def chg1 (b : List Rd) (x : Rd) : List Ch := if isL b x.id = true then (if x = b.getD (bsL b x.id) default then [] else [⟨x.id, 3⟩]) else [⟨x.id, 2⟩]
def chg2 (a : List Rd) (x : Rd) : List Ch := if isL a x.id = true then [] else [⟨x.id, 1⟩]
def ofA (a b : List Rd) : Nat → List Ch
  | 0 => []
  | k + 1 => ofA a b k ++ chg1 b (a.getD k default)
def ofB (a b : List Rd) : Nat → List Ch
  | 0 => ofA a b a.length
  | k + 1 => ofB a b k ++ chg2 a (b.getD k default)
def ofL (a b : List Rd) : List Ch := srt cfC (ofB a b b.length)
theorem chg1_len (b : List Rd) (x : Rd) : (chg1 b x).length ≤ 1 := by unfold chg1; split <;> (try split) <;> simp
theorem chg2_len (a : List Rd) (x : Rd) : (chg2 a x).length ≤ 1 := by unfold chg2; split <;> simp
theorem ofA_len (a b : List Rd) : ∀ k, (ofA a b k).length ≤ k
  | 0 => Nat.le_refl _
  | k + 1 => by have := ofA_len a b k; have := chg1_len b (a.getD k default); rw [ofA, List.length_append]; omega
theorem ofB_len (a b : List Rd) : ∀ k, (ofB a b k).length ≤ a.length + k
  | 0 => ofA_len a b _
  | k + 1 => by have := ofB_len a b k; have := chg2_len a (b.getD k default); rw [ofB, List.length_append]; omega
theorem rowCat_ch (L : List Ch) (x : Ch) (r : Nat → List A) (hr : r 0 = chA x) (i : Nat) (hi : i < L.length + 1) : rowCat L.length (rowE eCh L) r i = rowE eCh (L ++ [x]) i := by
  by_cases h : i < L.length
  · rw [rowCat_lt h]
    simp only [rowE, List.getD_eq_getElem?_getD, List.getElem?_append_left h]
  · rw [rowCat_ge h]
    have : i = L.length := by omega
    subst this
    simp [hr, rowE, List.getD_eq_getElem?_getD, chA, eCh]
theorem of_bad (a b : List Rd) (ha : Lt a) (hb : Lt b) (h : allR a ≠ 0 ∨ allR b ≠ 0) : ACalls Try.prog G 7 [rdsA a, rdsA b] (.tup [chsA [], .int .i64 1]) := by
  have h1 := all_c (G := G) a ha
  have h2 := all_c (G := G) b hb
  generalize allR a = x at *
  generalize allR b = y at *
  refine ACalls.of_WA ttok Try.func7 rfl rfl _ rfl ?_
  conv => whnf
  repeat' (first | refine WA_seq ?_ | refine WA_block ?_ | ((first | refine WA_region ttok ?_ | refine WA_draw ttok mixed ?_ | refine WA_cond ?_ | refine WA_skip ?_ | refine WA_exit ?_ | refine WA_ret ?_); conv => whnf) | (refine And.intro (fun h => ?_) (fun h => ?_) <;> (try simp only [brsA] at h) <;> conv => whnf) | (refine Or.inl ?_; (conv => whnf); refine ⟨_, h1, ?_⟩; conv => whnf) | (refine Or.inr (Or.inr (Or.inl ?_)); (conv => whnf); refine ⟨_, h1, ?_⟩; conv => whnf) | (refine Exists.intro _ (And.intro (h1) ?_); conv => whnf) | (refine Or.inl ?_; (conv => whnf); refine ⟨_, h2, ?_⟩; conv => whnf) | (refine Or.inr (Or.inr (Or.inl ?_)); (conv => whnf); refine ⟨_, h2, ?_⟩; conv => whnf) | (refine Exists.intro _ (And.intro (h2) ?_); conv => whnf) | (refine WR_fit ?_ ?_; (focus (first | exact wr_i64 (by omega) | exact wr_u64 (by omega) | exact wr_u8 (by omega) | exact wr_i32 (by omega) | exact wr_u32 (by omega))); conv => whnf) | ((first | refine WR_wrap ?_ | (refine And.intro (a := indepB _ _ = true) ?_ ?_; (focus kernel_rfl)) | refine And.intro rfl ?_ | (refine And.intro ?_ ?_; (focus (first | omega | decide | (dsimp only; omega) | (simp at *; omega))))); conv => whnf))
  all_goals first | (exfalso; omega) | skip
set_option maxRecDepth 100000 in
set_option maxHeartbeats 2000000 in
theorem of_ok (hns : ¬ (default : DRT).ns) (a b : List Rd) (ha : Lt a) (hb : Lt b) (h : allR a = 0 ∧ allR b = 0) : ACalls Try.prog G 7 [rdsA a, rdsA b] (.tup [chsA (ofL a b), .int .i64 0]) := by
  have h1 := all_c (G := G) a ha
  have h2 := all_c (G := G) b hb
  rw [h.1] at h1
  rw [h.2] at h2
  have hla := ha.1
  have hlb := hb.1
  refine ACalls.of_WA ttok Try.func7 rfl rfl _ rfl ?_
  conv => whnf
  repeat' (first | (contradiction) | refine WA_seq ?_ | refine WA_block ?_ | ((first | refine WA_region ttok ?_ | refine WA_draw ttok mixed ?_ | refine WA_cond ?_ | refine WA_skip ?_ | refine WA_exit ?_ | refine WA_ret ?_); conv => whnf) | (refine And.intro (fun h => ?_) (fun h => ?_) <;> (try simp only [brsA] at h) <;> conv => whnf) | (refine Or.inl ?_; (conv => whnf); refine ⟨_, h1, ?_⟩; conv => whnf) | (refine Or.inr (Or.inr (Or.inl ?_)); (conv => whnf); refine ⟨_, h1, ?_⟩; conv => whnf) | (refine Exists.intro _ (And.intro (h1) ?_); conv => whnf) | (refine Or.inl ?_; (conv => whnf); refine ⟨_, h2, ?_⟩; conv => whnf) | (refine Or.inr (Or.inr (Or.inl ?_)); (conv => whnf); refine ⟨_, h2, ?_⟩; conv => whnf) | (refine Exists.intro _ (And.intro (h2) ?_); conv => whnf) | (refine WR_fit ?_ ?_; (focus (first | exact wr_i64 (by omega) | exact wr_u64 (by omega) | exact wr_u8 (by omega) | exact wr_i32 (by omega) | exact wr_u32 (by omega))); conv => whnf) | ((first | refine WR_wrap ?_ | (refine And.intro (a := indepB _ _ = true) ?_ ?_; (focus kernel_rfl)) | refine And.intro rfl ?_ | (refine And.intro ?_ ?_; (focus (first | omega | decide | (dsimp only; omega) | (simp at *; omega))))); conv => whnf))
  refine WA_nil 6 38 2 rfl ?_
  conv => whnf
  have l0 : ofA a b 0 = [] := rfl
  have lB : ofB a b 0 = ofA a b a.length := rfl
  have eA : ∀ k, ofA a b (k + 1) = ofA a b k ++ chg1 b (a.getD k default) := fun _ => rfl
  have eB : ∀ k, ofB a b (k + 1) = ofB a b k ++ chg2 a (b.getD k default) := fun _ => rfl
  have hA := ofA_len a b
  have hB := ofB_len a b
  unfold ofL
  generalize ofB a b = OB at *
  generalize ofA a b = O at *
  refine WA_loopI (fun x : Nat × List Ch => x.1 ≤ a.length ∧ O x.1 = x.2) (fun x => match x with | (k, o) => [(25, .int .i64 (k : Int)), (6, .own 0)]) (fun x => match x with | (k, o) => [.row 38 2 o.length (rowE eCh o)]) (fun x => a.length - x.1) (0, []) ⟨by simp, l0⟩ ?_ ?_
  · conv => whnf
    repeat (first | exact rfl | exact trivial | exact Or.inl (fun _ _ => rfl) | exact (fun _ => rfl) | exact (fun _ _ => rfl) | exact Or.inl (fun _ hi => absurd hi (Nat.not_lt_zero _)) | ((first | refine And.intro rfl ?_ | refine And.intro (Or.inl (fun _ _ => rfl)) ?_ | refine And.intro (fun _ => rfl) ?_ | refine And.intro (fun _ _ => rfl) ?_ | (refine And.intro ?_ ?_; rotate_left)); conv => whnf))
  · rintro ⟨k, o⟩ ⟨hk, ho⟩
    have hk : k ≤ a.length := hk
    have ho : O k = o := ho
    have hlk := hA k
    rw [ho] at hlk
    have eK := eA k
    rw [ho] at eK
    have ht := at_c (G := G) b (a.getD k default).id (by omega)
    conv => whnf
    repeat (first | refine WA_seq ?_ | refine WA_block ?_ | ((first | refine WA_region ttok ?_ | refine WA_draw ttok mixed ?_ | refine WA_cond ?_ | refine WA_skip ?_ | refine WA_exit ?_ | refine WA_ret ?_); conv => whnf))
    refine ⟨fun h => ?_, fun h => ?_⟩
    · have h : (k : Int) < a.length := of_decide_eq_true h
      have hs := dsame_c (G := G) (a.getD k default) (b.getD (bsL b (a.getD k default).id) default) (ha.2 k (by omega))
      cases hi : isL b (a.getD k default).id
      · rw [hi] at ht
        rw [chg1, if_neg (by rw [hi]; exact Bool.noConfusion)] at eK
        conv => whnf
        repeat' (first | (contradiction) | refine WA_seq ?_ | refine WA_block ?_ | ((first | refine WA_region ttok ?_ | refine WA_draw ttok mixed ?_ | refine WA_cond ?_ | refine WA_skip ?_ | refine WA_exit ?_ | refine WA_ret ?_); conv => whnf) | (refine And.intro (fun h => ?_) (fun h => ?_) <;> (try simp only [brsA] at h) <;> conv => whnf) | (refine Or.inl ?_; (conv => whnf); refine ⟨_, ht, ?_⟩; conv => whnf) | (refine Or.inr (Or.inr (Or.inl ?_)); (conv => whnf); refine ⟨_, ht, ?_⟩; conv => whnf) | (refine Exists.intro _ (And.intro (ht) ?_); conv => whnf) | (refine WR_fit ?_ ?_; (focus (first | exact wr_i64 (by omega) | exact wr_u64 (by omega) | exact wr_u8 (by omega) | exact wr_i32 (by omega) | exact wr_u32 (by omega))); conv => whnf) | ((first | refine WR_wrap ?_ | (refine And.intro (a := indepB _ _ = true) ?_ ?_; (focus kernel_rfl)) | refine And.intro rfl ?_ | (refine And.intro ?_ ?_; (focus (first | omega | decide | (dsimp only; omega) | (simp at *; omega))))); conv => whnf))
        refine ⟨(k + 1, o ++ [⟨(a.getD k default).id, 2⟩]), ⟨by show k + 1 ≤ a.length; omega, eK⟩, (by show a.length - (k + 1) < a.length - k; omega), ?_⟩
        conv => whnf
        repeat (first | exact rfl | exact trivial | exact Or.inl (fun _ _ => rfl) | exact (fun _ => rfl) | exact (fun _ _ => rfl) | exact Or.inl (fun _ hi => absurd hi (Nat.not_lt_zero _)) | ((first | refine And.intro rfl ?_ | refine And.intro (Or.inl (fun _ _ => rfl)) ?_ | refine And.intro (fun _ => rfl) ?_ | refine And.intro (fun _ _ => rfl) ?_ | (refine And.intro ?_ ?_; rotate_left)); conv => whnf))
        all_goals first | exact Or.inl fun j hj => rowCat_ch _ _ _ rfl j hj | (simp only [List.length_append, List.length_singleton])
      · rw [hi] at ht
        have hlt := isL_lt hi
        rw [chg1, if_pos hi] at eK
        conv => whnf
        repeat' (first | (contradiction) | refine WA_seq ?_ | refine WA_block ?_ | ((first | refine WA_region ttok ?_ | refine WA_draw ttok mixed ?_ | refine WA_cond ?_ | refine WA_skip ?_ | refine WA_exit ?_ | refine WA_ret ?_); conv => whnf) | (refine And.intro (fun h => ?_) (fun h => ?_) <;> (try simp only [brsA] at h) <;> conv => whnf) | (refine Or.inl ?_; (conv => whnf); refine ⟨_, ht, ?_⟩; conv => whnf) | (refine Or.inr (Or.inr (Or.inl ?_)); (conv => whnf); refine ⟨_, ht, ?_⟩; conv => whnf) | (refine Exists.intro _ (And.intro (ht) ?_); conv => whnf) | (refine Or.inl ?_; (conv => whnf); refine ⟨_, hs, ?_⟩; conv => whnf) | (refine Or.inr (Or.inr (Or.inl ?_)); (conv => whnf); refine ⟨_, hs, ?_⟩; conv => whnf) | (refine Exists.intro _ (And.intro (hs) ?_); conv => whnf) | (refine WR_fit ?_ ?_; (focus (first | exact wr_i64 (by omega) | exact wr_u64 (by omega) | exact wr_u8 (by omega) | exact wr_i32 (by omega) | exact wr_u32 (by omega))); conv => whnf) | ((first | refine WR_wrap ?_ | (refine And.intro (a := indepB _ _ = true) ?_ ?_; (focus kernel_rfl)) | refine And.intro rfl ?_ | (refine And.intro ?_ ?_; (focus (first | omega | decide | (dsimp only; omega) | (simp at *; omega))))); conv => whnf))
        · rw [if_neg (by assumption)] at eK
          refine ⟨(k + 1, o ++ [⟨(a.getD k default).id, 3⟩]), ⟨by show k + 1 ≤ a.length; omega, eK⟩, (by show a.length - (k + 1) < a.length - k; omega), ?_⟩
          conv => whnf
          repeat (first | exact rfl | exact trivial | exact Or.inl (fun _ _ => rfl) | exact (fun _ => rfl) | exact (fun _ _ => rfl) | exact Or.inl (fun _ hi => absurd hi (Nat.not_lt_zero _)) | ((first | refine And.intro rfl ?_ | refine And.intro (Or.inl (fun _ _ => rfl)) ?_ | refine And.intro (fun _ => rfl) ?_ | refine And.intro (fun _ _ => rfl) ?_ | (refine And.intro ?_ ?_; rotate_left)); conv => whnf))
          all_goals first | exact Or.inl fun j hj => rowCat_ch _ _ _ rfl j hj | (simp only [List.length_append, List.length_singleton])
        · rw [if_pos (by assumption), List.append_nil] at eK
          refine ⟨(k + 1, o), ⟨by show k + 1 ≤ a.length; omega, eK⟩, (by show a.length - (k + 1) < a.length - k; omega), ?_⟩
          conv => whnf
          repeat (first | exact rfl | exact trivial | exact Or.inl (fun _ _ => rfl) | exact (fun _ => rfl) | exact (fun _ _ => rfl) | exact Or.inl (fun _ hi => absurd hi (Nat.not_lt_zero _)) | ((first | refine And.intro rfl ?_ | refine And.intro (Or.inl (fun _ _ => rfl)) ?_ | refine And.intro (fun _ => rfl) ?_ | refine And.intro (fun _ _ => rfl) ?_ | (refine And.intro ?_ ?_; rotate_left)); conv => whnf))
    · have h : ¬ (k : Int) < a.length := of_decide_eq_false h
      have hi' : k = a.length := by omega
      subst hi'
      conv => whnf
      repeat' (first | refine WA_seq ?_ | refine WA_block ?_ | ((first | refine WA_region ttok ?_ | refine WA_draw ttok mixed ?_ | refine WA_cond ?_ | refine WA_skip ?_ | refine WA_exit ?_ | refine WA_ret ?_); conv => whnf) | (refine And.intro (fun h => ?_) (fun h => ?_) <;> (try simp only [brsA] at h) <;> conv => whnf) | (refine WR_fit ?_ ?_; (focus (first | exact wr_i64 (by omega) | exact wr_u64 (by omega) | exact wr_u8 (by omega) | exact wr_i32 (by omega) | exact wr_u32 (by omega))); conv => whnf) | ((first | refine WR_wrap ?_ | (refine And.intro (a := indepB _ _ = true) ?_ ?_; (focus kernel_rfl)) | refine And.intro rfl ?_ | (refine And.intro ?_ ?_; (focus (first | omega | decide | (dsimp only; omega) | (simp at *; omega))))); conv => whnf))
      refine WA_loopI (fun x : Nat × List Ch => x.1 ≤ b.length ∧ OB x.1 = x.2) (fun x => match x with | (k, o) => [(62, .int .i64 (k : Int)), (6, .own 0)]) (fun x => match x with | (k, o) => [.row 38 2 o.length (rowE eCh o)]) (fun x => b.length - x.1) (0, o) ⟨by simp, by rw [← ho]; exact lB⟩ ?_ ?_
      · conv => whnf
        repeat (first | exact rfl | exact trivial | exact Or.inl (fun _ _ => rfl) | exact (fun _ => rfl) | exact (fun _ _ => rfl) | exact Or.inl (fun _ hi => absurd hi (Nat.not_lt_zero _)) | ((first | refine And.intro rfl ?_ | refine And.intro (Or.inl (fun _ _ => rfl)) ?_ | refine And.intro (fun _ => rfl) ?_ | refine And.intro (fun _ _ => rfl) ?_ | (refine And.intro ?_ ?_; rotate_left)); conv => whnf))
      · rintro ⟨k, p⟩ ⟨hk, hp⟩
        have hk : k ≤ b.length := hk
        have hp : OB k = p := hp
        have hlk := hB k
        rw [hp] at hlk
        have eK := eB k
        rw [hp] at eK
        have ht := at_c (G := G) a (b.getD k default).id (by omega)
        conv => whnf
        repeat (first | refine WA_seq ?_ | refine WA_block ?_ | ((first | refine WA_region ttok ?_ | refine WA_draw ttok mixed ?_ | refine WA_cond ?_ | refine WA_skip ?_ | refine WA_exit ?_ | refine WA_ret ?_); conv => whnf))
        refine ⟨fun h => ?_, fun h => ?_⟩
        · have h : (k : Int) < b.length := of_decide_eq_true h
          cases hi : isL a (b.getD k default).id
          · rw [hi] at ht
            rw [chg2, if_neg (by rw [hi]; exact Bool.noConfusion)] at eK
            conv => whnf
            repeat' (first | (contradiction) | refine WA_seq ?_ | refine WA_block ?_ | ((first | refine WA_region ttok ?_ | refine WA_draw ttok mixed ?_ | refine WA_cond ?_ | refine WA_skip ?_ | refine WA_exit ?_ | refine WA_ret ?_); conv => whnf) | (refine And.intro (fun h => ?_) (fun h => ?_) <;> (try simp only [brsA] at h) <;> conv => whnf) | (refine Or.inl ?_; (conv => whnf); refine ⟨_, ht, ?_⟩; conv => whnf) | (refine Or.inr (Or.inr (Or.inl ?_)); (conv => whnf); refine ⟨_, ht, ?_⟩; conv => whnf) | (refine Exists.intro _ (And.intro (ht) ?_); conv => whnf) | (refine WR_fit ?_ ?_; (focus (first | exact wr_i64 (by omega) | exact wr_u64 (by omega) | exact wr_u8 (by omega) | exact wr_i32 (by omega) | exact wr_u32 (by omega))); conv => whnf) | ((first | refine WR_wrap ?_ | (refine And.intro (a := indepB _ _ = true) ?_ ?_; (focus kernel_rfl)) | refine And.intro rfl ?_ | (refine And.intro ?_ ?_; (focus (first | omega | decide | (dsimp only; omega) | (simp at *; omega))))); conv => whnf))
            refine ⟨(k + 1, p ++ [⟨(b.getD k default).id, 1⟩]), ⟨by show k + 1 ≤ b.length; omega, eK⟩, (by show b.length - (k + 1) < b.length - k; omega), ?_⟩
            conv => whnf
            repeat (first | exact rfl | exact trivial | exact Or.inl (fun _ _ => rfl) | exact (fun _ => rfl) | exact (fun _ _ => rfl) | exact Or.inl (fun _ hi => absurd hi (Nat.not_lt_zero _)) | ((first | refine And.intro rfl ?_ | refine And.intro (Or.inl (fun _ _ => rfl)) ?_ | refine And.intro (fun _ => rfl) ?_ | refine And.intro (fun _ _ => rfl) ?_ | (refine And.intro ?_ ?_; rotate_left)); conv => whnf))
            all_goals first | exact Or.inl fun j hj => rowCat_ch _ _ _ rfl j hj | (simp only [List.length_append, List.length_singleton])
          · rw [hi] at ht
            rw [chg2, if_pos hi, List.append_nil] at eK
            conv => whnf
            repeat' (first | (contradiction) | refine WA_seq ?_ | refine WA_block ?_ | ((first | refine WA_region ttok ?_ | refine WA_draw ttok mixed ?_ | refine WA_cond ?_ | refine WA_skip ?_ | refine WA_exit ?_ | refine WA_ret ?_); conv => whnf) | (refine And.intro (fun h => ?_) (fun h => ?_) <;> (try simp only [brsA] at h) <;> conv => whnf) | (refine Or.inl ?_; (conv => whnf); refine ⟨_, ht, ?_⟩; conv => whnf) | (refine Or.inr (Or.inr (Or.inl ?_)); (conv => whnf); refine ⟨_, ht, ?_⟩; conv => whnf) | (refine Exists.intro _ (And.intro (ht) ?_); conv => whnf) | (refine WR_fit ?_ ?_; (focus (first | exact wr_i64 (by omega) | exact wr_u64 (by omega) | exact wr_u8 (by omega) | exact wr_i32 (by omega) | exact wr_u32 (by omega))); conv => whnf) | ((first | refine WR_wrap ?_ | (refine And.intro (a := indepB _ _ = true) ?_ ?_; (focus kernel_rfl)) | refine And.intro rfl ?_ | (refine And.intro ?_ ?_; (focus (first | omega | decide | (dsimp only; omega) | (simp at *; omega))))); conv => whnf))
            refine ⟨(k + 1, p), ⟨by show k + 1 ≤ b.length; omega, eK⟩, (by show b.length - (k + 1) < b.length - k; omega), ?_⟩
            conv => whnf
            repeat (first | exact rfl | exact trivial | exact Or.inl (fun _ _ => rfl) | exact (fun _ => rfl) | exact (fun _ _ => rfl) | exact Or.inl (fun _ hi => absurd hi (Nat.not_lt_zero _)) | ((first | refine And.intro rfl ?_ | refine And.intro (Or.inl (fun _ _ => rfl)) ?_ | refine And.intro (fun _ => rfl) ?_ | refine And.intro (fun _ _ => rfl) ?_ | (refine And.intro ?_ ?_; rotate_left)); conv => whnf))
        · have h : ¬ (k : Int) < b.length := of_decide_eq_false h
          have hi' : k = b.length := by omega
          subst hi'
          rw [hp]
          have hsl := srt_len cfC swo_ch p
          by_cases h0 : p.length = 0
          · have hpn := List.length_eq_zero_iff.1 h0
            subst hpn
            have hs := sortCh_0 (G := G) (rowE eCh [])
            conv => whnf
            repeat' (first | refine WA_seq ?_ | refine WA_block ?_ | ((first | refine WA_region ttok ?_ | refine WA_draw ttok mixed ?_ | refine WA_cond ?_ | refine WA_skip ?_ | refine WA_exit ?_ | refine WA_ret ?_); conv => whnf) | (refine And.intro (fun h => ?_) (fun h => ?_) <;> (try simp only [brsA] at h) <;> conv => whnf) | (refine Or.inl ?_; (conv => whnf); refine ⟨_, hs, ?_⟩; conv => whnf) | (refine Exists.intro _ (And.intro (hs) ?_); conv => whnf) | (refine WR_fit ?_ ?_; (focus (first | exact wr_i64 (by omega) | exact wr_u64 (by omega) | exact wr_u8 (by omega) | exact wr_i32 (by omega) | exact wr_u32 (by omega))); conv => whnf) | ((first | refine WR_wrap ?_ | (refine And.intro (a := indepB _ _ = true) ?_ ?_; (focus kernel_rfl)) | refine And.intro rfl ?_ | (refine And.intro ?_ ?_; (focus (first | omega | decide | (dsimp only; omega) | (simp at *; omega))))); conv => whnf))
            refine ⟨Or.inl fun i hi => absurd hi (Nat.not_lt_zero _), ?_⟩
            conv => whnf
          · have hs := sortC_c (G := G) hns p (by omega) (by omega)
            conv => whnf
            repeat' (first | refine WA_seq ?_ | refine WA_block ?_ | ((first | refine WA_region ttok ?_ | refine WA_draw ttok mixed ?_ | refine WA_cond ?_ | refine WA_skip ?_ | refine WA_exit ?_ | refine WA_ret ?_); conv => whnf) | (refine And.intro (fun h => ?_) (fun h => ?_) <;> (try simp only [brsA] at h) <;> conv => whnf) | (refine Or.inr (Or.inl ?_); (conv => whnf); refine ⟨_, _, hs, ?_⟩; conv => whnf) | (refine Exists.intro _ (And.intro (hs) ?_); conv => whnf) | (refine WR_fit ?_ ?_; (focus (first | exact wr_i64 (by omega) | exact wr_u64 (by omega) | exact wr_u8 (by omega) | exact wr_i32 (by omega) | exact wr_u32 (by omega))); conv => whnf) | ((first | refine WR_wrap ?_ | (refine And.intro (a := indepB _ _ = true) ?_ ?_; (focus kernel_rfl)) | refine And.intro rfl ?_ | (refine And.intro ?_ ?_; (focus (first | omega | decide | (dsimp only; omega) | (simp at *; omega))))); conv => whnf))
            refine ⟨Or.inl fun i hi => rfl, ?_⟩
            conv => whnf
end Go.Proofs.Ytekfaocnlejgaaa
set_option linter.unusedSimpArgs false
set_option linter.unusedSectionVars false
set_option linter.unusedVariables false
namespace Go.Proofs.Ytekfaocnlejgaaa
open Go.Proofs.Ytekfaocnlejgaaa.Am Go.Sort Go.Proofs
variable [Inhabited DRT]
variable {G : GInv}
/-! ### Which roads are light; the example -/
def ptN (l : List Rd) : Nat → Nat
  | 0 => 0
  | k + 1 => ptN l k + (l.getD k default).pts.length
def LightR (l : List Rd) : Prop := l.length ≤ 210 ∧ (∀ i, i < l.length → LtR (l.getD i default)) ∧ ptN l l.length ≤ 900
instance (r : Rd) : Decidable (LtR r) := inferInstanceAs (Decidable (_ ∧ _))
instance (l : List Rd) : Decidable (LightR l) := inferInstanceAs (Decidable (_ ∧ (∀ i, i < l.length → LtR (l.getD i default)) ∧ _))
theorem ptN_le {l : List Rd} : ∀ k, (∀ i, i < k → LtR (l.getD i default)) → ptN l k ≤ 110 * k
  | 0, _ => Nat.le_refl _
  | k + 1, h => by
    have := ptN_le k (fun i hi => h i (by omega))
    have := (h k (by omega)).1
    rw [ptN]; omega
set_option maxRecDepth 100000 in
set_option maxHeartbeats 1000000 in
theorem light_c (l : List Rd) : ACalls Try.prog G 5 [rdsA l] (.sb (decide (LightR l))) := by
  refine ACalls.of_WA ttok Try.func5 rfl rfl _ rfl ?_
  conv => whnf
  repeat' (first | refine WA_seq ?_ | refine WA_block ?_ | ((first | refine WA_region ttok ?_ | refine WA_draw ttok mixed ?_ | refine WA_cond ?_ | refine WA_skip ?_ | refine WA_exit ?_ | refine WA_ret ?_); conv => whnf) | (refine And.intro (fun h => ?_) (fun h => ?_) <;> (try simp only [brsA] at h) <;> conv => whnf) | (refine WR_fit ?_ ?_; (focus (first | exact wr_i64 (by omega) | exact wr_u64 (by omega) | exact wr_u8 (by omega) | exact wr_i32 (by omega) | exact wr_u32 (by omega))); conv => whnf) | ((first | refine WR_wrap ?_ | (refine And.intro (a := indepB _ _ = true) ?_ ?_; (focus kernel_rfl)) | refine And.intro rfl ?_ | (refine And.intro ?_ ?_; (focus (first | omega | decide | (dsimp only; omega) | (simp at *; omega))))); conv => whnf))
  refine WA_loopI (fun i : Nat => i ≤ l.length ∧ i ≤ 211 ∧ ∀ k, k < i → LtR (l.getD k default)) (fun i => [(4, .int .i64 (i : Int)), (3, .int .i64 (ptN l i : Nat))]) (fun _ => []) (fun i => l.length - i) 0 ⟨by omega, by omega, fun k hk => by omega⟩ ?_ ?_
  · conv => whnf
    repeat (first | exact rfl | exact trivial | exact Or.inl (fun _ _ => rfl) | exact (fun _ => rfl) | exact (fun _ _ => rfl) | exact Or.inl (fun _ hi => absurd hi (Nat.not_lt_zero _)) | ((first | refine And.intro rfl ?_ | refine And.intro (Or.inl (fun _ _ => rfl)) ?_ | refine And.intro (fun _ => rfl) ?_ | refine And.intro (fun _ _ => rfl) ?_ | (refine And.intro ?_ ?_; rotate_left)); conv => whnf))
  · rintro i ⟨hi, hi2, he⟩
    have hb := ptN_le i he
    conv => whnf
    repeat' (first | refine WA_seq ?_ | refine WA_block ?_ | ((first | refine WA_region ttok ?_ | refine WA_draw ttok mixed ?_ | refine WA_cond ?_ | refine WA_skip ?_ | refine WA_exit ?_ | refine WA_ret ?_); conv => whnf) | (refine And.intro (fun h => ?_) (fun h => ?_) <;> (try simp only [brsA] at h) <;> conv => whnf) | (refine WR_fit ?_ ?_; (focus (first | exact wr_i64 (by omega) | exact wr_u64 (by omega) | exact wr_u8 (by omega) | exact wr_i32 (by omega) | exact wr_u32 (by omega))); conv => whnf) | ((first | refine WR_wrap ?_ | (refine And.intro (a := indepB _ _ = true) ?_ ?_; (focus kernel_rfl)) | refine And.intro rfl ?_ | (refine And.intro ?_ ?_; (focus (first | omega | decide | (dsimp only; omega) | (simp at *; omega))))); conv => whnf))
    all_goals (try simp only [brsD] at *)
    · exact (decide_eq_false fun hL => by have := (hL.2.1 i (by omega)).2; omega).symm
    · refine ⟨i + 1, ⟨by omega, by omega, fun k hk => ?_⟩, (by show l.length - (i + 1) < l.length - i; omega), ?_⟩
      · rcases Nat.lt_or_ge k i with q | q
        · exact he k q
        · have : k = i := by omega
          subst this; exact ⟨by omega, by omega⟩
      · conv => whnf
        repeat (first | exact rfl | exact trivial | exact Or.inl (fun _ _ => rfl) | exact (fun _ => rfl) | exact (fun _ _ => rfl) | exact Or.inl (fun _ hi => absurd hi (Nat.not_lt_zero _)) | ((first | refine And.intro rfl ?_ | refine And.intro (Or.inl (fun _ _ => rfl)) ?_ | refine And.intro (fun _ => rfl) ?_ | refine And.intro (fun _ _ => rfl) ?_ | (refine And.intro ?_ ?_; rotate_left)); conv => whnf))
    · exact (decide_eq_false fun hL => by have := (hL.2.1 i (by omega)).1; omega).symm
    · exfalso; omega
    · exact (decide_eq_false fun hL => by have := hL.1; omega).symm
    · have hi' : i = l.length := by omega
      subst hi'
      refine decide_eq_decide.2 ⟨fun h => ⟨by omega, he, by omega⟩, fun h => by have := h.2.2; omega⟩
    · exact (decide_eq_false fun hL => by have := hL.1; omega).symm
def r3 : Rd := ⟨3, [⟨0, 0⟩, ⟨1, 0⟩], [7], false⟩
theorem ofL_ex : ofL [] [r3] = [⟨3, 1⟩] := by
  have h := (srt_facts cfC swo_ch [(⟨3, 1⟩ : Ch)]).1
  have e : ofB [] [r3] [r3].length = [⟨3, 1⟩] := by decide
  unfold ofL
  rw [e]
  exact List.perm_singleton.1 h
theorem all_ex : allR [] = 0 ∧ allR [r3] = 0 := by decide
set_option maxRecDepth 100000 in
set_option maxHeartbeats 1000000 in
theorem awake_c (hns : ¬ (default : DRT).ns) : ACalls Try.prog G 6 [] (.sb true) := by
  have h1 := of_ok (G := G) hns [] [r3] ⟨by simp, fun i hi => absurd hi (Nat.not_lt_zero _)⟩ ⟨by simp, fun i hi => by
    have : i = 0 := by simp at hi; omega
    subst this; exact ⟨by decide, by decide⟩⟩ all_ex
  rw [ofL_ex] at h1
  have h2 := count_c (G := G) [(⟨3, 1⟩ : Ch)] (by simp)
  refine ACalls.of_WA ttok Try.func6 rfl rfl _ rfl ?_
  conv => whnf
  iterate 3 (first | refine WA_seq ?_ | refine WA_block ?_ | ((first | refine WA_region ttok ?_ | refine WA_draw ttok mixed ?_ | refine WA_cond ?_ | refine WA_skip ?_ | refine WA_exit ?_ | refine WA_ret ?_); conv => whnf))
  refine WA_region2 ttok 4 [0, 1] ?_
  conv => whnf
  refine Or.inr (Or.inr (Or.inl ?_))
  conv => whnf
  refine ⟨_, ACalls.fit h1 ?_, ?_⟩
  · conv => whnf
    refine ⟨rfl, ?_⟩
    conv => whnf
    refine ⟨rfl, ?_⟩
    conv => whnf
    refine Or.inr fun i hi => ?_
    obtain rfl : i = 0 := by omega
    conv => whnf
    refine ⟨rfl, ?_⟩
    conv => whnf
    refine ⟨rfl, ?_⟩
    conv => whnf
    refine ⟨Or.inl fun i hi => ?_, ?_⟩
    · match i, hi with
      | 0, _ => rfl
      | 1, _ => rfl
    · conv => whnf
      refine ⟨rfl, ?_⟩
      conv => whnf
      refine ⟨Or.inl fun i hi => ?_, ?_⟩
      · match i, hi with
        | 0, _ => rfl
      · conv => whnf
        first | done | rfl
  · conv => whnf
    repeat' (first | (contradiction) | refine WA_seq ?_ | refine WA_block ?_ | ((first | refine WA_region ttok ?_ | refine WA_draw ttok mixed ?_ | refine WA_cond ?_ | refine WA_skip ?_ | refine WA_exit ?_ | refine WA_ret ?_); conv => whnf) | (refine And.intro (fun h => ?_) (fun h => ?_) <;> (try simp only [brsA] at h) <;> conv => whnf) | (refine Or.inl ?_; (conv => whnf); refine ⟨_, h2, ?_⟩; conv => whnf) | (refine Or.inr (Or.inr (Or.inl ?_)); (conv => whnf); refine ⟨_, h2, ?_⟩; conv => whnf) | (refine Exists.intro _ (And.intro (h2) ?_); conv => whnf) | (refine WR_fit ?_ ?_; (focus (first | exact wr_i64 (by omega) | exact wr_u64 (by omega) | exact wr_u8 (by omega) | exact wr_i32 (by omega) | exact wr_u32 (by omega))); conv => whnf) | ((first | refine WR_wrap ?_ | (refine And.intro (a := indepB _ _ = true) ?_ ?_; (focus kernel_rfl)) | refine And.intro rfl ?_ | (refine And.intro ?_ ?_; (focus (first | omega | decide | (dsimp only; omega) | (simp at *; omega))))); conv => whnf))
    all_goals rfl
end Go.Proofs.Ytekfaocnlejgaaa

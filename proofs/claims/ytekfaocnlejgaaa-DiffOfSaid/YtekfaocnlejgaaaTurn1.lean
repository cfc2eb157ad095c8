/-
  Roads in which one is as others have it; roads with changes; the reference's turn, and that both turn alike.
-/
import Derived.Test.YtekfaocnlejgaaaRow1
set_option linter.unusedSimpArgs false
set_option linter.unusedSectionVars false
set_option linter.unusedVariables false
namespace Go.Proofs.Ytekfaocnlejgaaa
open Go.Proofs.Ytekfaocnlejgaaa.Am
variable [Inhabited DRT]
variable {G : GInv}
/-! ### Roads in which one is as others have it -/
theorem bsF_le (p : Nat → Bool) : ∀ (f lo hi : Nat), lo ≤ hi → lo ≤ bsF p f lo hi ∧ bsF p f lo hi ≤ hi
  | 0, lo, hi, h => ⟨Nat.le_refl _, h⟩
  | f + 1, lo, hi, h => by
    rw [bsF]
    split
    · split
      · have := bsF_le p f ((lo + hi) / 2 + 1) hi (by omega); omega
      · have := bsF_le p f lo ((lo + hi) / 2) (by omega); omega
    · exact ⟨Nat.le_refl _, h⟩
theorem bsL_le (l : List Rd) (id : Int) : bsL l id ≤ l.length := (bsF_le _ _ 0 l.length (Nat.zero_le _)).2
theorem isL_lt {l : List Rd} {id : Int} (h : isL l id = true) : bsL l id < l.length := by
  unfold isL at h
  rw [Bool.and_eq_true] at h
  exact of_decide_eq_true h.1
def dropL (L : List Rd) (id : Int) : List Rd := if isL L id = true then delL L (bsL L id) else L
def turnL (L b : List Rd) (id : Int) : List Rd := if isL b id = true then insL (dropL L id) (bsL (dropL L id) id) (b.getD (bsL b id) default) else dropL L id
theorem dropL_len (L : List Rd) (id : Int) : (dropL L id).length ≤ L.length := by
  unfold dropL
  split
  · rename_i h; rw [delL_len (isL_lt h)]; omega
  · omega
theorem turnL_len (L b : List Rd) (id : Int) : (turnL L b id).length ≤ L.length + 1 := by
  unfold turnL
  have := dropL_len L id
  split
  · rw [insL_len (bsL_le _ _)]; omega
  · omega
theorem insertL_c (L : List Rd) (x : Rd) (i : Nat) (hi : i ≤ L.length) (hL : L.length ≤ 1000000) (r2 : Nat → List A) (h2 : r2 0 = rdA x) :
    MCalls Try.prog G 34 [.own 1, .int .i64 i, .own 2] [.ghost [.own 1, .junk, .own 2, .junk, .junk], .row 34 4 L.length (rowR L), .row 34 4 1 r2] (.own 1)
      [.ghost [.junk, .junk, .own 2, .junk, .junk], .row 34 4 (insL L i x).length (rowR (insL L i x)), .row 34 4 1 (rowR [x])] := by
  refine MCalls.fit (insert_c L x i hi hL) rfl ?_
  show andL _
  conv => whnf
  refine ⟨rfl, rfl, Or.inl fun _ _ => rfl, rfl, Or.inl fun j hj => ?_⟩
  obtain rfl : j = 0 := by omega
  exact h2
set_option maxRecDepth 100000 in
set_option maxHeartbeats 1000000 in
theorem turned_c (L b : List Rd) (id : Int) (hL : L.length ≤ 1000) (hb : b.length ≤ 1000) :
    MCalls Try.prog G 24 [.own 1, rdsA b, .int .i64 id] [.ghost [.own 1, .junk, .junk, .junk], .row 34 4 L.length (rowR L)] (.own 1)
      [.ghost [.junk, .junk, .junk, .junk], .row 34 4 (turnL L b id).length (rowR (turnL L b id))] := by
  have h1 := at_c (G := G) L id (by omega)
  have h2 := at_c (G := G) b id (by omega)
  have hlL := bsL_le L id
  have hlb := bsL_le b id
  have hM := dropL_len L id
  have hlM := bsL_le (dropL L id) id
  have h3 := at_c (G := G) (dropL L id) id (by omega)
  have hins := insertL_c (G := G) (dropL L id) (b.getD (bsL b id) default) (bsL (dropL L id) id) hlM (by omega)
  cases hi : isL L id
  · have eD : dropL L id = L := if_neg (by rw [hi]; exact Bool.noConfusion)
    rw [eD] at hM hlM h3 hins
    rw [hi] at h1 h3
    cases hj : isL b id
    · have e : turnL L b id = L := by unfold turnL; rw [if_neg (by rw [hj]; exact Bool.noConfusion), eD]
      rw [e]
      rw [hj] at h2
      refine MCalls.of_WA ttok Try.func24 rfl rfl _ rfl ?_
      conv => whnf
      repeat' (first | (contradiction) | refine WA_seq ?_ | refine WA_block ?_ | ((first | refine WA_region ttok ?_ | refine WA_draw ttok mixed ?_ | refine WA_cond ?_ | refine WA_skip ?_ | refine WA_exit ?_ | refine WA_ret ?_); conv => whnf) | (refine And.intro (fun h => ?_) (fun h => ?_) <;> (try simp only [brsA] at h) <;> conv => whnf) | (refine Or.inl ?_; (conv => whnf); refine ⟨_, h1, ?_⟩; conv => whnf) | (refine Or.inr (Or.inr (Or.inl ?_)); (conv => whnf); refine ⟨_, h1, ?_⟩; conv => whnf) | (refine Exists.intro _ (And.intro (h1) ?_); conv => whnf) | (refine Or.inl ?_; (conv => whnf); refine ⟨_, h2, ?_⟩; conv => whnf) | (refine Or.inr (Or.inr (Or.inl ?_)); (conv => whnf); refine ⟨_, h2, ?_⟩; conv => whnf) | (refine Exists.intro _ (And.intro (h2) ?_); conv => whnf) | (refine WR_fit ?_ ?_; (focus (first | exact wr_i64 (by omega) | exact wr_u64 (by omega) | exact wr_u8 (by omega) | exact wr_i32 (by omega) | exact wr_u32 (by omega))); conv => whnf) | ((first | refine WR_wrap ?_ | (refine And.intro (a := indepB _ _ = true) ?_ ?_; (focus kernel_rfl)) | refine And.intro rfl ?_ | (refine And.intro ?_ ?_; (focus (first | omega | decide | (dsimp only; omega) | (simp at *; omega))))); conv => whnf))
      exact Or.inl fun _ _ => rfl
    · have hin := isL_lt hj
      have e : turnL L b id = insL L (bsL L id) (b.getD (bsL b id) default) := by unfold turnL; rw [if_pos hj, eD]
      rw [e]
      rw [hj] at h2
      refine MCalls.of_WA ttok Try.func24 rfl rfl _ rfl ?_
      conv => whnf
      repeat' (first | (contradiction) | refine WA_seq ?_ | refine WA_block ?_ | ((first | refine WA_region ttok ?_ | refine WA_draw ttok mixed ?_ | refine WA_cond ?_ | refine WA_skip ?_ | refine WA_exit ?_ | refine WA_ret ?_); conv => whnf) | (refine And.intro (fun h => ?_) (fun h => ?_) <;> (try simp only [brsA] at h) <;> conv => whnf) | (refine Or.inl ?_; (conv => whnf); refine ⟨_, h1, ?_⟩; conv => whnf) | (refine Or.inr (Or.inr (Or.inl ?_)); (conv => whnf); refine ⟨_, h1, ?_⟩; conv => whnf) | (refine Exists.intro _ (And.intro (h1) ?_); conv => whnf) | (refine Or.inl ?_; (conv => whnf); refine ⟨_, h2, ?_⟩; conv => whnf) | (refine Or.inr (Or.inr (Or.inl ?_)); (conv => whnf); refine ⟨_, h2, ?_⟩; conv => whnf) | (refine Exists.intro _ (And.intro (h2) ?_); conv => whnf) | (refine Or.inr (Or.inl ?_); (conv => whnf); refine ⟨_, _, hins _ rfl, ?_⟩; conv => whnf) | (refine Exists.intro _ (And.intro (hins _ rfl) ?_); conv => whnf) | (refine WR_fit ?_ ?_; (focus (first | exact wr_i64 (by omega) | exact wr_u64 (by omega) | exact wr_u8 (by omega) | exact wr_i32 (by omega) | exact wr_u32 (by omega))); conv => whnf) | ((first | refine WR_wrap ?_ | (refine And.intro (a := indepB _ _ = true) ?_ ?_; (focus kernel_rfl)) | refine And.intro rfl ?_ | (refine And.intro ?_ ?_; (focus (first | omega | decide | (dsimp only; omega) | (simp at *; omega))))); conv => whnf))
      exact Or.inl fun _ _ => rfl
  · have hin := isL_lt hi
    have eD : dropL L id = delL L (bsL L id) := if_pos hi
    have hdel := delete_c (G := G) L (bsL L id) hin (by omega)
    rw [← eD] at hdel
    rw [hi] at h1
    cases hj : isL b id
    · have e : turnL L b id = dropL L id := by unfold turnL; rw [if_neg (by rw [hj]; exact Bool.noConfusion)]
      rw [e]
      rw [hj] at h2
      refine MCalls.of_WA ttok Try.func24 rfl rfl _ rfl ?_
      conv => whnf
      repeat' (first | (contradiction) | refine WA_seq ?_ | refine WA_block ?_ | ((first | refine WA_region ttok ?_ | refine WA_draw ttok mixed ?_ | refine WA_cond ?_ | refine WA_skip ?_ | refine WA_exit ?_ | refine WA_ret ?_); conv => whnf) | (refine And.intro (fun h => ?_) (fun h => ?_) <;> (try simp only [brsA] at h) <;> conv => whnf) | (refine Or.inl ?_; (conv => whnf); refine ⟨_, h1, ?_⟩; conv => whnf) | (refine Or.inr (Or.inr (Or.inl ?_)); (conv => whnf); refine ⟨_, h1, ?_⟩; conv => whnf) | (refine Exists.intro _ (And.intro (h1) ?_); conv => whnf) | (refine Or.inl ?_; (conv => whnf); refine ⟨_, h2, ?_⟩; conv => whnf) | (refine Or.inr (Or.inr (Or.inl ?_)); (conv => whnf); refine ⟨_, h2, ?_⟩; conv => whnf) | (refine Exists.intro _ (And.intro (h2) ?_); conv => whnf) | (refine Or.inr (Or.inl ?_); (conv => whnf); refine ⟨_, _, hdel, ?_⟩; conv => whnf) | (refine Exists.intro _ (And.intro (hdel) ?_); conv => whnf) | (refine WR_fit ?_ ?_; (focus (first | exact wr_i64 (by omega) | exact wr_u64 (by omega) | exact wr_u8 (by omega) | exact wr_i32 (by omega) | exact wr_u32 (by omega))); conv => whnf) | ((first | refine WR_wrap ?_ | (refine And.intro (a := indepB _ _ = true) ?_ ?_; (focus kernel_rfl)) | refine And.intro rfl ?_ | (refine And.intro ?_ ?_; (focus (first | omega | decide | (dsimp only; omega) | (simp at *; omega))))); conv => whnf))
      exact Or.inl fun _ _ => rfl
    · have hin2 := isL_lt hj
      have e : turnL L b id = insL (dropL L id) (bsL (dropL L id) id) (b.getD (bsL b id) default) := by unfold turnL; rw [if_pos hj]
      rw [e]
      rw [hj] at h2
      refine MCalls.of_WA ttok Try.func24 rfl rfl _ rfl ?_
      conv => whnf
      repeat' (first | (contradiction) | refine WA_seq ?_ | refine WA_block ?_ | ((first | refine WA_region ttok ?_ | refine WA_draw ttok mixed ?_ | refine WA_cond ?_ | refine WA_skip ?_ | refine WA_exit ?_ | refine WA_ret ?_); conv => whnf) | (refine And.intro (fun h => ?_) (fun h => ?_) <;> (try simp only [brsA] at h) <;> conv => whnf) | (refine Or.inl ?_; (conv => whnf); refine ⟨_, h1, ?_⟩; conv => whnf) | (refine Or.inr (Or.inr (Or.inl ?_)); (conv => whnf); refine ⟨_, h1, ?_⟩; conv => whnf) | (refine Exists.intro _ (And.intro (h1) ?_); conv => whnf) | (refine Or.inl ?_; (conv => whnf); refine ⟨_, h2, ?_⟩; conv => whnf) | (refine Or.inr (Or.inr (Or.inl ?_)); (conv => whnf); refine ⟨_, h2, ?_⟩; conv => whnf) | (refine Exists.intro _ (And.intro (h2) ?_); conv => whnf) | (refine Or.inl ?_; (conv => whnf); refine ⟨_, h3, ?_⟩; conv => whnf) | (refine Or.inr (Or.inr (Or.inl ?_)); (conv => whnf); refine ⟨_, h3, ?_⟩; conv => whnf) | (refine Exists.intro _ (And.intro (h3) ?_); conv => whnf) | (refine Or.inr (Or.inl ?_); (conv => whnf); refine ⟨_, _, hdel, ?_⟩; conv => whnf) | (refine Exists.intro _ (And.intro (hdel) ?_); conv => whnf) | (refine Or.inr (Or.inl ?_); (conv => whnf); refine ⟨_, _, hins _ rfl, ?_⟩; conv => whnf) | (refine Exists.intro _ (And.intro (hins _ rfl) ?_); conv => whnf) | (refine WR_fit ?_ ?_; (focus (first | exact wr_i64 (by omega) | exact wr_u64 (by omega) | exact wr_u8 (by omega) | exact wr_i32 (by omega) | exact wr_u32 (by omega))); conv => whnf) | ((first | refine WR_wrap ?_ | (refine And.intro (a := indepB _ _ = true) ?_ ?_; (focus kernel_rfl)) | refine And.intro rfl ?_ | (refine And.intro ?_ ?_; (focus (first | omega | decide | (dsimp only; omega) | (simp at *; omega))))); conv => whnf))
      exact Or.inl fun _ _ => rfl
end Go.Proofs.Ytekfaocnlejgaaa
set_option linter.unusedSimpArgs false
set_option linter.unusedSectionVars false
set_option linter.unusedVariables false
namespace Go.Proofs.Ytekfaocnlejgaaa
open Go.Proofs.Ytekfaocnlejgaaa.Am
variable [Inhabited DRT]
variable {G : GInv}
/-! ### Roads with changes -/
def appL (a b : List Rd) (l : List Ch) : Nat → List Rd
  | 0 => a
  | k + 1 => turnL (appL a b l k) b (l.getD k default).id
theorem appL_len (a b : List Rd) (l : List Ch) : ∀ k, (appL a b l k).length ≤ a.length + k
  | 0 => Nat.le_refl _
  | k + 1 => by
    have := appL_len a b l k
    have := turnL_len (appL a b l k) b (l.getD k default).id
    rw [appL]; omega
theorem getD_mem {α : Type} {l : List α} {i : Nat} {d : α} (h : i < l.length) : l.getD i d ∈ l := by
  rw [List.getD_eq_getElem?_getD, List.getElem?_eq_getElem h]; exact List.getElem_mem _
theorem lt_mem {l : List Rd} : Lt l ↔ l.length ≤ 1000 ∧ ∀ r ∈ l, LtR r := by
  constructor
  · rintro ⟨h1, h2⟩
    refine ⟨h1, fun r hr => ?_⟩
    obtain ⟨i, hi, rfl⟩ := List.getElem_of_mem hr
    have := h2 i hi
    rw [List.getD_eq_getElem?_getD, List.getElem?_eq_getElem hi] at this
    exact this
  · rintro ⟨h1, h2⟩
    exact ⟨h1, fun i hi => h2 _ (getD_mem hi)⟩
theorem turnL_mem {L b : List Rd} {id : Int} {r : Rd} (h : r ∈ turnL L b id) : r ∈ L ∨ r ∈ b := by
  have hd : ∀ r, r ∈ dropL L id → r ∈ L := fun r hr => by
    unfold dropL at hr
    split at hr
    · rcases List.mem_append.1 hr with h | h
      · exact List.mem_of_mem_take h
      · exact List.mem_of_mem_drop h
    · exact hr
  unfold turnL at h
  split at h
  · rename_i hj
    rcases List.mem_append.1 h with h | h
    · exact .inl (hd _ (List.mem_of_mem_take h))
    · rcases List.mem_cons.1 h with rfl | h
      · exact .inr (getD_mem (isL_lt hj))
      · exact .inl (hd _ (List.mem_of_mem_drop h))
  · exact .inl (hd _ h)
theorem appL_mem {a b : List Rd} {l : List Ch} {r : Rd} : ∀ k, r ∈ appL a b l k → r ∈ a ∨ r ∈ b
  | 0, h => .inl h
  | k + 1, h => by
    rcases turnL_mem h with h | h
    · exact appL_mem k h
    · exact .inr h
theorem appL_lt {a b : List Rd} {l : List Ch} (ha : Lt a) (hb : Lt b) (k : Nat) (hk : a.length + k ≤ 1000) : Lt (appL a b l k) := by
  refine lt_mem.2 ⟨by have := appL_len a b l k; omega, fun r hr => ?_⟩
  rcases appL_mem k hr with h | h
  · exact (lt_mem.1 ha).2 r h
  · exact (lt_mem.1 hb).2 r h
theorem apply_bad (a b : List Rd) (l : List Ch) (ha : Lt a) (hb : Lt b) (h : allR a ≠ 0 ∨ allR b ≠ 0) : ACalls Try.prog G 11 [rdsA a, rdsA b, chsA l] (.tup [rdsA [], .int .i64 1]) := by
  have h1 := all_c (G := G) a ha
  have h2 := all_c (G := G) b hb
  generalize allR a = x at *
  generalize allR b = y at *
  refine ACalls.of_WA ttok Try.func11 rfl rfl _ rfl ?_
  conv => whnf
  repeat' (first | refine WA_seq ?_ | refine WA_block ?_ | ((first | refine WA_region ttok ?_ | refine WA_draw ttok mixed ?_ | refine WA_cond ?_ | refine WA_skip ?_ | refine WA_exit ?_ | refine WA_ret ?_); conv => whnf) | (refine And.intro (fun h => ?_) (fun h => ?_) <;> (try simp only [brsA] at h) <;> conv => whnf) | (refine Or.inl ?_; (conv => whnf); refine ⟨_, h1, ?_⟩; conv => whnf) | (refine Or.inr (Or.inr (Or.inl ?_)); (conv => whnf); refine ⟨_, h1, ?_⟩; conv => whnf) | (refine Exists.intro _ (And.intro (h1) ?_); conv => whnf) | (refine Or.inl ?_; (conv => whnf); refine ⟨_, h2, ?_⟩; conv => whnf) | (refine Or.inr (Or.inr (Or.inl ?_)); (conv => whnf); refine ⟨_, h2, ?_⟩; conv => whnf) | (refine Exists.intro _ (And.intro (h2) ?_); conv => whnf) | (refine WR_fit ?_ ?_; (focus (first | exact wr_i64 (by omega) | exact wr_u64 (by omega) | exact wr_u8 (by omega) | exact wr_i32 (by omega) | exact wr_u32 (by omega))); conv => whnf) | ((first | refine WR_wrap ?_ | (refine And.intro (a := indepB _ _ = true) ?_ ?_; (focus kernel_rfl)) | refine And.intro rfl ?_ | (refine And.intro ?_ ?_; (focus (first | omega | decide | (dsimp only; omega) | (simp at *; omega))))); conv => whnf))
  all_goals first | (exfalso; omega) | skip
set_option maxRecDepth 100000 in
theorem apply_all (a b : List Rd) (l : List Ch) (ha : Lt a) (hb : Lt b) (hl : a.length + l.length ≤ 1000) (h : allR a = 0 ∧ allR b = 0) (R : List Rd) (E : Int) (hR : (allR (appL a b l l.length) = 0 ∧ R = appL a b l l.length ∧ E = 0) ∨ (allR (appL a b l l.length) ≠ 0 ∧ R = [] ∧ E = 1)) :
    ACalls Try.prog G 11 [rdsA a, rdsA b, chsA l] (.tup [rdsA R, .int .i64 E]) := by
  have h1 := all_c (G := G) a ha
  have h2 := all_c (G := G) b hb
  rw [h.1] at h1
  rw [h.2] at h2
  have hcl := clone_c (G := G) a (by have := ha.1; omega)
  refine ACalls.of_WA ttok Try.func11 rfl rfl _ rfl ?_
  conv => whnf
  repeat' (first | (contradiction) | refine WA_seq ?_ | refine WA_block ?_ | ((first | refine WA_region ttok ?_ | refine WA_draw ttok mixed ?_ | refine WA_cond ?_ | refine WA_skip ?_ | refine WA_exit ?_ | refine WA_ret ?_); conv => whnf) | (refine And.intro (fun h => ?_) (fun h => ?_) <;> (try simp only [brsA] at h) <;> conv => whnf) | (refine Or.inl ?_; (conv => whnf); refine ⟨_, h1, ?_⟩; conv => whnf) | (refine Or.inr (Or.inr (Or.inl ?_)); (conv => whnf); refine ⟨_, h1, ?_⟩; conv => whnf) | (refine Exists.intro _ (And.intro (h1) ?_); conv => whnf) | (refine Or.inl ?_; (conv => whnf); refine ⟨_, h2, ?_⟩; conv => whnf) | (refine Or.inr (Or.inr (Or.inl ?_)); (conv => whnf); refine ⟨_, h2, ?_⟩; conv => whnf) | (refine Exists.intro _ (And.intro (h2) ?_); conv => whnf) | (refine Or.inr (Or.inr (Or.inr ?_)); (conv => whnf); refine ⟨_, _, hcl, ?_⟩; conv => whnf) | (refine Or.inr ?_; (conv => whnf); refine ⟨_, _, hcl, ?_⟩; conv => whnf) | (refine Exists.intro _ (And.intro (hcl) ?_); conv => whnf) | (refine WR_fit ?_ ?_; (focus (first | exact wr_i64 (by omega) | exact wr_u64 (by omega) | exact wr_u8 (by omega) | exact wr_i32 (by omega) | exact wr_u32 (by omega))); conv => whnf) | ((first | refine WR_wrap ?_ | (refine And.intro (a := indepB _ _ = true) ?_ ?_; (focus kernel_rfl)) | refine And.intro rfl ?_ | (refine And.intro ?_ ?_; (focus (first | omega | decide | (dsimp only; omega) | (simp at *; omega))))); conv => whnf))
  refine WA_loopI (fun k : Nat => k ≤ l.length) (fun k => [(23, .int .i64 (k : Int)), (8, .own 0), (20, .junk)]) (fun k => [.row 34 4 (appL a b l k).length (rowR (appL a b l k))]) (fun k => l.length - k) 0 (by omega) ?_ ?_
  · conv => whnf
    repeat (first | exact rfl | exact trivial | exact Or.inl (fun _ _ => rfl) | exact (fun _ => rfl) | exact (fun _ _ => rfl) | exact Or.inl (fun _ hi => absurd hi (Nat.not_lt_zero _)) | ((first | refine And.intro rfl ?_ | refine And.intro (Or.inl (fun _ _ => rfl)) ?_ | refine And.intro (fun _ => rfl) ?_ | refine And.intro (fun _ _ => rfl) ?_ | (refine And.intro ?_ ?_; rotate_left)); conv => whnf))
  · intro k hk
    have hlk := appL_len a b l k
    have ht := turned_c (G := G) (appL a b l k) b (l.getD k default).id (by omega) hb.1
    conv => whnf
    repeat (first | refine WA_seq ?_ | refine WA_block ?_ | ((first | refine WA_region ttok ?_ | refine WA_draw ttok mixed ?_ | refine WA_cond ?_ | refine WA_skip ?_ | refine WA_exit ?_ | refine WA_ret ?_); conv => whnf))
    refine ⟨fun h => ?_, fun h => ?_⟩
    · have h : (k : Int) < l.length := of_decide_eq_true h
      conv => whnf
      repeat' (first | refine WA_seq ?_ | refine WA_block ?_ | ((first | refine WA_region ttok ?_ | refine WA_draw ttok mixed ?_ | refine WA_cond ?_ | refine WA_skip ?_ | refine WA_exit ?_ | refine WA_ret ?_); conv => whnf) | (refine And.intro (fun h => ?_) (fun h => ?_) <;> (try simp only [brsA] at h) <;> conv => whnf) | (refine Or.inr (Or.inl ?_); (conv => whnf); refine ⟨_, _, ht, ?_⟩; conv => whnf) | (refine Exists.intro _ (And.intro (ht) ?_); conv => whnf) | (refine WR_fit ?_ ?_; (focus (first | exact wr_i64 (by omega) | exact wr_u64 (by omega) | exact wr_u8 (by omega) | exact wr_i32 (by omega) | exact wr_u32 (by omega))); conv => whnf) | ((first | refine WR_wrap ?_ | (refine And.intro (a := indepB _ _ = true) ?_ ?_; (focus kernel_rfl)) | refine And.intro rfl ?_ | (refine And.intro ?_ ?_; (focus (first | omega | decide | (dsimp only; omega) | (simp at *; omega))))); conv => whnf))
      refine ⟨k + 1, (by show k + 1 ≤ l.length; omega), (by show l.length - (k + 1) < l.length - k; omega), ?_⟩
      conv => whnf
      repeat (first | exact rfl | exact trivial | exact Or.inl (fun _ _ => rfl) | exact (fun _ => rfl) | exact (fun _ _ => rfl) | exact Or.inl (fun _ hi => absurd hi (Nat.not_lt_zero _)) | ((first | refine And.intro rfl ?_ | refine And.intro (Or.inl (fun _ _ => rfl)) ?_ | refine And.intro (fun _ => rfl) ?_ | refine And.intro (fun _ _ => rfl) ?_ | (refine And.intro ?_ ?_; rotate_left)); conv => whnf))
    · have h : ¬ (k : Int) < l.length := of_decide_eq_false h
      have hi' : k = l.length := by omega
      subst hi'
      have h3 := all_c (G := G) (appL a b l l.length) (appL_lt ha hb _ hl)
      conv => whnf
      repeat' (first | refine WA_seq ?_ | refine WA_block ?_ | ((first | refine WA_region ttok ?_ | refine WA_draw ttok mixed ?_ | refine WA_cond ?_ | refine WA_skip ?_ | refine WA_exit ?_ | refine WA_ret ?_); conv => whnf) | (refine And.intro (fun h => ?_) (fun h => ?_) <;> (try simp only [brsA] at h) <;> conv => whnf) | (refine Or.inl ?_; (conv => whnf); refine ⟨_, h3, ?_⟩; conv => whnf) | (refine Or.inr (Or.inr (Or.inl ?_)); (conv => whnf); refine ⟨_, h3, ?_⟩; conv => whnf) | (refine Exists.intro _ (And.intro (h3) ?_); conv => whnf) | (refine WR_fit ?_ ?_; (focus (first | exact wr_i64 (by omega) | exact wr_u64 (by omega) | exact wr_u8 (by omega) | exact wr_i32 (by omega) | exact wr_u32 (by omega))); conv => whnf) | ((first | refine WR_wrap ?_ | (refine And.intro (a := indepB _ _ = true) ?_ ?_; (focus kernel_rfl)) | refine And.intro rfl ?_ | (refine And.intro ?_ ?_; (focus (first | omega | decide | (dsimp only; omega) | (simp at *; omega))))); conv => whnf))
      · rcases hR with ⟨q1, q2, q3⟩ | ⟨q1, rfl, rfl⟩
        · exact absurd q1 h
        · refine ⟨rfl, ?_⟩
          conv => whnf
      · rcases hR with ⟨q1, rfl, rfl⟩ | ⟨q1, q2, q3⟩
        · refine ⟨rfl, ?_⟩
          conv => whnf
          refine ⟨Or.inl fun _ _ => rfl, ?_⟩
          conv => whnf
        · exact absurd h q1
end Go.Proofs.Ytekfaocnlejgaaa
set_option linter.unusedSimpArgs false
set_option linter.unusedSectionVars false
set_option linter.unusedVariables false
namespace Go.Proofs.Ytekfaocnlejgaaa
open Go.Proofs.Ytekfaocnlejgaaa.Am
variable [Inhabited DRT]
variable {G : GInv}
/-! ### The reference's Turn -/
def stp (b : List Rd) (id k : Int) (s : List Rd × Bool) (r : Rd) : List Rd × Bool :=
  if s.2 = false ∧ id ≤ r.id then (if r.id = id then (s.1 ++ [b.getD k.toNat default], true) else (s.1 ++ [b.getD k.toNat default] ++ [r], true))
  else (if r.id = id then s else (s.1 ++ [r], s.2))
def rtS (l b : List Rd) (id k : Int) : Nat → List Rd × Bool
  | 0 => ([], decide (k < 0))
  | i + 1 => stp b id k (rtS l b id k i) (l.getD i default)
def rtL (l b : List Rd) (id : Int) : List Rd :=
  let s := rtS l b id (fnd b id) l.length
  if s.2 = true then s.1 else s.1 ++ [b.getD (fnd b id).toNat default]
theorem rtS_len (l b : List Rd) (id k : Int) : ∀ i, (rtS l b id k i).1.length ≤ 2 * i
  | 0 => Nat.le_refl _
  | i + 1 => by
    have := rtS_len l b id k i
    rw [rtS, stp]
    split <;> split <;> simp <;> omega
theorem rowCat_rd (L : List Rd) (x : Rd) (r : Nat → List A) (hr : r 0 = rdA x) (i : Nat) (hi : i < L.length + 1) : rowCat L.length (rowR L) r i = rowR (L ++ [x]) i := by
  by_cases h : i < L.length
  · rw [rowCat_lt h]
    simp only [rowR, List.getD_eq_getElem?_getD, List.getElem?_append_left h]
  · rw [rowCat_ge h]
    have : i = L.length := by omega
    subst this
    simp [hr, rowR, List.getD_eq_getElem?_getD]
theorem rowCat_rd2 (L : List Rd) (x y : Rd) (r s : Nat → List A) (hr : r 0 = rdA x) (hs : s 0 = rdA y) (i : Nat) (hi : i < L.length + 1 + 1) : rowCat (L.length + 1) (rowCat L.length (rowR L) r) s i = rowR (L ++ [x] ++ [y]) i := by
  rw [← rowCat_rd (L ++ [x]) y s hs i (by simpa using hi), List.length_append, List.length_singleton]
  by_cases h : i < L.length + 1
  · rw [rowCat_lt h, rowCat_lt h, rowCat_rd L x r hr i h]
  · rw [rowCat_ge h, rowCat_ge h]
set_option maxRecDepth 100000 in
set_option maxHeartbeats 2000000 in
theorem rturn_c (l b : List Rd) (id : Int) (hl : l.length ≤ 10000) (hb : b.length ≤ 10000) : ACalls Try.prog G 14 [rdsA l, rdsA b, .int .i64 id] (rdsA (rtL l b id)) := by
  have h1 := fnd_c (G := G) b id (by omega)
  have lb := fnd_lt b id
  have hS := rtS_len l b id (fnd b id)
  have e0 : rtS l b id (fnd b id) 0 = ([], decide (fnd b id < 0)) := rfl
  have eS : ∀ i, rtS l b id (fnd b id) (i + 1) = stp b id (fnd b id) (rtS l b id (fnd b id) i) (l.getD i default) := fun i => rfl
  unfold rtL
  dsimp only
  generalize rtS l b id (fnd b id) = S at *
  generalize fnd b id = K at *
  refine ACalls.of_WA ttok Try.func14 rfl rfl _ rfl ?_
  conv => whnf
  repeat' (first | refine WA_seq ?_ | refine WA_block ?_ | ((first | refine WA_region ttok ?_ | refine WA_draw ttok mixed ?_ | refine WA_cond ?_ | refine WA_skip ?_ | refine WA_exit ?_ | refine WA_ret ?_); conv => whnf) | (refine And.intro (fun h => ?_) (fun h => ?_) <;> (try simp only [brsA] at h) <;> conv => whnf) | (refine Or.inl ?_; (conv => whnf); refine ⟨_, h1, ?_⟩; conv => whnf) | (refine Or.inr (Or.inr (Or.inl ?_)); (conv => whnf); refine ⟨_, h1, ?_⟩; conv => whnf) | (refine Exists.intro _ (And.intro (h1) ?_); conv => whnf) | (refine WR_fit ?_ ?_; (focus (first | exact wr_i64 (by omega) | exact wr_u64 (by omega) | exact wr_u8 (by omega) | exact wr_i32 (by omega) | exact wr_u32 (by omega))); conv => whnf) | ((first | refine WR_wrap ?_ | (refine And.intro (a := indepB _ _ = true) ?_ ?_; (focus kernel_rfl)) | refine And.intro rfl ?_ | (refine And.intro ?_ ?_; (focus (first | omega | decide | (dsimp only; omega) | (simp at *; omega))))); conv => whnf))
  refine WA_loopI (fun x : Nat × List Rd × Bool => x.1 ≤ l.length ∧ S x.1 = x.2 ∧ (x.2.2 = false → 0 ≤ K)) (fun x => match x with | (i, o, d) => [(10, .int .i64 (i : Int)), (7, .own 0), (9, .sb d), (11, .junk)]) (fun x => match x with | (i, o, d) => [.row 34 4 o.length (rowR o)]) (fun x => l.length - x.1) (0, [], decide (K < 0)) ⟨by simp, e0, fun h => by have := of_decide_eq_false h; omega⟩ ?_ ?_
  · conv => whnf
    repeat (first | exact rfl | exact trivial | exact Or.inl (fun _ _ => rfl) | exact (fun _ => rfl) | exact (fun _ _ => rfl) | exact Or.inl (fun _ hi => absurd hi (Nat.not_lt_zero _)) | ((first | refine And.intro rfl ?_ | refine And.intro (Or.inl (fun _ _ => rfl)) ?_ | refine And.intro (fun _ => rfl) ?_ | refine And.intro (fun _ _ => rfl) ?_ | (refine And.intro ?_ ?_; rotate_left)); conv => whnf))
  · rintro ⟨i, o, d⟩ ⟨hi, hs, hd⟩
    have hi : i ≤ l.length := hi
    have hs : S i = (o, d) := hs
    have hd : d = false → 0 ≤ K := hd
    have hlo := hS i
    rw [hs] at hlo
    have hlo : o.length ≤ 2 * i := hlo
    have hx := eS i
    rw [hs] at hx
    cases d with
    | false =>
      have hK := hd rfl
      clear hd
      conv => whnf
      repeat' (first | (contradiction) | refine WA_seq ?_ | refine WA_block ?_ | ((first | refine WA_region ttok ?_ | refine WA_draw ttok mixed ?_ | refine WA_cond ?_ | refine WA_skip ?_ | refine WA_exit ?_ | refine WA_ret ?_); conv => whnf) | (refine And.intro (fun h => ?_) (fun h => ?_) <;> (try simp only [brsA] at h) <;> conv => whnf) | (refine WR_fit ?_ ?_; (focus (first | exact wr_i64 (by omega) | exact wr_u64 (by omega) | exact wr_u8 (by omega) | exact wr_i32 (by omega) | exact wr_u32 (by omega))); conv => whnf) | ((first | refine WR_wrap ?_ | (refine And.intro (a := indepB _ _ = true) ?_ ?_; (focus kernel_rfl)) | refine And.intro rfl ?_ | (refine And.intro ?_ ?_; (focus (first | omega | decide | (dsimp only; omega) | (simp at *; omega))))); conv => whnf))
      · have q1 : id ≤ (l.getD i default).id := by assumption
        have q2 : ¬ (l.getD i default).id = id := by assumption
        refine ⟨(i + 1, o ++ [b.getD K.toNat default] ++ [l.getD i default], true), ⟨by show i + 1 ≤ l.length; omega, by rw [hx, stp, if_pos ⟨rfl, q1⟩, if_neg q2], fun h => Bool.noConfusion h⟩, (by show l.length - (i + 1) < l.length - i; omega), ?_⟩
        conv => whnf
        repeat (first | exact rfl | exact trivial | exact Or.inl (fun _ _ => rfl) | exact (fun _ => rfl) | exact (fun _ _ => rfl) | exact Or.inl (fun _ hi => absurd hi (Nat.not_lt_zero _)) | ((first | refine And.intro rfl ?_ | refine And.intro (Or.inl (fun _ _ => rfl)) ?_ | refine And.intro (fun _ => rfl) ?_ | refine And.intro (fun _ _ => rfl) ?_ | (refine And.intro ?_ ?_; rotate_left)); conv => whnf))
        all_goals (first | exact Or.inl fun j hj => rowCat_rd _ _ _ rfl j hj | exact Or.inl fun j hj => rowCat_rd2 _ _ _ _ _ rfl rfl j hj | simp only [List.length_append, List.length_singleton])
      · have q1 : id ≤ (l.getD i default).id := by assumption
        have q2 : (l.getD i default).id = id := by assumption
        refine ⟨(i + 1, o ++ [b.getD K.toNat default], true), ⟨by show i + 1 ≤ l.length; omega, by rw [hx, stp, if_pos ⟨rfl, q1⟩, if_pos q2], fun h => Bool.noConfusion h⟩, (by show l.length - (i + 1) < l.length - i; omega), ?_⟩
        conv => whnf
        repeat (first | exact rfl | exact trivial | exact Or.inl (fun _ _ => rfl) | exact (fun _ => rfl) | exact (fun _ _ => rfl) | exact Or.inl (fun _ hi => absurd hi (Nat.not_lt_zero _)) | ((first | refine And.intro rfl ?_ | refine And.intro (Or.inl (fun _ _ => rfl)) ?_ | refine And.intro (fun _ => rfl) ?_ | refine And.intro (fun _ _ => rfl) ?_ | (refine And.intro ?_ ?_; rotate_left)); conv => whnf))
        all_goals (first | exact Or.inl fun j hj => rowCat_rd _ _ _ rfl j hj | exact Or.inl fun j hj => rowCat_rd2 _ _ _ _ _ rfl rfl j hj | simp only [List.length_append, List.length_singleton])
      · have q1 : ¬ id ≤ (l.getD i default).id := by assumption
        have q2 : ¬ (l.getD i default).id = id := by assumption
        refine ⟨(i + 1, o ++ [l.getD i default], false), ⟨by show i + 1 ≤ l.length; omega, by rw [hx, stp, if_neg (fun h => q1 h.2), if_neg q2], fun _ => hK⟩, (by show l.length - (i + 1) < l.length - i; omega), ?_⟩
        conv => whnf
        repeat (first | exact rfl | exact trivial | exact Or.inl (fun _ _ => rfl) | exact (fun _ => rfl) | exact (fun _ _ => rfl) | exact Or.inl (fun _ hi => absurd hi (Nat.not_lt_zero _)) | ((first | refine And.intro rfl ?_ | refine And.intro (Or.inl (fun _ _ => rfl)) ?_ | refine And.intro (fun _ => rfl) ?_ | refine And.intro (fun _ _ => rfl) ?_ | (refine And.intro ?_ ?_; rotate_left)); conv => whnf))
        all_goals (first | exact Or.inl fun j hj => rowCat_rd _ _ _ rfl j hj | exact Or.inl fun j hj => rowCat_rd2 _ _ _ _ _ rfl rfl j hj | simp only [List.length_append, List.length_singleton])
      · have q1 : ¬ id ≤ (l.getD i default).id := by assumption
        have q2 : (l.getD i default).id = id := by assumption
        omega
      · have hi' : i = l.length := by omega
        subst hi'
        rw [hs]
        refine ⟨by rw [if_neg (fun h => Bool.noConfusion h)]; simp, ?_⟩
        conv => whnf
        refine Or.inl fun j hj => ?_
        rw [if_neg (fun h => Bool.noConfusion h)]
        exact rowCat_rd _ _ _ rfl j hj
    | true =>
      conv => whnf
      repeat' (first | (contradiction) | refine WA_seq ?_ | refine WA_block ?_ | ((first | refine WA_region ttok ?_ | refine WA_draw ttok mixed ?_ | refine WA_cond ?_ | refine WA_skip ?_ | refine WA_exit ?_ | refine WA_ret ?_); conv => whnf) | (refine And.intro (fun h => ?_) (fun h => ?_) <;> (try simp only [brsA] at h) <;> conv => whnf) | (refine WR_fit ?_ ?_; (focus (first | exact wr_i64 (by omega) | exact wr_u64 (by omega) | exact wr_u8 (by omega) | exact wr_i32 (by omega) | exact wr_u32 (by omega))); conv => whnf) | ((first | refine WR_wrap ?_ | (refine And.intro (a := indepB _ _ = true) ?_ ?_; (focus kernel_rfl)) | refine And.intro rfl ?_ | (refine And.intro ?_ ?_; (focus (first | omega | decide | (dsimp only; omega) | (simp at *; omega))))); conv => whnf))
      · have q2 : ¬ (l.getD i default).id = id := by assumption
        refine ⟨(i + 1, o ++ [l.getD i default], true), ⟨by show i + 1 ≤ l.length; omega, by rw [hx, stp, if_neg (fun h => Bool.noConfusion h.1), if_neg q2], fun h => Bool.noConfusion h⟩, (by show l.length - (i + 1) < l.length - i; omega), ?_⟩
        conv => whnf
        repeat (first | exact rfl | exact trivial | exact Or.inl (fun _ _ => rfl) | exact (fun _ => rfl) | exact (fun _ _ => rfl) | exact Or.inl (fun _ hi => absurd hi (Nat.not_lt_zero _)) | ((first | refine And.intro rfl ?_ | refine And.intro (Or.inl (fun _ _ => rfl)) ?_ | refine And.intro (fun _ => rfl) ?_ | refine And.intro (fun _ _ => rfl) ?_ | (refine And.intro ?_ ?_; rotate_left)); conv => whnf))
        all_goals (first | exact Or.inl fun j hj => rowCat_rd _ _ _ rfl j hj | exact Or.inl fun j hj => rowCat_rd2 _ _ _ _ _ rfl rfl j hj | simp only [List.length_append, List.length_singleton])
      · have q2 : (l.getD i default).id = id := by assumption
        refine ⟨(i + 1, o, true), ⟨by show i + 1 ≤ l.length; omega, by rw [hx, stp, if_neg (fun h => Bool.noConfusion h.1), if_pos q2], fun h => Bool.noConfusion h⟩, (by show l.length - (i + 1) < l.length - i; omega), ?_⟩
        conv => whnf
        repeat (first | exact rfl | exact trivial | exact Or.inl (fun _ _ => rfl) | exact (fun _ => rfl) | exact (fun _ _ => rfl) | exact Or.inl (fun _ hi => absurd hi (Nat.not_lt_zero _)) | ((first | refine And.intro rfl ?_ | refine And.intro (Or.inl (fun _ _ => rfl)) ?_ | refine And.intro (fun _ => rfl) ?_ | refine And.intro (fun _ _ => rfl) ?_ | (refine And.intro ?_ ?_; rotate_left)); conv => whnf))
        all_goals (first | exact Or.inl fun j hj => rowCat_rd _ _ _ rfl j hj | exact Or.inl fun j hj => rowCat_rd2 _ _ _ _ _ rfl rfl j hj | simp only [List.length_append, List.length_singleton])
      · have hi' : i = l.length := by omega
        subst hi'
        rw [hs]
        exact ⟨rfl, Or.inl fun _ _ => rfl⟩
end Go.Proofs.Ytekfaocnlejgaaa
set_option linter.unusedSimpArgs false
set_option linter.unusedSectionVars false
set_option linter.unusedVariables false
namespace Go.Proofs.Ytekfaocnlejgaaa
open Go.Proofs.Ytekfaocnlejgaaa.Am
variable [Inhabited DRT]
/-! ### The plain law: both turn alike -/
def Pw (l : List Rd) : Prop := l.Pairwise fun a b => a.id < b.id
theorem rises_pw {l : List Rd} : Rises l ↔ Pw l := by
  unfold Pw
  rw [List.pairwise_iff_getElem]
  constructor
  · intro h
    have key : ∀ d i, i + d + 1 < l.length → (l.getD i default).id < (l.getD (i + d + 1) default).id := by
      intro d
      induction d with
      | zero =>
        intro i hi
        have := h (i + 1) (by omega) (by omega)
        simpa using this
      | succ d ih =>
        intro i hi
        have a := ih i (by omega)
        have b := h (i + (d + 1) + 1) (by omega) (by omega)
        rw [show i + (d + 1) + 1 - 1 = i + d + 1 by omega] at b
        omega
    intro i j hi hj hij
    have := key (j - i - 1) i (by omega)
    rw [show i + (j - i - 1) + 1 = j by omega] at this
    simpa [List.getD_eq_getElem?_getD, hi, hj] using this
  · intro h i hi h0
    have := h (i - 1) i (by omega) hi (by omega)
    simpa [List.getD_eq_getElem?_getD, hi, show i - 1 < l.length by omega] using this
theorem lessR_iff (l : List Rd) (id : Int) (i : Nat) : lessR l id i = true ↔ (l.getD i default).id < id := by
  unfold lessR cmpI
  rw [decide_eq_true_iff]
  split
  · omega
  · split <;> omega
theorem cmpI0 (a b : Int) : cmpI a b = 0 ↔ a = b := by
  unfold cmpI
  split
  · omega
  · split <;> omega
theorem pw_get {l : List Rd} (h : Pw l) {i j : Nat} (hij : i < j) (hj : j < l.length) : (l.getD i default).id < (l.getD j default).id := by
  have := List.pairwise_iff_getElem.1 h i j (by omega) hj hij
  simpa [List.getD_eq_getElem?_getD, hj, show i < l.length by omega] using this
theorem bs_at {l : List Rd} (h : Pw l) (id : Int) : bsL l id ≤ l.length ∧ (∀ k, k < bsL l id → (l.getD k default).id < id) ∧ ∀ k, bsL l id ≤ k → k < l.length → id ≤ (l.getD k default).id := by
  obtain ⟨_, a, b, c⟩ := bsF_inv (lessR l id) l.length (fun a b hab hb hp => by
    rw [lessR_iff] at *
    rcases Nat.lt_or_eq_of_le hab with q | q
    · have := pw_get h q hb; omega
    · rw [q]; exact hp) l.length 0 l.length (by omega) (Nat.zero_le _) (Nat.le_refl _) (fun k hk => absurd hk (Nat.not_lt_zero _)) (fun k h1 h2 => by omega)
  refine ⟨a, fun k hk => (lessR_iff l id k).1 (b k hk), fun k h1 h2 => ?_⟩
  have := c k h1 h2
  rcases Int.lt_or_le (l.getD k default).id id with q | q
  · rw [(lessR_iff l id k).2 q] at this; cases this
  · exact q
theorem mem_take_iff {l : List Rd} {p : Nat} {r : Rd} (h : r ∈ l.take p) : ∃ k, k < p ∧ k < l.length ∧ l.getD k default = r := by
  obtain ⟨k, hk, e⟩ := List.getElem_of_mem h
  rw [List.length_take] at hk
  refine ⟨k, by omega, by omega, ?_⟩
  rw [List.getElem_take] at e
  simp [List.getD_eq_getElem?_getD, show k < l.length by omega, e]
theorem mem_drop_iff {l : List Rd} {p : Nat} {r : Rd} (h : r ∈ l.drop p) : ∃ k, p ≤ k ∧ k < l.length ∧ l.getD k default = r := by
  obtain ⟨k, hk, e⟩ := List.getElem_of_mem h
  rw [List.length_drop] at hk
  refine ⟨p + k, by omega, by omega, ?_⟩
  rw [List.getElem_drop] at e
  simp [List.getD_eq_getElem?_getD, show p + k < l.length by omega, e]
theorem bs_take {l : List Rd} (h : Pw l) (id : Int) : ∀ r ∈ l.take (bsL l id), r.id < id := fun r hr => by
  obtain ⟨k, h1, h2, rfl⟩ := mem_take_iff hr
  exact (bs_at h id).2.1 k h1
theorem bs_drop {l : List Rd} (h : Pw l) (id : Int) : ∀ r ∈ l.drop (bsL l id), id ≤ r.id := fun r hr => by
  obtain ⟨k, h1, h2, rfl⟩ := mem_drop_iff hr
  exact (bs_at h id).2.2 k h1 h2
theorem is_iff {l : List Rd} (h : Pw l) (id : Int) : isL l id = true ↔ ∃ k, k < l.length ∧ (l.getD k default).id = id := by
  obtain ⟨a, b, c⟩ := bs_at h id
  unfold isL
  rw [Bool.and_eq_true, decide_eq_true_iff, decide_eq_true_iff, cmpI0]
  constructor
  · rintro ⟨h1, h2⟩; exact ⟨_, h1, h2⟩
  · rintro ⟨k, h1, h2⟩
    have hk : bsL l id ≤ k := by
      rcases Nat.lt_or_ge k (bsL l id) with q | q
      · have := b k q; omega
      · exact q
    refine ⟨by omega, ?_⟩
    rcases Nat.lt_or_eq_of_le hk with q | q
    · have h3 := pw_get h q h1
      have h4 := c (bsL l id) (Nat.le_refl _) (by omega)
      omega
    · rw [q]; exact h2
theorem fnd_neg {l : List Rd} {id : Int} : fnd l id < 0 ↔ ¬ ∃ k, k < l.length ∧ (l.getD k default).id = id := by
  have := fstAt_nonneg (idAt l id) l.length 0
  unfold fnd
  constructor
  · rintro h ⟨k, h1, h2⟩
    have := this.2 ⟨k, by omega, by omega, decide_eq_true h2⟩
    omega
  · intro h
    rcases Int.lt_or_le (fstAt (idAt l id) l.length 0) 0 with q | q
    · exact q
    · obtain ⟨j, _, h2, h3⟩ := this.1 q
      exact absurd ⟨j, by omega, of_decide_eq_true h3⟩ h
theorem fstAt_hit (p : Nat → Bool) : ∀ (n i : Nat), 0 ≤ fstAt p n i → p (fstAt p n i).toNat = true
  | 0, i, h => by simp [fstAt] at h
  | n + 1, i, h => by
    rw [fstAt] at h ⊢
    split
    · rename_i q; simpa using q
    · rename_i q
      rw [if_neg q] at h
      exact fstAt_hit p n (i + 1) h
theorem fnd_hit {l : List Rd} {id : Int} (h : 0 ≤ fnd l id) : (l.getD (fnd l id).toNat default).id = id := of_decide_eq_true (fstAt_hit (idAt l id) _ _ h)
theorem fnd_bs {l : List Rd} (hp : Pw l) {id : Int} (h : isL l id = true) : 0 ≤ fnd l id ∧ (fnd l id).toNat = bsL l id := by
  have h0 : 0 ≤ fnd l id := by
    rcases Int.lt_or_le (fnd l id) 0 with q | q
    · exact absurd ((is_iff hp id).1 h) (fnd_neg.1 q)
    · exact q
  refine ⟨h0, ?_⟩
  have h1 := fnd_hit h0
  have h2 := fnd_lt l id
  unfold isL at h
  rw [Bool.and_eq_true, decide_eq_true_iff, decide_eq_true_iff, cmpI0] at h
  rcases Nat.lt_trichotomy (fnd l id).toNat (bsL l id) with q | q | q
  · have := pw_get hp q h.1; omega
  · exact q
  · have := pw_get hp q (by omega); omega
theorem foldl_lt (b : List Rd) (id k : Int) : ∀ (A o : List Rd) (d : Bool), (∀ r ∈ A, r.id < id) → A.foldl (stp b id k) (o, d) = (o ++ A, d)
  | [], o, d, _ => by simp
  | r :: A, o, d, h => by
    have hr := h r (by simp)
    rw [List.foldl_cons, stp, if_neg (fun q => by have := q.2; omega), if_neg (by omega), foldl_lt b id k A _ d (fun x hx => h x (by simp [hx]))]
    simp
theorem foldl_gt (b : List Rd) (id k : Int) : ∀ (C o : List Rd), (∀ r ∈ C, id < r.id) → C.foldl (stp b id k) (o, true) = (o ++ C, true)
  | [], o, _ => by simp
  | r :: C, o, h => by
    have hr := h r (by simp)
    rw [List.foldl_cons, stp, if_neg (fun q => Bool.noConfusion q.1), if_neg (by omega), foldl_gt b id k C _ (fun x hx => h x (by simp [hx]))]
    simp
theorem rtS_fold (l b : List Rd) (id k : Int) : ∀ i, i ≤ l.length → rtS l b id k i = (l.take i).foldl (stp b id k) ([], decide (k < 0))
  | 0, _ => by simp [rtS]
  | i + 1, h => by
    rw [rtS, rtS_fold l b id k i (by omega), List.take_add_one, List.foldl_append]
    simp [List.getD_eq_getElem?_getD, show i < l.length by omega]
theorem rtL_fold (l b : List Rd) (id : Int) : rtL l b id = if (l.foldl (stp b id (fnd b id)) ([], decide (fnd b id < 0))).2 = true then (l.foldl (stp b id (fnd b id)) ([], decide (fnd b id < 0))).1 else (l.foldl (stp b id (fnd b id)) ([], decide (fnd b id < 0))).1 ++ [b.getD (fnd b id).toNat default] := by
  unfold rtL
  dsimp only
  rw [rtS_fold l b id _ l.length (Nat.le_refl _), List.take_length]
/-- What is left of the Id, and what is right of it. -/
def rgt (L : List Rd) (id : Int) : List Rd := if isL L id = true then L.drop (bsL L id + 1) else L.drop (bsL L id)
theorem dropL_eq (L : List Rd) (id : Int) : dropL L id = L.take (bsL L id) ++ rgt L id := by
  unfold dropL rgt
  split
  · rfl
  · exact (List.take_append_drop _ _).symm
theorem rgt_gt {L : List Rd} (h : Pw L) (id : Int) : ∀ r ∈ rgt L id, id < r.id := by
  obtain ⟨a, b, c⟩ := bs_at h id
  unfold rgt
  intro r hr
  split at hr
  · rename_i q
    have h1 := isL_lt q
    unfold isL at q
    rw [Bool.and_eq_true, decide_eq_true_iff, decide_eq_true_iff, cmpI0] at q
    obtain ⟨k, k1, k2, rfl⟩ := mem_drop_iff hr
    have := pw_get h (show bsL L id < k by omega) k2
    omega
  · rename_i q
    obtain ⟨k, k1, k2, rfl⟩ := mem_drop_iff hr
    have h1 := c k k1 k2
    have h2 : (L.getD k default).id ≠ id := fun e => q ((is_iff h id).2 ⟨k, k2, e⟩)
    omega
theorem bs_uniq {l : List Rd} (h : Pw l) {id : Int} (A C : List Rd) (hl : l = A ++ C) (hA : ∀ r ∈ A, r.id < id) (hC : ∀ r ∈ C, id < r.id) : bsL l id = A.length := by
  obtain ⟨a, b, c⟩ := bs_at h id
  subst hl
  rw [List.length_append] at a
  rcases Nat.lt_trichotomy (bsL (A ++ C) id) A.length with q | q | q
  · have h1 := c _ (Nat.le_refl _) (by rw [List.length_append]; omega)
    rw [List.getD_eq_getElem?_getD, List.getElem?_append_left q, List.getElem?_eq_getElem q] at h1
    have := hA _ (List.getElem_mem q)
    simp only [Option.getD_some] at h1
    omega
  · exact q
  · have h1 := b A.length q
    have hc : 0 < C.length := by omega
    rw [List.getD_eq_getElem?_getD, List.getElem?_append_right (Nat.le_refl _), Nat.sub_self, List.getElem?_eq_getElem hc] at h1
    have := hC _ (List.getElem_mem hc)
    simp only [Option.getD_some] at h1
    omega
theorem pw_drop {L : List Rd} (h : Pw L) (id : Int) : Pw (dropL L id) := by
  unfold dropL
  split
  · refine List.Pairwise.sublist ?_ h
    unfold delL
    have : L.take (bsL L id) ++ L.drop (bsL L id + 1) = L.eraseIdx (bsL L id) := (List.eraseIdx_eq_take_drop_succ _ _).symm
    rw [this]
    exact List.eraseIdx_sublist _ _
  · exact h
theorem turnL_eq {L b : List Rd} (h : Pw L) (id : Int) : turnL L b id = if isL b id = true then L.take (bsL L id) ++ b.getD (bsL b id) default :: rgt L id else L.take (bsL L id) ++ rgt L id := by
  have e := dropL_eq L id
  have hu := bs_uniq (pw_drop h id) _ _ e (bs_take h id) (rgt_gt h id)
  unfold turnL
  split
  · unfold insL
    rw [hu, e, List.take_left, List.drop_left]
  · exact e
theorem rtL_eq {L b : List Rd} (h : Pw L) (hb : Pw b) (id : Int) : rtL L b id = turnL L b id := by
  rw [rtL_fold, turnL_eq h]
  have hA := bs_take h id
  have hC := rgt_gt h id
  have hL : L = L.take (bsL L id) ++ ((if isL L id = true then [L.getD (bsL L id) default] else []) ++ rgt L id) := by
    unfold rgt
    split
    · rename_i q
      have hq := isL_lt q
      rw [List.singleton_append, List.getD_eq_getElem?_getD, List.getElem?_eq_getElem hq, Option.getD_some, ← List.drop_eq_getElem_cons hq, List.take_append_drop]
    · rw [List.nil_append, List.take_append_drop]
  generalize L.take (bsL L id) = A at *
  generalize rgt L id = C at *
  by_cases hj : isL b id = true
  · obtain ⟨f0, fe⟩ := fnd_bs hb hj
    rw [if_pos hj, ← fe]
    have hd : decide (fnd b id < 0) = false := decide_eq_false (by omega)
    rw [hd]
    generalize fnd b id = K at *
    have hF : (L.foldl (stp b id K) ([], false)) = (A ++ b.getD K.toNat default :: C, true) ∨ (L.foldl (stp b id K) ([], false)) = (A, false) ∧ C = [] := by
      rw [hL, List.foldl_append, foldl_lt b id K A [] false hA, List.nil_append]
      by_cases hi : isL L id = true
      · have he : (L.getD (bsL L id) default).id = id := by
          unfold isL at hi
          rw [Bool.and_eq_true, decide_eq_true_iff, decide_eq_true_iff, cmpI0] at hi
          exact hi.2
        rw [if_pos hi, List.singleton_append, List.foldl_cons, stp, if_pos ⟨rfl, by omega⟩, if_pos he, foldl_gt b id K C _ hC]
        left; simp
      · rw [if_neg hi, List.nil_append]
        cases C with
        | nil => exact .inr ⟨rfl, rfl⟩
        | cons c C =>
          have hc := hC c (by simp)
          rw [List.foldl_cons, stp, if_pos ⟨rfl, by omega⟩, if_neg (by omega), foldl_gt b id K C _ (fun r hr => hC r (by simp [hr]))]
          left; simp
    rcases hF with hF | ⟨hF, rfl⟩
    · rw [hF, if_pos rfl]
    · rw [hF, if_neg (fun q => Bool.noConfusion q)]
  · have f0 : fnd b id < 0 := fnd_neg.2 fun q => hj ((is_iff hb id).2 q)
    rw [if_neg hj, decide_eq_true f0]
    generalize fnd b id = K at *
    have hF : (L.foldl (stp b id K) ([], true)) = (A ++ C, true) := by
      rw [hL, List.foldl_append, foldl_lt b id K A [] true hA, List.nil_append]
      by_cases hi : isL L id = true
      · have he : (L.getD (bsL L id) default).id = id := by
          unfold isL at hi
          rw [Bool.and_eq_true, decide_eq_true_iff, decide_eq_true_iff, cmpI0] at hi
          exact hi.2
        rw [if_pos hi, List.singleton_append, List.foldl_cons, stp, if_neg (fun q => Bool.noConfusion q.1), if_pos he, foldl_gt b id K C _ hC]
      · rw [if_neg hi, List.nil_append, foldl_gt b id K C _ hC]
    rw [hF, if_pos rfl]
theorem pw_turn {L b : List Rd} (h : Pw L) (hb : Pw b) (id : Int) : Pw (turnL L b id) := by
  have hd := pw_drop h id
  rw [dropL_eq] at hd
  rw [turnL_eq h]
  split
  · rename_i hj
    have hx : (b.getD (bsL b id) default).id = id := by
      unfold isL at hj
      rw [Bool.and_eq_true, decide_eq_true_iff, decide_eq_true_iff, cmpI0] at hj
      exact hj.2
    have hA := bs_take h id
    have hC := rgt_gt h id
    unfold Pw at *
    rw [List.pairwise_append] at *
    refine ⟨hd.1, List.pairwise_cons.2 ⟨fun c hc => by have := hC c hc; omega, hd.2.1⟩, fun a ha c hc => ?_⟩
    rcases List.mem_cons.1 hc with rfl | hc
    · have := hA a ha; omega
    · exact hd.2.2 a ha c hc
  · exact hd
theorem pw_app {a b : List Rd} (l : List Ch) (h : Pw a) (hb : Pw b) : ∀ k, Pw (appL a b l k)
  | 0 => h
  | k + 1 => pw_turn (pw_app l h hb k) hb _
theorem allR_pw {l : List Rd} (h : allR l = 0) : Pw l := by
  unfold allR at h
  refine rises_pw.1 ?_
  split at h
  · omega
  · split at h
    · contradiction
    · split at h
      · omega
      · rename_i q
        exact Classical.not_not.1 q
end Go.Proofs.Ytekfaocnlejgaaa

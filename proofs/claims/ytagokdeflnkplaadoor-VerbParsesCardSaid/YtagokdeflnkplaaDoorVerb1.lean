/-
  Commands: the walks of the package verb but Parse and Line, and of their references.
-/
import Derived.Test.YtagokdeflnkplaaDoorRep1
import Derived.Test.YtagokdeflnkplaaDoorAm5
set_option linter.unusedSimpArgs false
namespace Go.Proofs.YtagokdeflnkplaaDoor
open Go.Proofs.YtagokdeflnkplaaDoor.Am Go.Lib
variable {G : GInv}
/-! ### Commands -/
abbrev Pr := Int × Int
/-- A command: its kind, its road, its Id, its ban, its points. -/
structure Cm where
  k : Int
  rid : Int
  pts : List Pr
  ws : List Int
  ow : Bool
  id : Int
  bf : Int
  bt : Int
  bo : Bool
  p : Pr
  q : Pr
deriving instance DecidableEq for Cm
def rdA (i : Int) (pts : List Pr) (ws : List Int) (ow : Bool) : List A := [.int .i64 i, runsA pts, intsA ws, .sb ow]
def cmA (c : Cm) : List A := [.int .i64 c.k, .int .i64 c.rid, runsA c.pts, intsA c.ws, .sb c.ow, .int .i64 c.id, .int .i64 c.bf, .int .i64 c.bt, .sb c.bo, .int .i64 c.p.1, .int .i64 c.p.2, .int .i64 c.q.1, .int .i64 c.q.2]
def cm0 : Cm := ⟨0, 0, [], [], false, 0, 0, 0, false, (0, 0), (0, 0)⟩
def V13 : List (List UInt8) := [[76, 79, 65, 68], [68, 82, 79, 80], [78, 79, 68, 69], [66, 65, 78], [85, 78, 66, 65, 78], [80, 79, 76, 73, 67, 89], [66, 85, 73, 76, 68], [83, 78, 65, 80], [82, 79, 85, 84, 69], [80, 65, 84, 72], [67, 76, 79, 83, 69], [79, 80, 69, 78], [83, 84, 65, 84]]
def nameL (k : Int) : List UInt8 := if 1 ≤ k ∧ k ≤ 13 then V13.getD (k - 1).toNat [] else []
theorem kind13 {k : Int} (h : 1 ≤ k ∧ k ≤ 13) : k = 1 ∨ k = 2 ∨ k = 3 ∨ k = 4 ∨ k = 5 ∨ k = 6 ∨ k = 7 ∨ k = 8 ∨ k = 9 ∨ k = 10 ∨ k = 11 ∨ k = 12 ∨ k = 13 := by omega
set_option maxRecDepth 100000 in
set_option maxHeartbeats 1000000 in
theorem vname_c (k : Int) : ACalls Tryd.prog G 68 [.int .i64 k] (.str (nameL k)) := by
  by_cases h : 1 ≤ k ∧ k ≤ 13
  · have a := kind13 h
    rcases a with a | a | a | a | a | a | a | a | a | a | a | a | a <;> subst a
    all_goals
      refine ACalls.of_WA ttok Tryd.func68 rfl rfl _ rfl ?_
      conv => whnf
      repeat' (first | refine WA_seq ?_ | (refine WA_region ttok ?_; conv => whnf) | (refine WA_draw ttok mixed ?_; conv => whnf) | (refine WA_cond ?_; conv => whnf) | refine WA_block ?_ | (refine WA_skip ?_; conv => whnf) | (refine WA_exit ?_; conv => whnf) | (refine WA_ret ?_; conv => whnf) | (refine And.intro (fun h => ?_) (fun h => ?_) <;> (try simp only [brsA] at h) <;> conv => whnf) | (refine WR_fit ?_ ?_; (focus (first | exact wr_i64 (by omega) | exact wr_u64 (by omega) | exact wr_u8 (by omega) | exact wr_i32 (by omega) | exact wr_u32 (by omega))); conv => whnf) | (refine WR_wrap ?_; conv => whnf) | (refine And.intro (a := indepB _ _ = true) ?_ ?_; (focus kernel_rfl); conv => whnf) | (refine And.intro rfl ?_; conv => whnf) | (refine And.intro ?_ ?_; (focus (first | omega | decide | (dsimp only; omega) | (simp at *; omega))); conv => whnf))
      all_goals first | contradiction | (exfalso; omega) | rfl | skip
  · have hw : nameL k = [] := by unfold nameL; rw [if_neg h]
    rw [hw]
    refine ACalls.of_WA ttok Tryd.func68 rfl rfl _ rfl ?_
    conv => whnf
    repeat' (first | refine WA_seq ?_ | (refine WA_region ttok ?_; conv => whnf) | (refine WA_draw ttok mixed ?_; conv => whnf) | (refine WA_cond ?_; conv => whnf) | refine WA_block ?_ | (refine WA_skip ?_; conv => whnf) | (refine WA_exit ?_; conv => whnf) | (refine WA_ret ?_; conv => whnf) | (refine And.intro (fun h => ?_) (fun h => ?_) <;> (try simp only [brsA] at h) <;> conv => whnf) | (refine WR_fit ?_ ?_; (focus (first | exact wr_i64 (by omega) | exact wr_u64 (by omega) | exact wr_u8 (by omega) | exact wr_i32 (by omega) | exact wr_u32 (by omega))); conv => whnf) | (refine WR_wrap ?_; conv => whnf) | (refine And.intro (a := indepB _ _ = true) ?_ ?_; (focus kernel_rfl); conv => whnf) | (refine And.intro rfl ?_; conv => whnf) | (refine And.intro ?_ ?_; (focus (first | omega | decide | (dsimp only; omega) | (simp at *; omega))); conv => whnf))
    all_goals first | contradiction | (exfalso; omega) | rfl | skip
set_option maxRecDepth 100000 in
set_option maxHeartbeats 1000000 in
theorem rvname_c (k : Int) : ACalls Tryd.prog G 64 [.int .i64 k] (.str (nameL k)) := by
  by_cases h : 1 ≤ k ∧ k ≤ 13
  · have a := kind13 h
    rcases a with a | a | a | a | a | a | a | a | a | a | a | a | a <;> subst a
    all_goals
      refine ACalls.of_WA ttok Tryd.func64 rfl rfl _ rfl ?_
      conv => whnf
      repeat' (first | refine WA_seq ?_ | (refine WA_region ttok ?_; conv => whnf) | (refine WA_draw ttok mixed ?_; conv => whnf) | (refine WA_cond ?_; conv => whnf) | refine WA_block ?_ | (refine WA_skip ?_; conv => whnf) | (refine WA_exit ?_; conv => whnf) | (refine WA_ret ?_; conv => whnf) | (refine And.intro (fun h => ?_) (fun h => ?_) <;> (try simp only [brsA] at h) <;> conv => whnf) | (refine WR_fit ?_ ?_; (focus (first | exact wr_i64 (by omega) | exact wr_u64 (by omega) | exact wr_u8 (by omega) | exact wr_i32 (by omega) | exact wr_u32 (by omega))); conv => whnf) | (refine WR_wrap ?_; conv => whnf) | (refine And.intro (a := indepB _ _ = true) ?_ ?_; (focus kernel_rfl); conv => whnf) | (refine And.intro rfl ?_; conv => whnf) | (refine And.intro ?_ ?_; (focus (first | omega | decide | (dsimp only; omega) | (simp at *; omega))); conv => whnf))
      all_goals first | contradiction | (exfalso; omega) | rfl | skip
  · have hw : nameL k = [] := by unfold nameL; rw [if_neg h]
    rw [hw]
    refine ACalls.of_WA ttok Tryd.func64 rfl rfl _ rfl ?_
    conv => whnf
    repeat' (first | refine WA_seq ?_ | (refine WA_region ttok ?_; conv => whnf) | (refine WA_draw ttok mixed ?_; conv => whnf) | (refine WA_cond ?_; conv => whnf) | refine WA_block ?_ | (refine WA_skip ?_; conv => whnf) | (refine WA_exit ?_; conv => whnf) | (refine WA_ret ?_; conv => whnf) | (refine And.intro (fun h => ?_) (fun h => ?_) <;> (try simp only [brsA] at h) <;> conv => whnf) | (refine WR_fit ?_ ?_; (focus (first | exact wr_i64 (by omega) | exact wr_u64 (by omega) | exact wr_u8 (by omega) | exact wr_i32 (by omega) | exact wr_u32 (by omega))); conv => whnf) | (refine WR_wrap ?_; conv => whnf) | (refine And.intro (a := indepB _ _ = true) ?_ ?_; (focus kernel_rfl); conv => whnf) | (refine And.intro rfl ?_; conv => whnf) | (refine And.intro ?_ ?_; (focus (first | omega | decide | (dsimp only; omega) | (simp at *; omega))); conv => whnf))
    all_goals first | contradiction | (exfalso; omega) | rfl | skip
theorem nameL_ne {k : Int} : nameL k = [] ↔ ¬ (1 ≤ k ∧ k ≤ 13) := by
  constructor
  · intro h q
    have a := kind13 q
    rcases a with a | a | a | a | a | a | a | a | a | a | a | a | a <;> subst a <;> exact absurd h (by decide)
  · intro h; unfold nameL; rw [if_neg h]
theorem nameL_inj {j k : Int} (hj : 1 ≤ j ∧ j ≤ 13) (hk : 1 ≤ k ∧ k ≤ 13) (h : nameL j = nameL k) : j = k := by
  have key : ∀ a ∈ (List.range 13), ∀ b ∈ (List.range 13), V13.getD a [] = V13.getD b [] → a = b := by decide
  unfold nameL at h
  rw [if_pos hj, if_pos hk] at h
  have := key (j - 1).toNat (List.mem_range.2 (by omega)) (k - 1).toNat (List.mem_range.2 (by omega)) h
  omega
/-- The kind of a word; 0: it is none. -/
def kindL (w : List UInt8) : Int := (((List.range 13).map fun i : Nat => (i : Int) + 1).find? fun k => nameL k = w).getD 0
theorem kindL_eq {w : List UInt8} {k : Int} (hk : 1 ≤ k ∧ k ≤ 13) (h : nameL k = w) : kindL w = k := by
  unfold kindL
  cases hf : ((List.range 13).map fun i : Nat => (i : Int) + 1).find? fun k => nameL k = w with
  | none =>
    rw [List.find?_eq_none] at hf
    have := hf k (List.mem_map.2 ⟨(k - 1).toNat, List.mem_range.2 (by omega), by omega⟩)
    exact absurd (decide_eq_true h) this
  | some j =>
    have h1 := List.find?_some hf
    have h2 := List.mem_of_find?_eq_some hf
    obtain ⟨i, hi, rfl⟩ := List.mem_map.1 h2
    have hi := List.mem_range.1 hi
    have hj : 1 ≤ (i : Int) + 1 ∧ (i : Int) + 1 ≤ 13 := by omega
    exact nameL_inj hj hk ((of_decide_eq_true h1).trans h.symm)
theorem kindL_no {w : List UInt8} (h : ∀ k : Int, 1 ≤ k → k ≤ 13 → nameL k ≠ w) : kindL w = 0 := by
  unfold kindL
  cases hf : ((List.range 13).map fun i : Nat => (i : Int) + 1).find? fun k => nameL k = w with
  | none => rfl
  | some j =>
    have h1 := List.find?_some hf
    have h2 := List.mem_of_find?_eq_some hf
    obtain ⟨i, hi, rfl⟩ := List.mem_map.1 h2
    have hi := List.mem_range.1 hi
    have hj : 1 ≤ (i : Int) + 1 ∧ (i : Int) + 1 ≤ 13 := by omega
    exact absurd (of_decide_eq_true h1) (h _ hj.1 hj.2)
theorem kindL_or (w : List UInt8) : kindL w = 0 ∨ ((1 ≤ kindL w ∧ kindL w ≤ 13) ∧ nameL (kindL w) = w) := by
  by_cases h : ∃ k : Int, (1 ≤ k ∧ k ≤ 13) ∧ nameL k = w
  · obtain ⟨k, hk, e⟩ := h
    rw [kindL_eq hk e]; exact Or.inr ⟨hk, e⟩
  · exact Or.inl (kindL_no fun k h1 h2 e => h ⟨k, ⟨h1, h2⟩, e⟩)
set_option maxRecDepth 100000 in
theorem vkind_c (w : List UInt8) : ACalls Tryd.prog G 59 [.str w] (.int .i64 (kindL w)) := by
  refine ACalls.of_WA ttok Tryd.func59 rfl rfl _ rfl ?_
  conv => whnf
  repeat' (first | refine WA_seq ?_ | (refine WA_region ttok ?_; conv => whnf) | (refine WA_draw ttok mixed ?_; conv => whnf) | (refine WA_cond ?_; conv => whnf) | refine WA_block ?_ | (refine WA_skip ?_; conv => whnf) | (refine WA_exit ?_; conv => whnf) | (refine WA_ret ?_; conv => whnf) | (refine And.intro (fun h => ?_) (fun h => ?_) <;> (try simp only [brsA] at h) <;> conv => whnf) | (refine WR_fit ?_ ?_; (focus (first | exact wr_i64 (by omega) | exact wr_u64 (by omega) | exact wr_u8 (by omega) | exact wr_i32 (by omega) | exact wr_u32 (by omega))); conv => whnf) | (refine WR_wrap ?_; conv => whnf) | (refine And.intro (a := indepB _ _ = true) ?_ ?_; (focus kernel_rfl); conv => whnf) | (refine And.intro rfl ?_; conv => whnf) | (refine And.intro ?_ ?_; (focus (first | omega | decide | (dsimp only; omega) | (simp at *; omega))); conv => whnf))
  refine WA_loopI (fun i : Nat => i ≤ 13 ∧ ∀ k : Int, 1 ≤ k → k ≤ i → nameL k ≠ w) (fun i => [(3, .int .i64 ((i : Int) + 1))]) (fun _ => []) (fun i => 13 - i) 0 ⟨by omega, fun k h1 h2 => absurd h2 (by omega)⟩ ?_ ?_
  · conv => whnf
    repeat (first | exact rfl | exact trivial | exact Or.inl (fun _ _ => rfl) | exact (fun _ => rfl) | exact (fun _ _ => rfl) | exact Or.inl (fun _ hi => absurd hi (Nat.not_lt_zero _)) | (refine And.intro rfl ?_; conv => whnf) | (refine And.intro (Or.inl (fun _ _ => rfl)) ?_; conv => whnf) | (refine And.intro (fun _ => rfl) ?_; conv => whnf) | (refine And.intro (fun _ _ => rfl) ?_; conv => whnf) | (refine And.intro ?_ ?_; rotate_left; conv => whnf))
  · rintro i ⟨hi, hn⟩
    conv => whnf
    repeat' (first | refine WA_seq ?_ | (refine WA_region ttok ?_; conv => whnf) | (refine WA_draw ttok mixed ?_; conv => whnf) | (refine WA_cond ?_; conv => whnf) | refine WA_block ?_ | (refine WA_skip ?_; conv => whnf) | (refine WA_exit ?_; conv => whnf) | (refine WA_ret ?_; conv => whnf) | (refine And.intro (fun h => ?_) (fun h => ?_) <;> (try simp only [brsA] at h) <;> conv => whnf) | (refine Or.inl ?_; (conv => whnf); refine Exists.intro _ (And.intro (vname_c ((i : Int) + 1)) ?_); conv => whnf) | (refine Or.inr (Or.inr (Or.inl ?_)); (conv => whnf); refine Exists.intro _ (And.intro (vname_c ((i : Int) + 1)) ?_); conv => whnf) | (refine Exists.intro _ (And.intro (vname_c ((i : Int) + 1)) ?_); conv => whnf) | (refine WR_fit ?_ ?_; (focus (first | exact wr_i64 (by omega) | exact wr_u64 (by omega) | exact wr_u8 (by omega) | exact wr_i32 (by omega) | exact wr_u32 (by omega))); conv => whnf) | (refine WR_wrap ?_; conv => whnf) | (refine And.intro (a := indepB _ _ = true) ?_ ?_; (focus kernel_rfl); conv => whnf) | (refine And.intro rfl ?_; conv => whnf) | (refine And.intro ?_ ?_; (focus (first | omega | decide | (dsimp only; omega) | (simp at *; omega))); conv => whnf))
    all_goals first | contradiction | (exfalso; omega) | skip
    · exact (kindL_eq ⟨by omega, by omega⟩ (by assumption)).symm
    · refine ⟨i + 1, ⟨by omega, fun k h1 h2 => ?_⟩, (by show 13 - (i + 1) < 13 - i; omega), ?_⟩
      · by_cases q : k ≤ i
        · exact hn k h1 q
        · rw [show k = (i : Int) + 1 by omega]; assumption
      · conv => whnf
        repeat (first | exact rfl | exact trivial | exact Or.inl (fun _ _ => rfl) | exact (fun _ => rfl) | exact (fun _ _ => rfl) | exact Or.inl (fun _ hi => absurd hi (Nat.not_lt_zero _)) | (refine And.intro rfl ?_; conv => whnf) | (refine And.intro (Or.inl (fun _ _ => rfl)) ?_; conv => whnf) | (refine And.intro (fun _ => rfl) ?_; conv => whnf) | (refine And.intro (fun _ _ => rfl) ?_; conv => whnf) | (refine And.intro ?_ ?_; rotate_left; conv => whnf))
    · exact (kindL_no fun k h1 h2 => hn k h1 (by omega)).symm
def noW (k : Int) : List UInt8 := if k = 1 then [98, 111, 116, 104] else if k = 4 ∨ k = 5 then [110, 111] else []
def yesW (k : Int) : List UInt8 := if k = 1 then [111, 110, 101] else if k = 4 ∨ k = 5 then [111, 110, 108, 121] else []
theorem vflag_c (k : Int) : ACalls Tryd.prog G 62 [.int .i64 k] (.tup [.str (noW k), .str (yesW k)]) := by
  unfold noW yesW
  refine ACalls.of_WA ttok Tryd.func62 rfl rfl _ rfl ?_
  conv => whnf
  repeat' (first | refine WA_seq ?_ | (refine WA_region ttok ?_; conv => whnf) | (refine WA_draw ttok mixed ?_; conv => whnf) | (refine WA_cond ?_; conv => whnf) | refine WA_block ?_ | (refine WA_skip ?_; conv => whnf) | (refine WA_exit ?_; conv => whnf) | (refine WA_ret ?_; conv => whnf) | (refine And.intro (fun h => ?_) (fun h => ?_) <;> (try simp only [brsA] at h) <;> conv => whnf) | (refine WR_fit ?_ ?_; (focus (first | exact wr_i64 (by omega) | exact wr_u64 (by omega) | exact wr_u8 (by omega) | exact wr_i32 (by omega) | exact wr_u32 (by omega))); conv => whnf) | (refine WR_wrap ?_; conv => whnf) | (refine And.intro (a := indepB _ _ = true) ?_ ?_; (focus kernel_rfl); conv => whnf) | (refine And.intro rfl ?_; conv => whnf) | (refine And.intro ?_ ?_; (focus (first | omega | decide | (dsimp only; omega) | (simp at *; omega))); conv => whnf))
  all_goals first | contradiction | (exfalso; omega) | skip
  all_goals first | (subst_vars; rfl) | (subst_vars; exact ⟨rfl, rfl⟩) | (rw [if_neg (show ¬ k = 1 by omega), if_neg (show ¬ (k = 4 ∨ k = 5) by omega), if_neg (show ¬ k = 1 by omega), if_neg (show ¬ (k = 4 ∨ k = 5) by omega)]; exact ⟨rfl, rfl⟩)
def manyN (k : Int) : Int := if k = 2 ∨ k = 6 ∨ k = 11 ∨ k = 12 then 1 else if k = 4 ∨ k = 5 ∨ k = 8 then 2 else if k = 9 ∨ k = 10 then 4 else 0
theorem vmany_c (k : Int) : ACalls Tryd.prog G 91 [.int .i64 k] (.int .i64 (manyN k)) := by
  unfold manyN
  refine ACalls.of_WA ttok Tryd.func91 rfl rfl _ rfl ?_
  conv => whnf
  repeat' (first | refine WA_seq ?_ | (refine WA_region ttok ?_; conv => whnf) | (refine WA_draw ttok mixed ?_; conv => whnf) | (refine WA_cond ?_; conv => whnf) | refine WA_block ?_ | (refine WA_skip ?_; conv => whnf) | (refine WA_exit ?_; conv => whnf) | (refine WA_ret ?_; conv => whnf) | (refine And.intro (fun h => ?_) (fun h => ?_) <;> (try simp only [brsA] at h) <;> conv => whnf) | (refine WR_fit ?_ ?_; (focus (first | exact wr_i64 (by omega) | exact wr_u64 (by omega) | exact wr_u8 (by omega) | exact wr_i32 (by omega) | exact wr_u32 (by omega))); conv => whnf) | (refine WR_wrap ?_; conv => whnf) | (refine And.intro (a := indepB _ _ = true) ?_ ?_; (focus kernel_rfl); conv => whnf) | (refine And.intro rfl ?_; conv => whnf) | (refine And.intro ?_ ?_; (focus (first | omega | decide | (dsimp only; omega) | (simp at *; omega))); conv => whnf))
  all_goals first | contradiction | (exfalso; omega) | skip
  all_goals first | (subst_vars; rfl) | (rw [if_neg (by omega), if_neg (by omega), if_neg (by omega)])
end Go.Proofs.YtagokdeflnkplaaDoor
set_option linter.unusedSimpArgs false
namespace Go.Proofs.YtagokdeflnkplaaDoor
open Go.Proofs.YtagokdeflnkplaaDoor.Am Go.Lib
variable {G : GInv}
/-! ### Which commands are alike -/
theorem prs_ext {l m : List Pr} (hl : l.length = m.length) (h : ∀ i, i < l.length → l.getD i (0, 0) = m.getD i (0, 0)) : l = m := by
  apply List.ext_getElem hl
  intro i h1 h2
  have := h i h1
  rwa [List.getD_eq_getElem?_getD, List.getD_eq_getElem?_getD, List.getElem?_eq_getElem h1, List.getElem?_eq_getElem h2] at this
theorem intsv_ext {l m : List Int} (hl : l.length = m.length) (h : ∀ i, i < l.length → l.getD i 0 = m.getD i 0) : l = m := by
  apply List.ext_getElem hl
  intro i h1 h2
  have := h i h1
  rwa [List.getD_eq_getElem?_getD, List.getD_eq_getElem?_getD, List.getElem?_eq_getElem h1, List.getElem?_eq_getElem h2] at this
set_option maxRecDepth 100000 in
theorem equalI_c (l m : List Int) (hl : l.length ≤ 1000000) : ACalls Tryd.prog G 97 [intsA l, intsA m] (.sb (decide (l = m))) := by
  refine ACalls.of_WA ttok Tryd.func97 rfl rfl _ rfl ?_
  conv => whnf
  repeat' (first | refine WA_seq ?_ | (refine WA_region ttok ?_; conv => whnf) | (refine WA_draw ttok mixed ?_; conv => whnf) | (refine WA_cond ?_; conv => whnf) | refine WA_block ?_ | (refine WA_skip ?_; conv => whnf) | (refine WA_exit ?_; conv => whnf) | (refine WA_ret ?_; conv => whnf) | (refine And.intro (fun h => ?_) (fun h => ?_) <;> (try simp only [brsA] at h) <;> conv => whnf) | (refine WR_fit ?_ ?_; (focus (first | exact wr_i64 (by omega) | exact wr_u64 (by omega) | exact wr_u8 (by omega) | exact wr_i32 (by omega) | exact wr_u32 (by omega))); conv => whnf) | (refine WR_wrap ?_; conv => whnf) | (refine And.intro (a := indepB _ _ = true) ?_ ?_; (focus kernel_rfl); conv => whnf) | (refine And.intro rfl ?_; conv => whnf) | (refine And.intro ?_ ?_; (focus (first | omega | decide | (dsimp only; omega) | (simp at *; omega))); conv => whnf))
  · exact (decide_eq_false fun e => by subst e; exact h rfl).symm
  refine WA_loopI (fun i : Nat => i ≤ l.length ∧ ∀ j, j < i → l.getD j 0 = m.getD j 0) (fun i => [(13, .int .i64 (i : Int))]) (fun _ => []) (fun i => l.length - i) 0 ⟨by omega, fun j hj => absurd hj (by omega)⟩ ?_ ?_
  · conv => whnf
    repeat (first | exact rfl | exact trivial | exact Or.inl (fun _ _ => rfl) | exact (fun _ => rfl) | exact (fun _ _ => rfl) | exact Or.inl (fun _ hi => absurd hi (Nat.not_lt_zero _)) | (refine And.intro rfl ?_; conv => whnf) | (refine And.intro (Or.inl (fun _ _ => rfl)) ?_; conv => whnf) | (refine And.intro (fun _ => rfl) ?_; conv => whnf) | (refine And.intro (fun _ _ => rfl) ?_; conv => whnf) | (refine And.intro ?_ ?_; rotate_left; conv => whnf))
  · rintro i ⟨hi, he⟩
    conv => whnf
    repeat' (first | refine WA_seq ?_ | (refine WA_region ttok ?_; conv => whnf) | (refine WA_draw ttok mixed ?_; conv => whnf) | (refine WA_cond ?_; conv => whnf) | refine WA_block ?_ | (refine WA_skip ?_; conv => whnf) | (refine WA_exit ?_; conv => whnf) | (refine WA_ret ?_; conv => whnf) | (refine And.intro (fun h => ?_) (fun h => ?_) <;> (try simp only [brsA] at h) <;> conv => whnf) | (refine WR_fit ?_ ?_; (focus (first | exact wr_i64 (by omega) | exact wr_u64 (by omega) | exact wr_u8 (by omega) | exact wr_i32 (by omega) | exact wr_u32 (by omega))); conv => whnf) | (refine WR_wrap ?_; conv => whnf) | (refine And.intro (a := indepB _ _ = true) ?_ ?_; (focus kernel_rfl); conv => whnf) | (refine And.intro rfl ?_; conv => whnf) | (refine And.intro ?_ ?_; (focus (first | omega | decide | (dsimp only; omega) | (simp at *; omega))); conv => whnf))
    · exact (decide_eq_false fun e => by subst e; exact h rfl).symm
    · refine ⟨i + 1, ⟨by omega, upto_succ he h⟩, (by show l.length - (i + 1) < l.length - i; omega), ?_⟩
      conv => whnf
      repeat (first | exact rfl | exact trivial | exact Or.inl (fun _ _ => rfl) | exact (fun _ => rfl) | exact (fun _ _ => rfl) | exact Or.inl (fun _ hi => absurd hi (Nat.not_lt_zero _)) | (refine And.intro rfl ?_; conv => whnf) | (refine And.intro (Or.inl (fun _ _ => rfl)) ?_; conv => whnf) | (refine And.intro (fun _ => rfl) ?_; conv => whnf) | (refine And.intro (fun _ _ => rfl) ?_; conv => whnf) | (refine And.intro ?_ ?_; rotate_left; conv => whnf))
    · exact (decide_eq_true (intsv_ext (by omega) fun j hj => he j (by omega))).symm
set_option maxRecDepth 100000 in
theorem equalP_c (l m : List Pr) (hl : l.length ≤ 1000000) : ACalls Tryd.prog G 96 [runsA l, runsA m] (.sb (decide (l = m))) := by
  refine ACalls.of_WA ttok Tryd.func96 rfl rfl _ rfl ?_
  conv => whnf
  repeat' (first | refine WA_seq ?_ | (refine WA_region ttok ?_; conv => whnf) | (refine WA_draw ttok mixed ?_; conv => whnf) | (refine WA_cond ?_; conv => whnf) | refine WA_block ?_ | (refine WA_skip ?_; conv => whnf) | (refine WA_exit ?_; conv => whnf) | (refine WA_ret ?_; conv => whnf) | (refine And.intro (fun h => ?_) (fun h => ?_) <;> (try simp only [brsA] at h) <;> conv => whnf) | (refine WR_fit ?_ ?_; (focus (first | exact wr_i64 (by omega) | exact wr_u64 (by omega) | exact wr_u8 (by omega) | exact wr_i32 (by omega) | exact wr_u32 (by omega))); conv => whnf) | (refine WR_wrap ?_; conv => whnf) | (refine And.intro (a := indepB _ _ = true) ?_ ?_; (focus kernel_rfl); conv => whnf) | (refine And.intro rfl ?_; conv => whnf) | (refine And.intro ?_ ?_; (focus (first | omega | decide | (dsimp only; omega) | (simp at *; omega))); conv => whnf))
  · exact (decide_eq_false fun e => by subst e; exact h rfl).symm
  refine WA_loopI (fun i : Nat => i ≤ l.length ∧ ∀ j, j < i → l.getD j (0, 0) = m.getD j (0, 0)) (fun i => [(13, .int .i64 (i : Int))]) (fun _ => []) (fun i => l.length - i) 0 ⟨by omega, fun j hj => absurd hj (by omega)⟩ ?_ ?_
  · conv => whnf
    repeat (first | exact rfl | exact trivial | exact Or.inl (fun _ _ => rfl) | exact (fun _ => rfl) | exact (fun _ _ => rfl) | exact Or.inl (fun _ hi => absurd hi (Nat.not_lt_zero _)) | (refine And.intro rfl ?_; conv => whnf) | (refine And.intro (Or.inl (fun _ _ => rfl)) ?_; conv => whnf) | (refine And.intro (fun _ => rfl) ?_; conv => whnf) | (refine And.intro (fun _ _ => rfl) ?_; conv => whnf) | (refine And.intro ?_ ?_; rotate_left; conv => whnf))
  · rintro i ⟨hi, he⟩
    have ei : ((i : Nat) : Int).toNat = i := Int.toNat_natCast i
    conv => whnf
    repeat' (first | refine WA_seq ?_ | (refine WA_region ttok ?_; conv => whnf) | (refine WA_draw ttok mixed ?_; conv => whnf) | (refine WA_cond ?_; conv => whnf) | refine WA_block ?_ | (refine WA_skip ?_; conv => whnf) | (refine WA_exit ?_; conv => whnf) | (refine WA_ret ?_; conv => whnf) | (refine And.intro (fun h => ?_) (fun h => ?_) <;> (try simp only [brsA] at h) <;> conv => whnf) | (refine WR_fit ?_ ?_; (focus (first | exact wr_i64 (by omega) | exact wr_u64 (by omega) | exact wr_u8 (by omega) | exact wr_i32 (by omega) | exact wr_u32 (by omega))); conv => whnf) | (refine WR_wrap ?_; conv => whnf) | (refine And.intro (a := indepB _ _ = true) ?_ ?_; (focus kernel_rfl); conv => whnf) | (refine And.intro rfl ?_; conv => whnf) | (refine And.intro ?_ ?_; (focus (first | omega | decide | (dsimp only; omega) | (simp at *; omega))); conv => whnf))
    all_goals first | contradiction | (exfalso; omega) | skip
    · refine (decide_eq_false fun e => ?_).symm
      subst e
      simp at h
    · refine ⟨i + 1, ⟨by omega, upto_succ he ?_⟩, (by show l.length - (i + 1) < l.length - i; omega), ?_⟩
      · rw [ei] at h
        simp only [bne_eq_false_iff_eq, Bool.or_eq_false_iff, Bool.not_eq_false', Bool.and_eq_true, beq_iff_eq, and_true] at h
        exact Prod.ext h.1 h.2
      · conv => whnf
        repeat (first | exact rfl | exact trivial | exact Or.inl (fun _ _ => rfl) | exact (fun _ => rfl) | exact (fun _ _ => rfl) | exact Or.inl (fun _ hi => absurd hi (Nat.not_lt_zero _)) | (refine And.intro rfl ?_; conv => whnf) | (refine And.intro (Or.inl (fun _ _ => rfl)) ?_; conv => whnf) | (refine And.intro (fun _ => rfl) ?_; conv => whnf) | (refine And.intro (fun _ _ => rfl) ?_; conv => whnf) | (refine And.intro ?_ ?_; rotate_left; conv => whnf))
    · exact (decide_eq_true (prs_ext (by omega) fun j hj => he j (by omega))).symm
def sameRd (i : Int) (pts : List Pr) (ws : List Int) (ow : Bool) (j : Int) (pts' : List Pr) (ws' : List Int) (ow' : Bool) : Prop := i = j ∧ ow = ow' ∧ pts = pts' ∧ ws = ws'
instance (i : Int) (pts : List Pr) (ws : List Int) (ow : Bool) (j : Int) (pts' : List Pr) (ws' : List Int) (ow' : Bool) : Decidable (sameRd i pts ws ow j pts' ws' ow') := inferInstanceAs (Decidable (_ ∧ _))
set_option maxRecDepth 100000 in
theorem sameRd_c (i : Int) (pts : List Pr) (ws : List Int) (ow : Bool) (j : Int) (pts' : List Pr) (ws' : List Int) (ow' : Bool) (hp : pts.length ≤ 1000000) (hw : ws.length ≤ 1000000) :
    ACalls Tryd.prog G 72 [.agg (rdA i pts ws ow), .agg (rdA j pts' ws' ow')] (.sb (decide (sameRd i pts ws ow j pts' ws' ow'))) := by
  have c1 := equalP_c (G := G) pts pts' hp
  have c2 := equalI_c (G := G) ws ws' hw
  unfold sameRd
  refine ACalls.of_WA ttok Tryd.func72 rfl rfl _ rfl ?_
  conv => whnf
  repeat' (first | refine WA_seq ?_ | (refine WA_region ttok ?_; conv => whnf) | (refine WA_draw ttok mixed ?_; conv => whnf) | (refine WA_cond ?_; conv => whnf) | refine WA_block ?_ | (refine WA_skip ?_; conv => whnf) | (refine WA_exit ?_; conv => whnf) | (refine WA_ret ?_; conv => whnf) | (refine And.intro (fun h => ?_) (fun h => ?_) <;> (try simp only [brsA] at h) <;> conv => whnf) | (refine Or.inl ?_; (conv => whnf); refine Exists.intro _ (And.intro (c1) ?_); conv => whnf) | (refine Or.inr (Or.inr (Or.inl ?_)); (conv => whnf); refine Exists.intro _ (And.intro (c1) ?_); conv => whnf) | (refine Exists.intro _ (And.intro (c1) ?_); conv => whnf) | (refine Or.inl ?_; (conv => whnf); refine Exists.intro _ (And.intro (c2) ?_); conv => whnf) | (refine Or.inr (Or.inr (Or.inl ?_)); (conv => whnf); refine Exists.intro _ (And.intro (c2) ?_); conv => whnf) | (refine Exists.intro _ (And.intro (c2) ?_); conv => whnf) | (refine WR_fit ?_ ?_; (focus (first | exact wr_i64 (by omega) | exact wr_u64 (by omega) | exact wr_u8 (by omega) | exact wr_i32 (by omega) | exact wr_u32 (by omega))); conv => whnf) | (refine WR_wrap ?_; conv => whnf) | (refine And.intro (a := indepB _ _ = true) ?_ ?_; (focus kernel_rfl); conv => whnf) | (refine And.intro rfl ?_; conv => whnf) | (refine And.intro ?_ ?_; (focus (first | omega | decide | (dsimp only; omega) | (simp at *; omega))); conv => whnf))
  all_goals (rw [Bool.eq_iff_iff]; simp_all)
set_option maxRecDepth 100000 in
set_option maxHeartbeats 2000000 in
theorem vsame_c (c d : Cm) (hp : c.pts.length ≤ 1000000) (hw : c.ws.length ≤ 1000000) : ACalls Tryd.prog G 38 [.agg (cmA c), .agg (cmA d)] (.sb (decide (c = d))) := by
  have c1 := sameRd_c (G := G) c.rid c.pts c.ws c.ow d.rid d.pts d.ws d.ow hp hw
  have hex : c = d ↔ (c.k = d.k ∧ sameRd c.rid c.pts c.ws c.ow d.rid d.pts d.ws d.ow ∧ c.id = d.id ∧ (c.bf = d.bf ∧ c.bt = d.bt ∧ c.bo = d.bo) ∧ (c.p.1 = d.p.1 ∧ c.p.2 = d.p.2) ∧ (c.q.1 = d.q.1 ∧ c.q.2 = d.q.2)) := by
    obtain ⟨_, _, _, _, _, _, _, _, _, ⟨_, _⟩, ⟨_, _⟩⟩ := c
    obtain ⟨_, _, _, _, _, _, _, _, _, ⟨_, _⟩, ⟨_, _⟩⟩ := d
    unfold sameRd
    simp only [Cm.mk.injEq, Prod.mk.injEq]
    constructor
    · rintro ⟨a1, a2, a3, a4, a5, a6, a7, a8, a9, a10, a11⟩; exact ⟨a1, ⟨a2, a5, a3, a4⟩, a6, ⟨a7, a8, a9⟩, a10, a11⟩
    · rintro ⟨a1, ⟨a2, a5, a3, a4⟩, a6, ⟨a7, a8, a9⟩, a10, a11⟩; exact ⟨a1, a2, a3, a4, a5, a6, a7, a8, a9, a10, a11⟩
  generalize hS : decide (sameRd c.rid c.pts c.ws c.ow d.rid d.pts d.ws d.ow) = S at *
  have hR : decide (c = d) = true ↔ (c.k = d.k ∧ S = true ∧ c.id = d.id ∧ (c.bf = d.bf ∧ c.bt = d.bt ∧ c.bo = d.bo) ∧ (c.p.1 = d.p.1 ∧ c.p.2 = d.p.2) ∧ (c.q.1 = d.q.1 ∧ c.q.2 = d.q.2)) := by
    rw [decide_eq_true_iff, hex, ← hS, decide_eq_true_iff]
  generalize decide (c = d) = R at *
  clear hex hS
  refine ACalls.of_WA ttok Tryd.func38 rfl rfl _ rfl ?_
  conv => whnf
  repeat' (first | refine WA_seq ?_ | (refine WA_region ttok ?_; conv => whnf) | (refine WA_draw ttok mixed ?_; conv => whnf) | (refine WA_cond ?_; conv => whnf) | refine WA_block ?_ | (refine WA_skip ?_; conv => whnf) | (refine WA_exit ?_; conv => whnf) | (refine WA_ret ?_; conv => whnf) | (refine And.intro (fun h => ?_) (fun h => ?_) <;> (try simp only [brsA] at h) <;> conv => whnf) | (refine Or.inl ?_; (conv => whnf); refine Exists.intro _ (And.intro (c1) ?_); conv => whnf) | (refine Or.inr (Or.inr (Or.inl ?_)); (conv => whnf); refine Exists.intro _ (And.intro (c1) ?_); conv => whnf) | (refine Exists.intro _ (And.intro (c1) ?_); conv => whnf) | (refine WR_fit ?_ ?_; (focus (first | exact wr_i64 (by omega) | exact wr_u64 (by omega) | exact wr_u8 (by omega) | exact wr_i32 (by omega) | exact wr_u32 (by omega))); conv => whnf) | (refine WR_wrap ?_; conv => whnf) | (refine And.intro (a := indepB _ _ = true) ?_ ?_; (focus kernel_rfl); conv => whnf) | (refine And.intro rfl ?_; conv => whnf) | (refine And.intro ?_ ?_; (focus (first | omega | decide | (dsimp only; omega) | (simp at *; omega))); conv => whnf))
  all_goals (rw [Bool.eq_iff_iff, hR]; simp_all)
set_option maxRecDepth 100000 in
set_option maxHeartbeats 2000000 in
theorem rone_c (i : Int) (pts : List Pr) (ws : List Int) (ow : Bool) (j : Int) (pts' : List Pr) (ws' : List Int) (ow' : Bool) (hp : pts.length ≤ 1000000) (hw : ws.length ≤ 1000000) :
    ACalls Tryd.prog G 65 [.agg (rdA i pts ws ow), .agg (rdA j pts' ws' ow')] (.sb (decide (sameRd i pts ws ow j pts' ws' ow'))) := by
  unfold sameRd
  refine ACalls.of_WA ttok Tryd.func65 rfl rfl _ rfl ?_
  conv => whnf
  repeat' (first | refine WA_seq ?_ | (refine WA_region ttok ?_; conv => whnf) | (refine WA_draw ttok mixed ?_; conv => whnf) | (refine WA_cond ?_; conv => whnf) | refine WA_block ?_ | (refine WA_skip ?_; conv => whnf) | (refine WA_exit ?_; conv => whnf) | (refine WA_ret ?_; conv => whnf) | (refine And.intro (fun h => ?_) (fun h => ?_) <;> (try simp only [brsA] at h) <;> conv => whnf) | (refine WR_fit ?_ ?_; (focus (first | exact wr_i64 (by omega) | exact wr_u64 (by omega) | exact wr_u8 (by omega) | exact wr_i32 (by omega) | exact wr_u32 (by omega))); conv => whnf) | (refine WR_wrap ?_; conv => whnf) | (refine And.intro (a := indepB _ _ = true) ?_ ?_; (focus kernel_rfl); conv => whnf) | (refine And.intro rfl ?_; conv => whnf) | (refine And.intro ?_ ?_; (focus (first | omega | decide | (dsimp only; omega) | (simp at *; omega))); conv => whnf))
  all_goals first | (refine (decide_eq_false fun q => ?_).symm; obtain ⟨q1, q2, q3, q4⟩ := q; subst q1 q2 q3 q4; first | contradiction | exact absurd rfl (by assumption) | (simp_all; done)) | skip
  refine WA_loopI (fun i : Nat => i ≤ pts.length ∧ ∀ j, j < i → pts.getD j (0, 0) = pts'.getD j (0, 0)) (fun i => [(5, .int .i64 (i : Int))]) (fun _ => [.box 50 (rdA i pts ws ow), .box 50 (rdA j pts' ws' ow')]) (fun i => pts.length - i) 0 ⟨by omega, fun j hj => absurd hj (by omega)⟩ ?_ ?_
  · conv => whnf
    repeat (first | exact rfl | exact trivial | exact Or.inl (fun _ _ => rfl) | exact (fun _ => rfl) | exact (fun _ _ => rfl) | exact Or.inl (fun _ hi => absurd hi (Nat.not_lt_zero _)) | (refine And.intro rfl ?_; conv => whnf) | (refine And.intro (Or.inl (fun _ _ => rfl)) ?_; conv => whnf) | (refine And.intro (fun _ => rfl) ?_; conv => whnf) | (refine And.intro (fun _ _ => rfl) ?_; conv => whnf) | (refine And.intro ?_ ?_; rotate_left; conv => whnf))
  · rintro n ⟨hi, he⟩
    have ei : ((n : Nat) : Int).toNat = n := Int.toNat_natCast n
    conv => whnf
    repeat' (first | refine WA_seq ?_ | (refine WA_region ttok ?_; conv => whnf) | (refine WA_draw ttok mixed ?_; conv => whnf) | (refine WA_cond ?_; conv => whnf) | refine WA_block ?_ | (refine WA_skip ?_; conv => whnf) | (refine WA_exit ?_; conv => whnf) | (refine WA_ret ?_; conv => whnf) | (refine And.intro (fun h => ?_) (fun h => ?_) <;> (try simp only [brsA] at h) <;> conv => whnf) | (refine WR_fit ?_ ?_; (focus (first | exact wr_i64 (by omega) | exact wr_u64 (by omega) | exact wr_u8 (by omega) | exact wr_i32 (by omega) | exact wr_u32 (by omega))); conv => whnf) | (refine WR_wrap ?_; conv => whnf) | (refine And.intro (a := indepB _ _ = true) ?_ ?_; (focus kernel_rfl); conv => whnf) | (refine And.intro rfl ?_; conv => whnf) | (refine And.intro ?_ ?_; (focus (first | omega | decide | (dsimp only; omega) | (simp at *; omega))); conv => whnf))
    all_goals first | contradiction | (exfalso; omega) | skip
    · refine (decide_eq_false fun q => ?_).symm
      obtain ⟨q1, q2, q3, q4⟩ := q
      subst q3
      simp at h
    · refine ⟨n + 1, ⟨by omega, upto_succ he ?_⟩, (by show pts.length - (n + 1) < pts.length - n; omega), ?_⟩
      · rw [ei] at h
        simp only [bne_eq_false_iff_eq, Bool.or_eq_false_iff, Bool.not_eq_false', Bool.and_eq_true, beq_iff_eq, and_true] at h
        exact Prod.ext h.1 h.2
      · conv => whnf
        repeat (first | exact rfl | exact trivial | exact Or.inl (fun _ _ => rfl) | exact (fun _ => rfl) | exact (fun _ _ => rfl) | exact Or.inl (fun _ hi => absurd hi (Nat.not_lt_zero _)) | (refine And.intro rfl ?_; conv => whnf) | (refine And.intro (Or.inl (fun _ _ => rfl)) ?_; conv => whnf) | (refine And.intro (fun _ => rfl) ?_; conv => whnf) | (refine And.intro (fun _ _ => rfl) ?_; conv => whnf) | (refine And.intro ?_ ?_; rotate_left; conv => whnf))
    · have hP : pts = pts' := prs_ext (by omega) fun j hj => he j (by omega)
      refine WA_loopI (fun n : Nat => n ≤ ws.length ∧ ∀ j, j < n → ws.getD j 0 = ws'.getD j 0) (fun n => [(6, .int .i64 (n : Int))]) (fun _ => [.box 50 (rdA i pts ws ow), .box 50 (rdA j pts' ws' ow')]) (fun n => ws.length - n) 0 ⟨by omega, fun j hj => absurd hj (by omega)⟩ ?_ ?_
      · conv => whnf
        repeat (first | exact rfl | exact trivial | exact Or.inl (fun _ _ => rfl) | exact (fun _ => rfl) | exact (fun _ _ => rfl) | exact Or.inl (fun _ hi => absurd hi (Nat.not_lt_zero _)) | (refine And.intro rfl ?_; conv => whnf) | (refine And.intro (Or.inl (fun _ _ => rfl)) ?_; conv => whnf) | (refine And.intro (fun _ => rfl) ?_; conv => whnf) | (refine And.intro (fun _ _ => rfl) ?_; conv => whnf) | (refine And.intro ?_ ?_; rotate_left; conv => whnf))
      · rintro k ⟨hk, hke⟩
        have ek : ((k : Nat) : Int).toNat = k := Int.toNat_natCast k
        conv => whnf
        repeat' (first | refine WA_seq ?_ | (refine WA_region ttok ?_; conv => whnf) | (refine WA_draw ttok mixed ?_; conv => whnf) | (refine WA_cond ?_; conv => whnf) | refine WA_block ?_ | (refine WA_skip ?_; conv => whnf) | (refine WA_exit ?_; conv => whnf) | (refine WA_ret ?_; conv => whnf) | (refine And.intro (fun h => ?_) (fun h => ?_) <;> (try simp only [brsA] at h) <;> conv => whnf) | (refine WR_fit ?_ ?_; (focus (first | exact wr_i64 (by omega) | exact wr_u64 (by omega) | exact wr_u8 (by omega) | exact wr_i32 (by omega) | exact wr_u32 (by omega))); conv => whnf) | (refine WR_wrap ?_; conv => whnf) | (refine And.intro (a := indepB _ _ = true) ?_ ?_; (focus kernel_rfl); conv => whnf) | (refine And.intro rfl ?_; conv => whnf) | (refine And.intro ?_ ?_; (focus (first | omega | decide | (dsimp only; omega) | (simp at *; omega))); conv => whnf))
        all_goals first | contradiction | (exfalso; omega) | skip
        · refine (decide_eq_false fun q => ?_).symm
          obtain ⟨q1, q2, q3, q4⟩ := q
          subst q4
          exact absurd rfl h
        · refine ⟨k + 1, ⟨by omega, upto_succ hke (by rw [ek] at h; exact h)⟩, (by show ws.length - (k + 1) < ws.length - k; omega), ?_⟩
          conv => whnf
          repeat (first | exact rfl | exact trivial | exact Or.inl (fun _ _ => rfl) | exact (fun _ => rfl) | exact (fun _ _ => rfl) | exact Or.inl (fun _ hi => absurd hi (Nat.not_lt_zero _)) | (refine And.intro rfl ?_; conv => whnf) | (refine And.intro (Or.inl (fun _ _ => rfl)) ?_; conv => whnf) | (refine And.intro (fun _ => rfl) ?_; conv => whnf) | (refine And.intro (fun _ _ => rfl) ?_; conv => whnf) | (refine And.intro ?_ ?_; rotate_left; conv => whnf))
        · have hW : ws = ws' := intsv_ext (by omega) fun j hj => hke j (by omega)
          exact (decide_eq_true ⟨by assumption, by assumption, hP, hW⟩).symm
set_option maxRecDepth 100000 in
set_option maxHeartbeats 2000000 in
theorem rsame_c (c d : Cm) (hp : c.pts.length ≤ 1000000) (hw : c.ws.length ≤ 1000000) : ACalls Tryd.prog G 34 [.agg (cmA c), .agg (cmA d)] (.sb (decide (c = d))) := by
  have c1 := rone_c (G := G) c.rid c.pts c.ws c.ow d.rid d.pts d.ws d.ow hp hw
  have hex : c = d ↔ (c.k = d.k ∧ sameRd c.rid c.pts c.ws c.ow d.rid d.pts d.ws d.ow ∧ c.id = d.id ∧ (c.bf = d.bf ∧ c.bt = d.bt ∧ c.bo = d.bo) ∧ (c.p.1 = d.p.1 ∧ c.p.2 = d.p.2) ∧ (c.q.1 = d.q.1 ∧ c.q.2 = d.q.2)) := by
    obtain ⟨_, _, _, _, _, _, _, _, _, ⟨_, _⟩, ⟨_, _⟩⟩ := c
    obtain ⟨_, _, _, _, _, _, _, _, _, ⟨_, _⟩, ⟨_, _⟩⟩ := d
    unfold sameRd
    simp only [Cm.mk.injEq, Prod.mk.injEq]
    constructor
    · rintro ⟨a1, a2, a3, a4, a5, a6, a7, a8, a9, a10, a11⟩; exact ⟨a1, ⟨a2, a5, a3, a4⟩, a6, ⟨a7, a8, a9⟩, a10, a11⟩
    · rintro ⟨a1, ⟨a2, a5, a3, a4⟩, a6, ⟨a7, a8, a9⟩, a10, a11⟩; exact ⟨a1, a2, a3, a4, a5, a6, a7, a8, a9, a10, a11⟩
  generalize hS : decide (sameRd c.rid c.pts c.ws c.ow d.rid d.pts d.ws d.ow) = S at *
  have hR : decide (c = d) = true ↔ (c.k = d.k ∧ S = true ∧ c.id = d.id ∧ (c.bf = d.bf ∧ c.bt = d.bt ∧ c.bo = d.bo) ∧ (c.p.1 = d.p.1 ∧ c.p.2 = d.p.2) ∧ (c.q.1 = d.q.1 ∧ c.q.2 = d.q.2)) := by
    rw [decide_eq_true_iff, hex, ← hS, decide_eq_true_iff]
  generalize decide (c = d) = R at *
  clear hex hS
  refine ACalls.of_WA ttok Tryd.func34 rfl rfl _ rfl ?_
  conv => whnf
  repeat' (first | refine WA_seq ?_ | (refine WA_region ttok ?_; conv => whnf) | (refine WA_draw ttok mixed ?_; conv => whnf) | (refine WA_cond ?_; conv => whnf) | refine WA_block ?_ | (refine WA_skip ?_; conv => whnf) | (refine WA_exit ?_; conv => whnf) | (refine WA_ret ?_; conv => whnf) | (refine And.intro (fun h => ?_) (fun h => ?_) <;> (try simp only [brsA] at h) <;> conv => whnf) | (refine Or.inl ?_; (conv => whnf); refine Exists.intro _ (And.intro (c1) ?_); conv => whnf) | (refine Or.inr (Or.inr (Or.inl ?_)); (conv => whnf); refine Exists.intro _ (And.intro (c1) ?_); conv => whnf) | (refine Exists.intro _ (And.intro (c1) ?_); conv => whnf) | (refine WR_fit ?_ ?_; (focus (first | exact wr_i64 (by omega) | exact wr_u64 (by omega) | exact wr_u8 (by omega) | exact wr_i32 (by omega) | exact wr_u32 (by omega))); conv => whnf) | (refine WR_wrap ?_; conv => whnf) | (refine And.intro (a := indepB _ _ = true) ?_ ?_; (focus kernel_rfl); conv => whnf) | (refine And.intro rfl ?_; conv => whnf) | (refine And.intro ?_ ?_; (focus (first | omega | decide | (dsimp only; omega) | (simp at *; omega))); conv => whnf))
  all_goals (rw [Bool.eq_iff_iff, hR]; simp_all)
end Go.Proofs.YtagokdeflnkplaaDoor
set_option linter.unusedSimpArgs false
namespace Go.Proofs.YtagokdeflnkplaaDoor
open Go.Proofs.YtagokdeflnkplaaDoor.Am Go.Lib
variable {G : GInv}
/-! ### Commands of numbers, numbers of commands -/
/-- The points and weights of numbers: road, point; weight, point .. -/
def rdPts (n : List Int) : List Pr := (List.range (n.length / 3)).map fun i => (n.getD (3 * i + 1) 0, n.getD (3 * i + 2) 0)
def rdWs (n : List Int) : List Int := (List.range (n.length / 3 - 1)).map fun i => n.getD (3 * i + 3) 0
theorem range_getD {α : Type} (k : Nat) (f : Nat → α) (d : α) (i : Nat) (h : i < k) : ((List.range k).map f).getD i d = f i := by
  rw [List.getD_eq_getElem?_getD, List.getElem?_map, List.getElem?_range h]; rfl
theorem rdPts_get (n : List Int) (i : Nat) (h : i < n.length / 3) : (rdPts n).getD i (0, 0) = (n.getD (3 * i + 1) 0, n.getD (3 * i + 2) 0) := range_getD _ _ _ _ h
theorem rdWs_get (n : List Int) (i : Nat) (h : i < n.length / 3 - 1) : (rdWs n).getD i 0 = n.getD (3 * i + 3) 0 := range_getD _ _ _ _ h
theorem rdPts_len (n : List Int) : (rdPts n).length = n.length / 3 := by simp [rdPts]
theorem rdWs_len (n : List Int) : (rdWs n).length = n.length / 3 - 1 := by simp [rdWs]
theorem rowCat_one (r r2 : Nat → List A) (n : Nat) (h : r2 0 = r n) (j : Nat) (hj : j < n + 1) : rowCat n r r2 j = r j := by
  unfold rowCat
  split
  · rfl
  · rename_i h'
    have h' : ¬ j < n := fun q => by rw [show Nat.blt j n = true from Nat.ble_eq_true_of_le q] at h'; cases h'
    obtain rfl : j = n := by omega
    rw [Nat.sub_self]; exact h
set_option maxRecDepth 100000 in
set_option maxHeartbeats 4000000 in
theorem road_c (n : List Int) (ow : Bool) (m : Nat) (hn : n.length = 3 * m + 3) (hm : m ≤ 1000) : ACalls Tryd.prog G 93 [intsA n, .sb ow] (.agg (rdA (n.getD 0 0) (rdPts n) (rdWs n) ow)) := by
  have e1 : n.length / 3 = m + 1 := by omega
  have hP : ∀ i, i < m + 1 → (rdPts n).getD i (0, 0) = (n.getD (3 * i + 1) 0, n.getD (3 * i + 2) 0) := fun i h => rdPts_get n i (by omega)
  have hW : ∀ i, i < m → (rdWs n).getD i 0 = n.getD (3 * i + 3) 0 := fun i h => rdWs_get n i (by omega)
  have hPl := rdPts_len n
  have hWl := rdWs_len n
  rw [e1] at hPl hWl
  have hP0 := hP 0 (by omega)
  generalize rdPts n = P at *
  generalize rdWs n = W at *
  refine ACalls.of_WA ttok Tryd.func93 rfl rfl _ rfl ?_
  conv => whnf
  repeat' (first | refine WA_seq ?_ | (refine WA_region ttok ?_; conv => whnf) | (refine WA_draw ttok mixed ?_; conv => whnf) | (refine WA_cond ?_; conv => whnf) | refine WA_block ?_ | (refine WA_skip ?_; conv => whnf) | (refine WA_exit ?_; conv => whnf) | (refine WA_ret ?_; conv => whnf) | (refine And.intro (fun h => ?_) (fun h => ?_) <;> (try simp only [brsA] at h) <;> conv => whnf) | (refine WR_fit ?_ ?_; (focus (first | exact wr_i64 (by omega) | exact wr_u64 (by omega) | exact wr_u8 (by omega) | exact wr_i32 (by omega) | exact wr_u32 (by omega))); conv => whnf) | (refine WR_wrap ?_; conv => whnf) | (refine And.intro (a := indepB _ _ = true) ?_ ?_; (focus kernel_rfl); conv => whnf) | (refine And.intro rfl ?_; conv => whnf) | (refine And.intro ?_ ?_; (focus (first | omega | decide | (dsimp only; omega) | (simp at *; omega))); conv => whnf))
  all_goals first | contradiction | (exfalso; omega) | skip
  refine WA_nilB 2 2 3 1 rfl rfl ?_
  conv => whnf
  refine WA_loopI (fun i : Nat => i ≤ m) (fun i => [(6, .sl (3 * m - 3 * i) 1 (fun j => [.int .i64 (n.getD (3 + 3 * i + j) 0)])), (18, .junk), (19, .junk)]) (fun i => [.box 50 [.int .i64 0, .nils, .nils, .bool false], .row 54 2 (i + 1) (rowR P), .box 50 [.int .i64 (n.getD 0 0), .own 1, .own 3, .sb ow], .row 3 1 i (fun j => [.int .i64 (W.getD j 0)])]) (fun i => m - i) 0 (by omega) ?_ ?_
  · conv => whnf
    repeat (first | exact rfl | exact trivial | exact Or.inl (fun _ _ => rfl) | exact (fun _ => rfl) | exact (fun _ _ => rfl) | exact Or.inl (fun _ hi => absurd hi (Nat.not_lt_zero _)) | (refine And.intro rfl ?_; conv => whnf) | (refine And.intro (Or.inl (fun _ _ => rfl)) ?_; conv => whnf) | (refine And.intro (fun _ => rfl) ?_; conv => whnf) | (refine And.intro (fun _ _ => rfl) ?_; conv => whnf) | (refine And.intro ?_ ?_; rotate_left; conv => whnf))
    · omega
    · refine Or.inl fun j hj => ?_
      obtain rfl : j = 0 := by omega
      show [A.int IntKind.i64 _, A.int IntKind.i64 _] = [A.int IntKind.i64 _, A.int IntKind.i64 _]
      rw [hP0]
      rfl
  · rintro i hi
    by_cases him : i < m
    · have hPi := hP (i + 1) (by omega)
      have hWi := hW i him
      rw [show 3 * (i + 1) + 1 = 3 + 3 * i + 1 by omega, show 3 * (i + 1) + 2 = 3 + 3 * i + 2 by omega] at hPi
      rw [show 3 * i + 3 = 3 + 3 * i + 0 by omega] at hWi
      conv => whnf
      repeat' (first | ((refine WA_renR (id := 4) 8 [0, 7, 2, 5] rfl rfl ?_; conv => whnf)) | refine WA_seq ?_ | (refine WA_region ttok ?_; conv => whnf) | (refine WA_draw ttok mixed ?_; conv => whnf) | (refine WA_cond ?_; conv => whnf) | refine WA_block ?_ | (refine WA_skip ?_; conv => whnf) | (refine WA_exit ?_; conv => whnf) | (refine WA_ret ?_; conv => whnf) | (refine And.intro (fun h => ?_) (fun h => ?_) <;> (try simp only [brsA] at h) <;> conv => whnf) | (refine WR_fit ?_ ?_; (focus (first | exact wr_i64 (by omega) | exact wr_u64 (by omega) | exact wr_u8 (by omega) | exact wr_i32 (by omega) | exact wr_u32 (by omega))); conv => whnf) | (refine WR_wrap ?_; conv => whnf) | (refine And.intro (a := indepB _ _ = true) ?_ ?_; (focus kernel_rfl); conv => whnf) | (refine And.intro rfl ?_; conv => whnf) | (refine And.intro ?_ ?_; (focus (first | omega | decide | (dsimp only; omega) | (simp at *; omega))); conv => whnf))
      all_goals first | contradiction | (exfalso; omega) | skip
      refine ⟨i + 1, (by show i + 1 ≤ m; omega), (by show m - (i + 1) < m - i; omega), ?_⟩
      conv => whnf
      repeat (first | exact rfl | exact trivial | exact Or.inl (fun _ _ => rfl) | exact (fun _ => rfl) | exact (fun _ _ => rfl) | exact Or.inl (fun _ hi => absurd hi (Nat.not_lt_zero _)) | (refine And.intro rfl ?_; conv => whnf) | (refine And.intro (Or.inl (fun _ _ => rfl)) ?_; conv => whnf) | (refine And.intro (fun _ => rfl) ?_; conv => whnf) | (refine And.intro (fun _ _ => rfl) ?_; conv => whnf) | (refine And.intro ?_ ?_; rotate_left; conv => whnf))
      · exact Or.inl fun j hj => rowCat_one (fun j => [A.int IntKind.i64 (W.getD j 0)]) _ i (by show [A.int IntKind.i64 _] = [A.int IntKind.i64 _]; rw [hWi]; rfl) j hj
      · refine Or.inl fun j _ => ?_
        show [A.int IntKind.i64 _] = [A.int IntKind.i64 _]
        rw [show 3 + 3 * (i + 1) + j = 3 + 3 * i + (Int.toNat 3 + j) by rw [show Int.toNat 3 = 3 from rfl]; omega]
      · exact Or.inl fun j hj => rowCat_one (rowR P) _ (i + 1) (by show [A.int IntKind.i64 _, A.int IntKind.i64 _] = [A.int IntKind.i64 _, A.int IntKind.i64 _]; rw [hPi]; rfl) j hj
    · conv => whnf
      repeat' (first | refine WA_seq ?_ | (refine WA_region ttok ?_; conv => whnf) | (refine WA_draw ttok mixed ?_; conv => whnf) | (refine WA_cond ?_; conv => whnf) | refine WA_block ?_ | (refine WA_skip ?_; conv => whnf) | (refine WA_exit ?_; conv => whnf) | (refine WA_ret ?_; conv => whnf) | (refine And.intro (fun h => ?_) (fun h => ?_) <;> (try simp only [brsA] at h) <;> conv => whnf) | (refine WR_fit ?_ ?_; (focus (first | exact wr_i64 (by omega) | exact wr_u64 (by omega) | exact wr_u8 (by omega) | exact wr_i32 (by omega) | exact wr_u32 (by omega))); conv => whnf) | (refine WR_wrap ?_; conv => whnf) | (refine And.intro (a := indepB _ _ = true) ?_ ?_; (focus kernel_rfl); conv => whnf) | (refine And.intro rfl ?_; conv => whnf) | (refine And.intro ?_ ?_; (focus (first | omega | decide | (dsimp only; omega) | (simp at *; omega))); conv => whnf))
      all_goals first | contradiction | (exfalso; omega) | skip
      obtain rfl : i = m := by omega
      refine ⟨Or.inl fun _ _ => rfl, ?_⟩
      conv => whnf
      exact ⟨by omega, Or.inl fun _ _ => rfl, rfl⟩
end Go.Proofs.YtagokdeflnkplaaDoor
set_option linter.unusedSimpArgs false
namespace Go.Proofs.YtagokdeflnkplaaDoor
open Go.Proofs.YtagokdeflnkplaaDoor.Am Go.Lib
variable {G : GInv}
def madeC (k : Int) (b : Bool) (n : List Int) : Cm :=
  if k = 1 then ⟨k, n.getD 0 0, rdPts n, rdWs n, b, 0, 0, 0, false, (0, 0), (0, 0)⟩ else
  if k = 4 ∨ k = 5 then ⟨k, 0, [], [], false, 0, n.getD 0 0, n.getD 1 0, b, (0, 0), (0, 0)⟩ else
  if k = 9 ∨ k = 10 then ⟨k, 0, [], [], false, 0, 0, 0, false, (n.getD 0 0, n.getD 1 0), (n.getD 2 0, n.getD 3 0)⟩ else
  if k = 8 then ⟨k, 0, [], [], false, 0, 0, 0, false, (n.getD 0 0, n.getD 1 0), (0, 0)⟩ else
  if k = 2 ∨ k = 6 ∨ k = 11 ∨ k = 12 then ⟨k, 0, [], [], false, n.getD 0 0, 0, 0, false, (0, 0), (0, 0)⟩ else
  ⟨k, 0, [], [], false, 0, 0, 0, false, (0, 0), (0, 0)⟩
/-- As many numbers as the kind takes. -/
def fitN (k : Int) (l : Nat) : Prop := if k = 1 then ∃ m, l = 3 * m + 3 ∧ m ≤ 1000 else (l : Int) = manyN k
set_option maxRecDepth 100000 in
set_option maxHeartbeats 4000000 in
theorem made_c (k : Int) (b : Bool) (n : List Int) (hf : fitN k n.length) : ACalls Tryd.prog G 63 [.int .i64 k, .sb b, intsA n] (.agg (cmA (madeC k b n))) := by
  unfold fitN at hf
  by_cases h1 : k = 1
  · subst h1
    rw [if_pos rfl] at hf
    obtain ⟨m, hm, hm2⟩ := hf
    have hr := road_c (G := G) n b m hm hm2
    refine ACalls.of_WA ttok Tryd.func63 rfl rfl _ rfl ?_
    conv => whnf
    repeat' (first | refine WA_seq ?_ | (refine WA_region ttok ?_; conv => whnf) | (refine WA_draw ttok mixed ?_; conv => whnf) | (refine WA_cond ?_; conv => whnf) | refine WA_block ?_ | (refine WA_skip ?_; conv => whnf) | (refine WA_exit ?_; conv => whnf) | (refine WA_ret ?_; conv => whnf) | (refine And.intro (fun h => ?_) (fun h => ?_) <;> (try simp only [brsA] at h) <;> conv => whnf) | (refine Or.inl ?_; (conv => whnf); refine Exists.intro _ (And.intro (hr) ?_); conv => whnf) | (refine Or.inr (Or.inr (Or.inl ?_)); (conv => whnf); refine Exists.intro _ (And.intro (hr) ?_); conv => whnf) | (refine Exists.intro _ (And.intro (hr) ?_); conv => whnf) | (refine WR_fit ?_ ?_; (focus (first | exact wr_i64 (by omega) | exact wr_u64 (by omega) | exact wr_u8 (by omega) | exact wr_i32 (by omega) | exact wr_u32 (by omega))); conv => whnf) | (refine WR_wrap ?_; conv => whnf) | (refine And.intro (a := indepB _ _ = true) ?_ ?_; (focus kernel_rfl); conv => whnf) | (refine And.intro rfl ?_; conv => whnf) | (refine And.intro ?_ ?_; (focus (first | omega | decide | (dsimp only; omega) | (simp at *; omega))); conv => whnf))
    all_goals first | contradiction | (exfalso; omega) | skip
    refine ⟨Or.inl fun _ _ => rfl, ?_⟩
    conv => whnf
    repeat (first | exact rfl | exact trivial | exact Or.inl (fun _ _ => rfl) | exact (fun _ => rfl) | exact (fun _ _ => rfl) | exact Or.inl (fun _ hi => absurd hi (Nat.not_lt_zero _)) | (refine And.intro rfl ?_; conv => whnf) | (refine And.intro (Or.inl (fun _ _ => rfl)) ?_; conv => whnf) | (refine And.intro (fun _ => rfl) ?_; conv => whnf) | (refine And.intro (fun _ _ => rfl) ?_; conv => whnf) | (refine And.intro ?_ ?_; rotate_left; conv => whnf))
  · rw [if_neg h1] at hf
    unfold manyN at hf
    unfold madeC
    rw [if_neg h1]
    by_cases h4 : k = 4 ∨ k = 5
    · rw [if_pos h4]
      rw [if_neg (by omega), if_pos (by omega)] at hf
      refine ACalls.of_WA ttok Tryd.func63 rfl rfl _ rfl ?_
      conv => whnf
      repeat' (first | refine WA_seq ?_ | (refine WA_region ttok ?_; conv => whnf) | (refine WA_draw ttok mixed ?_; conv => whnf) | (refine WA_cond ?_; conv => whnf) | refine WA_block ?_ | (refine WA_skip ?_; conv => whnf) | (refine WA_exit ?_; conv => whnf) | (refine WA_ret ?_; conv => whnf) | (refine And.intro (fun h => ?_) (fun h => ?_) <;> (try simp only [brsA] at h) <;> conv => whnf) | (refine WR_fit ?_ ?_; (focus (first | exact wr_i64 (by omega) | exact wr_u64 (by omega) | exact wr_u8 (by omega) | exact wr_i32 (by omega) | exact wr_u32 (by omega))); conv => whnf) | (refine WR_wrap ?_; conv => whnf) | (refine And.intro (a := indepB _ _ = true) ?_ ?_; (focus kernel_rfl); conv => whnf) | (refine And.intro rfl ?_; conv => whnf) | (refine And.intro ?_ ?_; (focus (first | omega | decide | (dsimp only; omega) | (simp at *; omega))); conv => whnf))
      all_goals first | contradiction | (exfalso; omega) | skip
    · rw [if_neg h4]
      by_cases h9 : k = 9 ∨ k = 10
      · rw [if_pos h9]
        rw [if_neg (by omega), if_neg (by omega), if_pos (by omega)] at hf
        refine ACalls.of_WA ttok Tryd.func63 rfl rfl _ rfl ?_
        conv => whnf
        repeat' (first | refine WA_seq ?_ | (refine WA_region ttok ?_; conv => whnf) | (refine WA_draw ttok mixed ?_; conv => whnf) | (refine WA_cond ?_; conv => whnf) | refine WA_block ?_ | (refine WA_skip ?_; conv => whnf) | (refine WA_exit ?_; conv => whnf) | (refine WA_ret ?_; conv => whnf) | (refine And.intro (fun h => ?_) (fun h => ?_) <;> (try simp only [brsA] at h) <;> conv => whnf) | (refine WR_fit ?_ ?_; (focus (first | exact wr_i64 (by omega) | exact wr_u64 (by omega) | exact wr_u8 (by omega) | exact wr_i32 (by omega) | exact wr_u32 (by omega))); conv => whnf) | (refine WR_wrap ?_; conv => whnf) | (refine And.intro (a := indepB _ _ = true) ?_ ?_; (focus kernel_rfl); conv => whnf) | (refine And.intro rfl ?_; conv => whnf) | (refine And.intro ?_ ?_; (focus (first | omega | decide | (dsimp only; omega) | (simp at *; omega))); conv => whnf))
        all_goals first | contradiction | (exfalso; omega) | skip
        all_goals rfl
      · rw [if_neg h9]
        by_cases h8 : k = 8
        · rw [if_pos h8]
          rw [if_neg (by omega), if_pos (by omega)] at hf
          refine ACalls.of_WA ttok Tryd.func63 rfl rfl _ rfl ?_
          conv => whnf
          repeat' (first | refine WA_seq ?_ | (refine WA_region ttok ?_; conv => whnf) | (refine WA_draw ttok mixed ?_; conv => whnf) | (refine WA_cond ?_; conv => whnf) | refine WA_block ?_ | (refine WA_skip ?_; conv => whnf) | (refine WA_exit ?_; conv => whnf) | (refine WA_ret ?_; conv => whnf) | (refine And.intro (fun h => ?_) (fun h => ?_) <;> (try simp only [brsA] at h) <;> conv => whnf) | (refine WR_fit ?_ ?_; (focus (first | exact wr_i64 (by omega) | exact wr_u64 (by omega) | exact wr_u8 (by omega) | exact wr_i32 (by omega) | exact wr_u32 (by omega))); conv => whnf) | (refine WR_wrap ?_; conv => whnf) | (refine And.intro (a := indepB _ _ = true) ?_ ?_; (focus kernel_rfl); conv => whnf) | (refine And.intro rfl ?_; conv => whnf) | (refine And.intro ?_ ?_; (focus (first | omega | decide | (dsimp only; omega) | (simp at *; omega))); conv => whnf))
          all_goals first | contradiction | (exfalso; omega) | skip
        · rw [if_neg h8]
          by_cases h2 : k = 2 ∨ k = 6 ∨ k = 11 ∨ k = 12
          · rw [if_pos h2]
            rw [if_pos (by omega)] at hf
            refine ACalls.of_WA ttok Tryd.func63 rfl rfl _ rfl ?_
            conv => whnf
            repeat' (first | refine WA_seq ?_ | (refine WA_region ttok ?_; conv => whnf) | (refine WA_draw ttok mixed ?_; conv => whnf) | (refine WA_cond ?_; conv => whnf) | refine WA_block ?_ | (refine WA_skip ?_; conv => whnf) | (refine WA_exit ?_; conv => whnf) | (refine WA_ret ?_; conv => whnf) | (refine And.intro (fun h => ?_) (fun h => ?_) <;> (try simp only [brsA] at h) <;> conv => whnf) | (refine WR_fit ?_ ?_; (focus (first | exact wr_i64 (by omega) | exact wr_u64 (by omega) | exact wr_u8 (by omega) | exact wr_i32 (by omega) | exact wr_u32 (by omega))); conv => whnf) | (refine WR_wrap ?_; conv => whnf) | (refine And.intro (a := indepB _ _ = true) ?_ ?_; (focus kernel_rfl); conv => whnf) | (refine And.intro rfl ?_; conv => whnf) | (refine And.intro ?_ ?_; (focus (first | omega | decide | (dsimp only; omega) | (simp at *; omega))); conv => whnf))
            all_goals first | contradiction | (exfalso; omega) | skip
          · rw [if_neg h2]
            refine ACalls.of_WA ttok Tryd.func63 rfl rfl _ rfl ?_
            conv => whnf
            repeat' (first | refine WA_seq ?_ | (refine WA_region ttok ?_; conv => whnf) | (refine WA_draw ttok mixed ?_; conv => whnf) | (refine WA_cond ?_; conv => whnf) | refine WA_block ?_ | (refine WA_skip ?_; conv => whnf) | (refine WA_exit ?_; conv => whnf) | (refine WA_ret ?_; conv => whnf) | (refine And.intro (fun h => ?_) (fun h => ?_) <;> (try simp only [brsA] at h) <;> conv => whnf) | (refine WR_fit ?_ ?_; (focus (first | exact wr_i64 (by omega) | exact wr_u64 (by omega) | exact wr_u8 (by omega) | exact wr_i32 (by omega) | exact wr_u32 (by omega))); conv => whnf) | (refine WR_wrap ?_; conv => whnf) | (refine And.intro (a := indepB _ _ = true) ?_ ?_; (focus kernel_rfl); conv => whnf) | (refine And.intro rfl ?_; conv => whnf) | (refine And.intro ?_ ?_; (focus (first | omega | decide | (dsimp only; omega) | (simp at *; omega))); conv => whnf))
            all_goals first | contradiction | (exfalso; omega) | skip
end Go.Proofs.YtagokdeflnkplaaDoor
set_option linter.unusedSimpArgs false
namespace Go.Proofs.YtagokdeflnkplaaDoor
open Go.Proofs.YtagokdeflnkplaaDoor.Am Go.Lib
variable {G : GInv}
theorem rowCat_many (r r2 : Nat → List A) (n k : Nat) (h : ∀ j, j < k → r2 j = r (n + j)) (j : Nat) (hj : j < n + k) : rowCat n r r2 j = r j := by
  unfold rowCat
  split
  · rfl
  · rename_i h'
    have h' : ¬ j < n := fun q => by rw [show Nat.blt j n = true from Nat.ble_eq_true_of_le q] at h'; cases h'
    rw [h (j - n) (by omega), show n + (j - n) = j by omega]
/-- A road as numbers. -/
def allR (rid : Int) (pts : List Pr) (ws : List Int) (j : Nat) : Int :=
  if j % 3 = 1 then (pts.getD (j / 3) (0, 0)).1 else if j % 3 = 2 then (pts.getD (j / 3) (0, 0)).2 else if j = 0 then rid else ws.getD (j / 3 - 1) 0
def allL (c : Cm) : List Int :=
  if c.k = 1 then (List.range (3 * c.ws.length + 3)).map (allR c.rid c.pts c.ws) else
  if c.k = 4 ∨ c.k = 5 then [c.bf, c.bt] else
  if c.k = 8 then [c.p.1, c.p.2] else
  if c.k = 9 ∨ c.k = 10 then [c.p.1, c.p.2, c.q.1, c.q.2] else
  if c.k = 2 ∨ c.k = 6 ∨ c.k = 11 ∨ c.k = 12 then [c.id] else []
theorem allR_at (rid : Int) (pts : List Pr) (ws : List Int) (i : Nat) : allR rid pts ws (3 * i + 1) = (pts.getD i (0, 0)).1 ∧ allR rid pts ws (3 * i + 2) = (pts.getD i (0, 0)).2 ∧ allR rid pts ws (3 * i + 3) = ws.getD i 0 ∧ allR rid pts ws 0 = rid := by
  unfold allR
  refine ⟨?_, ?_, ?_, rfl⟩
  · rw [if_pos (by omega), show (3 * i + 1) / 3 = i by omega]
  · rw [if_neg (by omega), if_pos (by omega), show (3 * i + 2) / 3 = i by omega]
  · rw [if_neg (by omega), if_neg (by omega), if_neg (by omega), show (3 * i + 3) / 3 - 1 = i by omega]
set_option maxRecDepth 100000 in
set_option maxHeartbeats 4000000 in
theorem vall_1 (c : Cm) (hk : c.k = 1) (hl : c.pts.length = c.ws.length + 1) (hm : c.ws.length ≤ 1000) : ACalls Tryd.prog G 66 [.agg (cmA c)] (intsA (allL c)) := by
  unfold allL
  rw [if_pos hk]
  have hL : ((List.range (3 * c.ws.length + 3)).map (allR c.rid c.pts c.ws)).length = 3 * c.ws.length + 3 := by simp
  have hg : ∀ j, j < 3 * c.ws.length + 3 → ((List.range (3 * c.ws.length + 3)).map (allR c.rid c.pts c.ws)).getD j 0 = allR c.rid c.pts c.ws j := fun j h => range_getD _ _ _ _ h
  generalize (List.range (3 * c.ws.length + 3)).map (allR c.rid c.pts c.ws) = L at *
  obtain ⟨k, rid, pts, ws, ow, id, bf, bt, bo, p, q⟩ := c
  dsimp only at *
  subst hk
  have ha := allR_at rid pts ws
  have e0 := (hg 0 (by omega)).trans (ha 0).2.2.2
  have e1 := (hg 1 (by omega)).trans (ha 0).1
  have e2 := (hg 2 (by omega)).trans (ha 0).2.1
  refine ACalls.of_WA ttok Tryd.func66 rfl rfl _ rfl ?_
  conv => whnf
  repeat' (first | refine WA_seq ?_ | (refine WA_region ttok ?_; conv => whnf) | (refine WA_draw ttok mixed ?_; conv => whnf) | (refine WA_cond ?_; conv => whnf) | refine WA_block ?_ | (refine WA_skip ?_; conv => whnf) | (refine WA_exit ?_; conv => whnf) | (refine WA_ret ?_; conv => whnf) | (refine And.intro (fun h => ?_) (fun h => ?_) <;> (try simp only [brsA] at h) <;> conv => whnf) | (refine WR_fit ?_ ?_; (focus (first | exact wr_i64 (by omega) | exact wr_u64 (by omega) | exact wr_u8 (by omega) | exact wr_i32 (by omega) | exact wr_u32 (by omega))); conv => whnf) | (refine WR_wrap ?_; conv => whnf) | (refine And.intro (a := indepB _ _ = true) ?_ ?_; (focus kernel_rfl); conv => whnf) | (refine And.intro rfl ?_; conv => whnf) | (refine And.intro ?_ ?_; (focus (first | omega | decide | (dsimp only; omega) | (simp at *; omega))); conv => whnf))
  all_goals first | contradiction | (exfalso; omega) | skip
  refine WA_loopI (fun i : Nat => i ≤ ws.length) (fun i => [(30, .int .i64 (i : Int)), (4, .junk), (5, .junk), (3, .own 1), (25, .junk)]) (fun i => [.box 56 (cmA ⟨1, rid, pts, ws, ow, id, bf, bt, bo, p, q⟩), .row 3 1 (3 + 3 * i) (fun j => [.int .i64 (L.getD j 0)])]) (fun i => ws.length - i) 0 (by omega) ?_ ?_
  · conv => whnf
    repeat (first | exact rfl | exact trivial | exact Or.inl (fun _ _ => rfl) | exact (fun _ => rfl) | exact (fun _ _ => rfl) | exact Or.inl (fun _ hi => absurd hi (Nat.not_lt_zero _)) | (refine And.intro rfl ?_; conv => whnf) | (refine And.intro (Or.inl (fun _ _ => rfl)) ?_; conv => whnf) | (refine And.intro (fun _ => rfl) ?_; conv => whnf) | (refine And.intro (fun _ _ => rfl) ?_; conv => whnf) | (refine And.intro ?_ ?_; rotate_left; conv => whnf))
    refine Or.inl fun j hj => ?_
    have hj3 : j = 0 ∨ j = 1 ∨ j = 2 := by omega
    rcases hj3 with rfl | rfl | rfl
    · show [A.int IntKind.i64 _] = [A.int IntKind.i64 (L.getD 0 0)]
      rw [e0]
    · show [A.int IntKind.i64 _] = [A.int IntKind.i64 (L.getD 1 0)]
      rw [e1]; rfl
    · show [A.int IntKind.i64 _] = [A.int IntKind.i64 (L.getD 2 0)]
      rw [e2]; rfl
  · rintro i hi
    by_cases him : i < ws.length
    · have e3 := (hg (3 + 3 * i) (by omega))
      have e4 := (hg (3 + 3 * i + 1) (by omega))
      have e5 := (hg (3 + 3 * i + 2) (by omega))
      rw [show 3 + 3 * i = 3 * i + 3 by omega, (ha i).2.2.1] at e3
      rw [show 3 + 3 * i + 1 = 3 * (i + 1) + 1 by omega, (ha (i + 1)).1] at e4
      rw [show 3 + 3 * i + 2 = 3 * (i + 1) + 2 by omega, (ha (i + 1)).2.1] at e5
      conv => whnf
      repeat' (first | ((refine WA_renR (id := 8) 4 [0, 3] rfl rfl ?_; conv => whnf)) | refine WA_seq ?_ | (refine WA_region ttok ?_; conv => whnf) | (refine WA_draw ttok mixed ?_; conv => whnf) | (refine WA_cond ?_; conv => whnf) | refine WA_block ?_ | (refine WA_skip ?_; conv => whnf) | (refine WA_exit ?_; conv => whnf) | (refine WA_ret ?_; conv => whnf) | (refine And.intro (fun h => ?_) (fun h => ?_) <;> (try simp only [brsA] at h) <;> conv => whnf) | (refine WR_fit ?_ ?_; (focus (first | exact wr_i64 (by omega) | exact wr_u64 (by omega) | exact wr_u8 (by omega) | exact wr_i32 (by omega) | exact wr_u32 (by omega))); conv => whnf) | (refine WR_wrap ?_; conv => whnf) | (refine And.intro (a := indepB _ _ = true) ?_ ?_; (focus kernel_rfl); conv => whnf) | (refine And.intro rfl ?_; conv => whnf) | (refine And.intro ?_ ?_; (focus (first | omega | decide | (dsimp only; omega) | (simp at *; omega))); conv => whnf))
      all_goals first | contradiction | (exfalso; omega) | skip
      refine ⟨i + 1, (by show i + 1 ≤ ws.length; omega), (by show ws.length - (i + 1) < ws.length - i; omega), ?_⟩
      conv => whnf
      repeat (first | exact rfl | exact trivial | exact Or.inl (fun _ _ => rfl) | exact (fun _ => rfl) | exact (fun _ _ => rfl) | exact Or.inl (fun _ hi => absurd hi (Nat.not_lt_zero _)) | (refine And.intro rfl ?_; conv => whnf) | (refine And.intro (Or.inl (fun _ _ => rfl)) ?_; conv => whnf) | (refine And.intro (fun _ => rfl) ?_; conv => whnf) | (refine And.intro (fun _ _ => rfl) ?_; conv => whnf) | (refine And.intro ?_ ?_; rotate_left; conv => whnf))
      refine Or.inl fun j hj => rowCat_many (fun j => [A.int IntKind.i64 (L.getD j 0)]) _ (3 + 3 * i) 3 (fun t ht => ?_) j hj
      have ht3 : t = 0 ∨ t = 1 ∨ t = 2 := by omega
      rcases ht3 with rfl | rfl | rfl
      · show [A.int IntKind.i64 _] = [A.int IntKind.i64 (L.getD (3 + 3 * i + 0) 0)]
        rw [show 3 + 3 * i + 0 = 3 * i + 3 by omega, e3]; rfl
      · show [A.int IntKind.i64 _] = [A.int IntKind.i64 (L.getD (3 + 3 * i + 1) 0)]
        rw [show 3 + 3 * i + 1 = 3 * (i + 1) + 1 by omega, e4]; rfl
      · show [A.int IntKind.i64 _] = [A.int IntKind.i64 (L.getD (3 + 3 * i + 2) 0)]
        rw [show 3 + 3 * i + 2 = 3 * (i + 1) + 2 by omega, e5]; rfl
    · conv => whnf
      repeat' (first | refine WA_seq ?_ | (refine WA_region ttok ?_; conv => whnf) | (refine WA_draw ttok mixed ?_; conv => whnf) | (refine WA_cond ?_; conv => whnf) | refine WA_block ?_ | (refine WA_skip ?_; conv => whnf) | (refine WA_exit ?_; conv => whnf) | (refine WA_ret ?_; conv => whnf) | (refine And.intro (fun h => ?_) (fun h => ?_) <;> (try simp only [brsA] at h) <;> conv => whnf) | (refine WR_fit ?_ ?_; (focus (first | exact wr_i64 (by omega) | exact wr_u64 (by omega) | exact wr_u8 (by omega) | exact wr_i32 (by omega) | exact wr_u32 (by omega))); conv => whnf) | (refine WR_wrap ?_; conv => whnf) | (refine And.intro (a := indepB _ _ = true) ?_ ?_; (focus kernel_rfl); conv => whnf) | (refine And.intro rfl ?_; conv => whnf) | (refine And.intro ?_ ?_; (focus (first | omega | decide | (dsimp only; omega) | (simp at *; omega))); conv => whnf))
      all_goals first | contradiction | (exfalso; omega) | skip
      exact Or.inl fun _ _ => rfl
set_option maxRecDepth 100000 in
set_option maxHeartbeats 4000000 in
theorem vall_n (c : Cm) (hk : c.k ≠ 1) : ACalls Tryd.prog G 66 [.agg (cmA c)] (intsA (allL c)) := by
  unfold allL
  rw [if_neg hk]
  have four : ∀ (L : List Int) (j : Nat), j < L.length → takeL 1 (List.drop (j * 1) (L.map fun x => A.int .i64 x)) = [.int .i64 (L.getD j 0)] := by
    intro L j hj
    rw [takeL_eq, Nat.mul_one, List.drop_eq_getElem_cons (by simp; exact hj), List.take_succ_cons, List.take_zero, List.getElem_map, List.getD_eq_getElem?_getD, List.getElem?_eq_getElem hj]; rfl
  refine ACalls.of_WA ttok Tryd.func66 rfl rfl _ rfl ?_
  conv => whnf
  repeat' (first | refine WA_seq ?_ | (refine WA_region ttok ?_; conv => whnf) | (refine WA_draw ttok mixed ?_; conv => whnf) | (refine WA_cond ?_; conv => whnf) | refine WA_block ?_ | (refine WA_skip ?_; conv => whnf) | (refine WA_exit ?_; conv => whnf) | (refine WA_ret ?_; conv => whnf) | (refine And.intro (fun h => ?_) (fun h => ?_) <;> (try simp only [brsA] at h) <;> conv => whnf) | (refine WR_fit ?_ ?_; (focus (first | exact wr_i64 (by omega) | exact wr_u64 (by omega) | exact wr_u8 (by omega) | exact wr_i32 (by omega) | exact wr_u32 (by omega))); conv => whnf) | (refine WR_wrap ?_; conv => whnf) | (refine And.intro (a := indepB _ _ = true) ?_ ?_; (focus kernel_rfl); conv => whnf) | (refine And.intro rfl ?_; conv => whnf) | (refine And.intro ?_ ?_; (focus (first | omega | decide | (dsimp only; omega) | (simp at *; omega))); conv => whnf))
  all_goals first | contradiction | (exfalso; omega) | skip
  all_goals first | rw [if_pos (by omega)] | rw [if_neg (by omega), if_pos (by omega)] | rw [if_neg (by omega), if_neg (by omega), if_pos (by omega)] | rw [if_neg (by omega), if_neg (by omega), if_neg (by omega), if_pos (by omega)] | rw [if_neg (by omega), if_neg (by omega), if_neg (by omega), if_neg (by omega)]
  all_goals first | rfl | exact ⟨rfl, Or.inl fun j hj => four [c.bf, c.bt] j hj, trivial⟩ | exact ⟨rfl, Or.inl fun j hj => four [c.bf, c.bt] j hj⟩ | exact ⟨rfl, Or.inl fun j hj => four [c.p.1, c.p.2] j hj⟩ | exact ⟨rfl, Or.inl fun j hj => four [c.p.1, c.p.2, c.q.1, c.q.2] j hj⟩ | exact ⟨rfl, Or.inl fun j hj => four [c.id] j hj⟩
end Go.Proofs.YtagokdeflnkplaaDoor
set_option linter.unusedSimpArgs false
namespace Go.Proofs.YtagokdeflnkplaaDoor
open Go.Proofs.YtagokdeflnkplaaDoor.Am Go.Lib
variable {G : GInv}
/-- A road has as many weights as it has points behind the first. -/
def okRd (c : Cm) : Prop := c.k = 1 → 1 ≤ c.pts.length ∧ c.pts.length ≤ 100 ∧ c.pts.length = c.ws.length + 1
instance (c : Cm) : Decidable (okRd c) := inferInstanceAs (Decidable (_ → _))
def mayV (c : Cm) : Prop := nameL c.k ≠ [] ∧ okRd c ∧ nearL (allL c) ∧ c = madeC c.k (c.ow || c.bo) (allL c)
instance (c : Cm) : Decidable (mayV c) := inferInstanceAs (Decidable (_ ∧ _))
theorem vall_c (c : Cm) (h : okRd c) : ACalls Tryd.prog G 66 [.agg (cmA c)] (intsA (allL c)) := by
  by_cases hk : c.k = 1
  · have := h hk
    exact vall_1 c hk this.2.2 (by omega)
  · exact vall_n c hk
theorem vmay1_c (n : Int) : ACalls Tryd.prog G 69 [.int .i64 n] (.sb (far60 n)) := by
  refine ACalls.of_WA ttok Tryd.func69 rfl rfl _ rfl ?_
  conv => whnf
  repeat' (first | refine WA_seq ?_ | (refine WA_region ttok ?_; conv => whnf) | (refine WA_draw ttok mixed ?_; conv => whnf) | (refine WA_cond ?_; conv => whnf) | refine WA_block ?_ | (refine WA_skip ?_; conv => whnf) | (refine WA_exit ?_; conv => whnf) | (refine WA_ret ?_; conv => whnf) | (refine And.intro (fun h => ?_) (fun h => ?_) <;> (try simp only [brsA] at h) <;> conv => whnf) | (refine WR_fit ?_ ?_; (focus (first | exact wr_i64 (by omega) | exact wr_u64 (by omega) | exact wr_u8 (by omega) | exact wr_i32 (by omega) | exact wr_u32 (by omega))); conv => whnf) | (refine WR_wrap ?_; conv => whnf) | (refine And.intro (a := indepB _ _ = true) ?_ ?_; (focus kernel_rfl); conv => whnf) | (refine And.intro rfl ?_; conv => whnf) | (refine And.intro ?_ ?_; (focus (first | omega | decide | (dsimp only; omega) | (simp at *; omega))); conv => whnf))
  all_goals (simp only [far60, near60] at *; (first | rfl | exact (decide_eq_true (by omega)).symm | exact (decide_eq_false (by omega)).symm | exact decide_eq_decide.2 (by omega) | (rw [Bool.eq_iff_iff]; simp only [brsE] at *; omega)))
theorem fitN_all (c : Cm) (h : okRd c) : fitN c.k (allL c).length := by
  unfold fitN allL
  by_cases hk : c.k = 1
  · rw [if_pos hk, if_pos hk]
    have := h hk
    exact ⟨c.ws.length, by simp, by omega⟩
  · rw [if_neg hk, if_neg hk]
    unfold manyN
    by_cases h4 : c.k = 4 ∨ c.k = 5
    · rw [if_pos h4, if_neg (by omega), if_pos (by omega)]; rfl
    · rw [if_neg h4]
      by_cases h8 : c.k = 8
      · rw [if_pos h8, if_neg (by omega), if_pos (by omega)]; rfl
      · rw [if_neg h8]
        by_cases h9 : c.k = 9 ∨ c.k = 10
        · rw [if_pos h9, if_neg (by omega), if_neg (by omega), if_pos (by omega)]; rfl
        · rw [if_neg h9]
          by_cases h2 : c.k = 2 ∨ c.k = 6 ∨ c.k = 11 ∨ c.k = 12
          · rw [if_pos h2, if_pos h2]; rfl
          · rw [if_neg h2, if_neg h2, if_neg (by omega), if_neg h9]; rfl
theorem all_len (c : Cm) (h : okRd c) : (allL c).length ≤ 1000 := by
  have := fitN_all c h
  unfold fitN at this
  split at this
  · rename_i hk
    have := h hk
    unfold allL
    rw [if_pos hk]
    simp; omega
  · unfold manyN at this
    repeat' (split at this)
    all_goals omega
theorem argBool {P : Program} {f : FuncId} {x y r : A} {b : Bool} (h : ACalls P G f [x, .sb b, y] r) : ACalls P G f [x, .bool b, y] r := by
  refine ⟨h.1, fun im w vs h1 h2 h3 h4 => h.2 im w vs h1 h2 h3 fun j hj hj' => ?_⟩
  match j, hj with
  | 0, hj => exact h4 0 (by simp) hj'
  | 1, hj =>
    have := h4 1 (by simp) hj'
    simp only [List.getElem_cons_succ, List.getElem_cons_zero] at this ⊢
    generalize vs[1] = v at this
    cases this; exact .sb b
  | 2, hj => exact h4 2 (by simp) hj'
set_option maxRecDepth 100000 in
set_option maxHeartbeats 4000000 in
theorem vmay_c (c : Cm) (hp : c.pts.length ≤ 1000000) (hw : c.ws.length ≤ 1000000) : ACalls Tryd.prog G 36 [.agg (cmA c)] (.sb (decide (mayV c))) := by
  have hn := vname_c (G := G) c.k
  by_cases h0 : nameL c.k = []
  · rw [decide_eq_false (fun q : mayV c => q.1 h0)]
    rw [h0] at hn
    refine ACalls.of_WA ttok Tryd.func36 rfl rfl _ rfl ?_
    conv => whnf
    repeat' (first | refine WA_seq ?_ | (refine WA_region ttok ?_; conv => whnf) | (refine WA_draw ttok mixed ?_; conv => whnf) | (refine WA_cond ?_; conv => whnf) | refine WA_block ?_ | (refine WA_skip ?_; conv => whnf) | (refine WA_exit ?_; conv => whnf) | (refine WA_ret ?_; conv => whnf) | (refine And.intro (fun h => ?_) (fun h => ?_) <;> (try simp only [brsA] at h) <;> conv => whnf) | (refine Or.inl ?_; (conv => whnf); refine Exists.intro _ (And.intro (hn) ?_); conv => whnf) | (refine Or.inr (Or.inr (Or.inl ?_)); (conv => whnf); refine Exists.intro _ (And.intro (hn) ?_); conv => whnf) | (refine Exists.intro _ (And.intro (hn) ?_); conv => whnf) | (refine WR_fit ?_ ?_; (focus (first | exact wr_i64 (by omega) | exact wr_u64 (by omega) | exact wr_u8 (by omega) | exact wr_i32 (by omega) | exact wr_u32 (by omega))); conv => whnf) | (refine WR_wrap ?_; conv => whnf) | (refine And.intro (a := indepB _ _ = true) ?_ ?_; (focus kernel_rfl); conv => whnf) | (refine And.intro rfl ?_; conv => whnf) | (refine And.intro ?_ ?_; (focus (first | omega | decide | (dsimp only; omega) | (simp at *; omega))); conv => whnf))
    all_goals first | contradiction | (exfalso; omega) | skip
  by_cases hr : okRd c
  · have ha := vall_c (G := G) c hr
    have hc := containsFunc_c (G := G) (allL c) 69 far60 (by have := all_len c hr; omega) vmay1_c
    rw [show decide (∃ i, i < (allL c).length ∧ far60 ((allL c).getD i 0) = true) = decide (¬ nearL (allL c)) from decide_eq_decide.2 all_near] at hc
    have hm := made_c (G := G) c.k (c.ow || c.bo) (allL c) (fitN_all c hr)
    have hs := vsame_c (G := G) c (madeC c.k (c.ow || c.bo) (allL c)) hp hw
    have hv : decide (mayV c) = true ↔ (decide (¬ nearL (allL c)) = false ∧ decide (c = madeC c.k (c.ow || c.bo) (allL c)) = true) := by
      rw [decide_eq_true_iff, decide_eq_true_iff, decide_eq_false_iff_not, Decidable.not_not]
      exact ⟨fun q => q.2.2, fun q => ⟨h0, hr, q⟩⟩
    have hmT : c.ow = true → ACalls Tryd.prog G 63 [.int .i64 c.k, .bool true, intsA (allL c)] (.agg (cmA (madeC c.k (c.ow || c.bo) (allL c)))) := fun q => by
      rw [q] at hm ⊢; exact argBool hm
    have hmF : c.ow = false → ACalls Tryd.prog G 63 [.int .i64 c.k, .sb c.bo, intsA (allL c)] (.agg (cmA (madeC c.k (c.ow || c.bo) (allL c)))) := fun q => by
      rw [q] at hm ⊢; exact hm
    clear hm
    unfold okRd at hr
    generalize decide (mayV c) = V at *
    generalize decide (c = madeC c.k (c.ow || c.bo) (allL c)) = S at *
    generalize madeC c.k (c.ow || c.bo) (allL c) = M at *
    generalize decide (¬ nearL (allL c)) = NL at *
    generalize allL c = L at *
    have key1 : NL = true → false = V := fun q => by
      cases hV : V
      · rfl
      · exact absurd (hv.1 hV).1 (by rw [q]; decide)
    have key2 : NL = false → S = V := fun q => Bool.eq_iff_iff.2 ⟨fun s => hv.2 ⟨q, s⟩, fun v => (hv.1 v).2⟩
    refine ACalls.of_WA ttok Tryd.func36 rfl rfl _ rfl ?_
    conv => whnf
    repeat' (first | refine WA_seq ?_ | (refine WA_region ttok ?_; conv => whnf) | (refine WA_draw ttok mixed ?_; conv => whnf) | (refine WA_cond ?_; conv => whnf) | refine WA_block ?_ | (refine WA_skip ?_; conv => whnf) | (refine WA_exit ?_; conv => whnf) | (refine WA_ret ?_; conv => whnf) | (refine And.intro (fun h => ?_) (fun h => ?_) <;> (try simp only [brsA] at h) <;> conv => whnf) | (refine Or.inl ?_; (conv => whnf); refine Exists.intro _ (And.intro (hn) ?_); conv => whnf) | (refine Or.inr (Or.inr (Or.inl ?_)); (conv => whnf); refine Exists.intro _ (And.intro (hn) ?_); conv => whnf) | (refine Exists.intro _ (And.intro (hn) ?_); conv => whnf) | (refine Or.inl ?_; (conv => whnf); refine Exists.intro _ (And.intro (ha) ?_); conv => whnf) | (refine Or.inr (Or.inr (Or.inl ?_)); (conv => whnf); refine Exists.intro _ (And.intro (ha) ?_); conv => whnf) | (refine Exists.intro _ (And.intro (ha) ?_); conv => whnf) | (refine Or.inl ?_; (conv => whnf); refine Exists.intro _ (And.intro (hc) ?_); conv => whnf) | (refine Or.inr (Or.inr (Or.inl ?_)); (conv => whnf); refine Exists.intro _ (And.intro (hc) ?_); conv => whnf) | (refine Exists.intro _ (And.intro (hc) ?_); conv => whnf) | (refine Or.inl ?_; (conv => whnf); refine Exists.intro _ (And.intro (hmT (by assumption)) ?_); conv => whnf) | (refine Or.inr (Or.inr (Or.inl ?_)); (conv => whnf); refine Exists.intro _ (And.intro (hmT (by assumption)) ?_); conv => whnf) | (refine Exists.intro _ (And.intro (hmT (by assumption)) ?_); conv => whnf) | (refine Or.inl ?_; (conv => whnf); refine Exists.intro _ (And.intro (hmF (by assumption)) ?_); conv => whnf) | (refine Or.inr (Or.inr (Or.inl ?_)); (conv => whnf); refine Exists.intro _ (And.intro (hmF (by assumption)) ?_); conv => whnf) | (refine Exists.intro _ (And.intro (hmF (by assumption)) ?_); conv => whnf) | (refine Or.inl ?_; (conv => whnf); refine Exists.intro _ (And.intro (hs) ?_); conv => whnf) | (refine Or.inr (Or.inr (Or.inl ?_)); (conv => whnf); refine Exists.intro _ (And.intro (hs) ?_); conv => whnf) | (refine Exists.intro _ (And.intro (hs) ?_); conv => whnf) | (refine WR_fit ?_ ?_; (focus (first | exact wr_i64 (by omega) | exact wr_u64 (by omega) | exact wr_u8 (by omega) | exact wr_i32 (by omega) | exact wr_u32 (by omega))); conv => whnf) | (refine WR_wrap ?_; conv => whnf) | (refine And.intro (a := indepB _ _ = true) ?_ ?_; (focus kernel_rfl); conv => whnf) | (refine And.intro rfl ?_; conv => whnf) | (refine And.intro ?_ ?_; (focus (first | omega | decide | (dsimp only; omega) | (simp at *; omega))); conv => whnf))
    all_goals first | contradiction | (exfalso; omega) | skip
    all_goals first | exact key1 (by assumption) | exact key2 (by assumption)
  · rw [decide_eq_false (fun q : mayV c => hr q.2.1)]
    unfold okRd at hr
    refine ACalls.of_WA ttok Tryd.func36 rfl rfl _ rfl ?_
    conv => whnf
    repeat' (first | refine WA_seq ?_ | (refine WA_region ttok ?_; conv => whnf) | (refine WA_draw ttok mixed ?_; conv => whnf) | (refine WA_cond ?_; conv => whnf) | refine WA_block ?_ | (refine WA_skip ?_; conv => whnf) | (refine WA_exit ?_; conv => whnf) | (refine WA_ret ?_; conv => whnf) | (refine And.intro (fun h => ?_) (fun h => ?_) <;> (try simp only [brsA] at h) <;> conv => whnf) | (refine Or.inl ?_; (conv => whnf); refine Exists.intro _ (And.intro (hn) ?_); conv => whnf) | (refine Or.inr (Or.inr (Or.inl ?_)); (conv => whnf); refine Exists.intro _ (And.intro (hn) ?_); conv => whnf) | (refine Exists.intro _ (And.intro (hn) ?_); conv => whnf) | (refine WR_fit ?_ ?_; (focus (first | exact wr_i64 (by omega) | exact wr_u64 (by omega) | exact wr_u8 (by omega) | exact wr_i32 (by omega) | exact wr_u32 (by omega))); conv => whnf) | (refine WR_wrap ?_; conv => whnf) | (refine And.intro (a := indepB _ _ = true) ?_ ?_; (focus kernel_rfl); conv => whnf) | (refine And.intro rfl ?_; conv => whnf) | (refine And.intro ?_ ?_; (focus (first | omega | decide | (dsimp only; omega) | (simp at *; omega))); conv => whnf))
    all_goals first | contradiction | (exfalso; omega) | skip
end Go.Proofs.YtagokdeflnkplaaDoor
set_option linter.unusedSimpArgs false
namespace Go.Proofs.YtagokdeflnkplaaDoor
open Go.Proofs.YtagokdeflnkplaaDoor.Am Go.Lib
variable {G : GInv}
set_option maxRecDepth 100000 in
set_option maxHeartbeats 2000000 in
theorem numbers_ok (hT : HasTab G) (l : List (List UInt8)) (hl : l.length ≤ 100000) (hgl : ∀ i, (l.getD i []).length ≤ 100000) (he : errL l = 0) :
    ACalls Tryd.prog G 61 [strsA l] (.tup [intsA (numL l), .int .i64 0]) := by
  have hln : (numL l).length = l.length := by unfold numL; simp
  refine ACalls.of_WA ttok Tryd.func61 rfl rfl _ rfl ?_
  conv => whnf
  repeat' (first | refine WA_seq ?_ | (refine WA_region ttok ?_; conv => whnf) | (refine WA_draw ttok mixed ?_; conv => whnf) | (refine WA_cond ?_; conv => whnf) | refine WA_block ?_ | (refine WA_skip ?_; conv => whnf) | (refine WA_exit ?_; conv => whnf) | (refine WA_ret ?_; conv => whnf) | (refine And.intro (fun h => ?_) (fun h => ?_) <;> (try simp only [brsA] at h) <;> conv => whnf) | (refine WR_fit ?_ ?_; (focus (first | exact wr_i64 (by omega) | exact wr_u64 (by omega) | exact wr_u8 (by omega) | exact wr_i32 (by omega) | exact wr_u32 (by omega))); conv => whnf) | (refine WR_wrap ?_; conv => whnf) | (refine And.intro (a := indepB _ _ = true) ?_ ?_; (focus kernel_rfl); conv => whnf) | (refine And.intro rfl ?_; conv => whnf) | (refine And.intro ?_ ?_; (focus (first | omega | decide | (dsimp only; omega) | (simp at *; omega))); conv => whnf))
  refine WA_nil 4 3 1 rfl ?_
  conv => whnf
  refine WA_loopI (fun i : Nat => i ≤ l.length ∧ errL (l.drop i) = 0) (fun i => [(11, .int .i64 (i : Int)), (6, .junk), (7, .junk), (8, .junk), (4, .own 0)]) (fun i => [.row 3 1 i (fun j => [.int .i64 ((numL l).getD j 0)])]) (fun i => l.length - i) 0 ⟨by omega, he⟩ ?_ ?_
  · conv => whnf
    repeat (first | exact rfl | exact trivial | exact Or.inl (fun _ _ => rfl) | exact (fun _ => rfl) | exact (fun _ _ => rfl) | exact Or.inl (fun _ hi => absurd hi (Nat.not_lt_zero _)) | (refine And.intro rfl ?_; conv => whnf) | (refine And.intro (Or.inl (fun _ _ => rfl)) ?_; conv => whnf) | (refine And.intro (fun _ => rfl) ?_; conv => whnf) | (refine And.intro (fun _ _ => rfl) ?_; conv => whnf) | (refine And.intro ?_ ?_; rotate_left; conv => whnf))
  · rintro i ⟨hi, hE⟩
    by_cases hil : i < l.length
    · have hp := parse_c hT (l.getD i []) (by have := hgl i; omega)
      rw [errL_drop l hil] at hE
      have hng := numL_get l hil
      by_cases hz : (parseN (l.getD i [])).2 = 0
      · rw [if_neg (fun q => q hz)] at hE
        rw [hz] at hp
        conv => whnf
        repeat' (first | refine WA_seq ?_ | (refine WA_region ttok ?_; conv => whnf) | (refine WA_draw ttok mixed ?_; conv => whnf) | (refine WA_cond ?_; conv => whnf) | refine WA_block ?_ | (refine WA_skip ?_; conv => whnf) | (refine WA_exit ?_; conv => whnf) | (refine WA_ret ?_; conv => whnf) | (refine And.intro (fun h => ?_) (fun h => ?_) <;> (try simp only [brsA] at h) <;> conv => whnf) | (refine Or.inl ?_; (conv => whnf); refine Exists.intro _ (And.intro (hp) ?_); conv => whnf) | (refine Or.inr (Or.inr (Or.inl ?_)); (conv => whnf); refine Exists.intro _ (And.intro (hp) ?_); conv => whnf) | (refine Exists.intro _ (And.intro (hp) ?_); conv => whnf) | (refine WR_fit ?_ ?_; (focus (first | exact wr_i64 (by omega) | exact wr_u64 (by omega) | exact wr_u8 (by omega) | exact wr_i32 (by omega) | exact wr_u32 (by omega))); conv => whnf) | (refine WR_wrap ?_; conv => whnf) | (refine And.intro (a := indepB _ _ = true) ?_ ?_; (focus kernel_rfl); conv => whnf) | (refine And.intro rfl ?_; conv => whnf) | (refine And.intro ?_ ?_; (focus (first | omega | decide | (dsimp only; omega) | (simp at *; omega))); conv => whnf))
        all_goals first | contradiction | (exfalso; omega) | skip
        refine ⟨i + 1, ⟨by omega, hE⟩, (by show l.length - (i + 1) < l.length - i; omega), ?_⟩
        conv => whnf
        repeat (first | exact rfl | exact trivial | exact Or.inl (fun _ _ => rfl) | exact (fun _ => rfl) | exact (fun _ _ => rfl) | exact Or.inl (fun _ hi => absurd hi (Nat.not_lt_zero _)) | (refine And.intro rfl ?_; conv => whnf) | (refine And.intro (Or.inl (fun _ _ => rfl)) ?_; conv => whnf) | (refine And.intro (fun _ => rfl) ?_; conv => whnf) | (refine And.intro (fun _ _ => rfl) ?_; conv => whnf) | (refine And.intro ?_ ?_; rotate_left; conv => whnf))
        refine Or.inl fun j hj => rowInt (numL l) i _ ?_ j hj
        rw [hng]; rfl
      · rw [if_pos hz] at hE
        exact absurd hE hz
    · conv => whnf
      repeat' (first | refine WA_seq ?_ | (refine WA_region ttok ?_; conv => whnf) | (refine WA_draw ttok mixed ?_; conv => whnf) | (refine WA_cond ?_; conv => whnf) | refine WA_block ?_ | (refine WA_skip ?_; conv => whnf) | (refine WA_exit ?_; conv => whnf) | (refine WA_ret ?_; conv => whnf) | (refine And.intro (fun h => ?_) (fun h => ?_) <;> (try simp only [brsA] at h) <;> conv => whnf) | (refine WR_fit ?_ ?_; (focus (first | exact wr_i64 (by omega) | exact wr_u64 (by omega) | exact wr_u8 (by omega) | exact wr_i32 (by omega) | exact wr_u32 (by omega))); conv => whnf) | (refine WR_wrap ?_; conv => whnf) | (refine And.intro (a := indepB _ _ = true) ?_ ?_; (focus kernel_rfl); conv => whnf) | (refine And.intro rfl ?_; conv => whnf) | (refine And.intro ?_ ?_; (focus (first | omega | decide | (dsimp only; omega) | (simp at *; omega))); conv => whnf))
      all_goals first | contradiction | (exfalso; omega) | skip
      obtain rfl : i = l.length := by omega
      rw [← hln]
      first | exact ⟨rfl, Or.inl fun _ _ => rfl, rfl⟩ | (repeat (first | exact rfl | exact trivial | exact Or.inl (fun _ _ => rfl) | exact (fun _ => rfl) | exact (fun _ _ => rfl) | exact Or.inl (fun _ hi => absurd hi (Nat.not_lt_zero _)) | (refine And.intro rfl ?_; conv => whnf) | (refine And.intro (Or.inl (fun _ _ => rfl)) ?_; conv => whnf) | (refine And.intro (fun _ => rfl) ?_; conv => whnf) | (refine And.intro (fun _ _ => rfl) ?_; conv => whnf) | (refine And.intro ?_ ?_; rotate_left; conv => whnf)))
set_option maxRecDepth 100000 in
set_option maxHeartbeats 2000000 in
theorem numbers_bad (hT : HasTab G) (l : List (List UInt8)) (hl : l.length ≤ 100000) (hgl : ∀ i, (l.getD i []).length ≤ 100000) (he : errL l ≠ 0) :
    ACalls Tryd.prog G 61 [strsA l] (.tup [.nils, .int .i64 (errL l)]) := by
  generalize hEE : errL l = EE at *
  refine ACalls.of_WA ttok Tryd.func61 rfl rfl _ rfl ?_
  conv => whnf
  repeat' (first | refine WA_seq ?_ | (refine WA_region ttok ?_; conv => whnf) | (refine WA_draw ttok mixed ?_; conv => whnf) | (refine WA_cond ?_; conv => whnf) | refine WA_block ?_ | (refine WA_skip ?_; conv => whnf) | (refine WA_exit ?_; conv => whnf) | (refine WA_ret ?_; conv => whnf) | (refine And.intro (fun h => ?_) (fun h => ?_) <;> (try simp only [brsA] at h) <;> conv => whnf) | (refine WR_fit ?_ ?_; (focus (first | exact wr_i64 (by omega) | exact wr_u64 (by omega) | exact wr_u8 (by omega) | exact wr_i32 (by omega) | exact wr_u32 (by omega))); conv => whnf) | (refine WR_wrap ?_; conv => whnf) | (refine And.intro (a := indepB _ _ = true) ?_ ?_; (focus kernel_rfl); conv => whnf) | (refine And.intro rfl ?_; conv => whnf) | (refine And.intro ?_ ?_; (focus (first | omega | decide | (dsimp only; omega) | (simp at *; omega))); conv => whnf))
  refine WA_nil 4 3 1 rfl ?_
  conv => whnf
  refine WA_loopI (fun i : Nat => i ≤ l.length ∧ errL (l.drop i) = EE) (fun i => [(11, .int .i64 (i : Int)), (6, .junk), (7, .junk), (8, .junk), (4, .own 0)]) (fun i => [.row 3 1 i (fun j => [.int .i64 ((numL l).getD j 0)])]) (fun i => l.length - i) 0 ⟨by omega, hEE⟩ ?_ ?_
  · conv => whnf
    repeat (first | exact rfl | exact trivial | exact Or.inl (fun _ _ => rfl) | exact (fun _ => rfl) | exact (fun _ _ => rfl) | exact Or.inl (fun _ hi => absurd hi (Nat.not_lt_zero _)) | (refine And.intro rfl ?_; conv => whnf) | (refine And.intro (Or.inl (fun _ _ => rfl)) ?_; conv => whnf) | (refine And.intro (fun _ => rfl) ?_; conv => whnf) | (refine And.intro (fun _ _ => rfl) ?_; conv => whnf) | (refine And.intro ?_ ?_; rotate_left; conv => whnf))
  · rintro i ⟨hi, hE⟩
    by_cases hil : i < l.length
    · have hp := parse_c hT (l.getD i []) (by have := hgl i; omega)
      rw [errL_drop l hil] at hE
      have hng := numL_get l hil
      by_cases hz : (parseN (l.getD i [])).2 = 0
      · rw [if_neg (fun q => q hz)] at hE
        rw [hz] at hp
        conv => whnf
        repeat' (first | refine WA_seq ?_ | (refine WA_region ttok ?_; conv => whnf) | (refine WA_draw ttok mixed ?_; conv => whnf) | (refine WA_cond ?_; conv => whnf) | refine WA_block ?_ | (refine WA_skip ?_; conv => whnf) | (refine WA_exit ?_; conv => whnf) | (refine WA_ret ?_; conv => whnf) | (refine And.intro (fun h => ?_) (fun h => ?_) <;> (try simp only [brsA] at h) <;> conv => whnf) | (refine Or.inl ?_; (conv => whnf); refine Exists.intro _ (And.intro (hp) ?_); conv => whnf) | (refine Or.inr (Or.inr (Or.inl ?_)); (conv => whnf); refine Exists.intro _ (And.intro (hp) ?_); conv => whnf) | (refine Exists.intro _ (And.intro (hp) ?_); conv => whnf) | (refine WR_fit ?_ ?_; (focus (first | exact wr_i64 (by omega) | exact wr_u64 (by omega) | exact wr_u8 (by omega) | exact wr_i32 (by omega) | exact wr_u32 (by omega))); conv => whnf) | (refine WR_wrap ?_; conv => whnf) | (refine And.intro (a := indepB _ _ = true) ?_ ?_; (focus kernel_rfl); conv => whnf) | (refine And.intro rfl ?_; conv => whnf) | (refine And.intro ?_ ?_; (focus (first | omega | decide | (dsimp only; omega) | (simp at *; omega))); conv => whnf))
        all_goals first | contradiction | (exfalso; omega) | skip
        refine ⟨i + 1, ⟨by omega, hE⟩, (by show l.length - (i + 1) < l.length - i; omega), ?_⟩
        conv => whnf
        repeat (first | exact rfl | exact trivial | exact Or.inl (fun _ _ => rfl) | exact (fun _ => rfl) | exact (fun _ _ => rfl) | exact Or.inl (fun _ hi => absurd hi (Nat.not_lt_zero _)) | (refine And.intro rfl ?_; conv => whnf) | (refine And.intro (Or.inl (fun _ _ => rfl)) ?_; conv => whnf) | (refine And.intro (fun _ => rfl) ?_; conv => whnf) | (refine And.intro (fun _ _ => rfl) ?_; conv => whnf) | (refine And.intro ?_ ?_; rotate_left; conv => whnf))
        refine Or.inl fun j hj => rowInt (numL l) i _ ?_ j hj
        rw [hng]; rfl
      · rw [if_pos hz] at hE
        generalize parseN (l.getD i []) = pr at *
        obtain ⟨p1, p2⟩ := pr
        simp only at hp hz hE
        subst hE
        conv => whnf
        repeat' (first | refine WA_seq ?_ | (refine WA_region ttok ?_; conv => whnf) | (refine WA_draw ttok mixed ?_; conv => whnf) | (refine WA_cond ?_; conv => whnf) | refine WA_block ?_ | (refine WA_skip ?_; conv => whnf) | (refine WA_exit ?_; conv => whnf) | (refine WA_ret ?_; conv => whnf) | (refine And.intro (fun h => ?_) (fun h => ?_) <;> (try simp only [brsA] at h) <;> conv => whnf) | (refine Or.inl ?_; (conv => whnf); refine Exists.intro _ (And.intro (hp) ?_); conv => whnf) | (refine Or.inr (Or.inr (Or.inl ?_)); (conv => whnf); refine Exists.intro _ (And.intro (hp) ?_); conv => whnf) | (refine Exists.intro _ (And.intro (hp) ?_); conv => whnf) | (refine WR_fit ?_ ?_; (focus (first | exact wr_i64 (by omega) | exact wr_u64 (by omega) | exact wr_u8 (by omega) | exact wr_i32 (by omega) | exact wr_u32 (by omega))); conv => whnf) | (refine WR_wrap ?_; conv => whnf) | (refine And.intro (a := indepB _ _ = true) ?_ ?_; (focus kernel_rfl); conv => whnf) | (refine And.intro rfl ?_; conv => whnf) | (refine And.intro ?_ ?_; (focus (first | omega | decide | (dsimp only; omega) | (simp at *; omega))); conv => whnf))
        all_goals first | contradiction | (exfalso; omega) | skip
        all_goals first | rfl | trace_state
    · rw [List.drop_eq_nil_of_le (by omega)] at hE
      exact absurd hE.symm he
end Go.Proofs.YtagokdeflnkplaaDoor

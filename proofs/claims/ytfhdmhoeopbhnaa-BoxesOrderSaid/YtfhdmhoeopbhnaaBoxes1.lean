/-
  The walks of the package boxes: lines checked, boxes sorted, the order, the hull.
-/
import Derived.Test.YtfhdmhoeopbhnaaMeet1
import Derived.Test.YtfhdmhoeopbhnaaAm6
import Derived.Test.YtfhdmhoeopbhnaaAm5
import Derived.Test.YtfhdmhoeopbhnaaAm4
set_option linter.unusedSimpArgs false
namespace Go.Proofs.Ytfhdmhoeopbhnaa
open Go.Proofs.Ytfhdmhoeopbhnaa.Am
variable {G : GInv}
def rowP (l : List Pt) : Nat → List A := fun i => [.int .i64 (l.getD i default).x, .int .i64 (l.getD i default).y]
def ptsA (l : List Pt) : A := .sl l.length 2 (rowP l)
def fstAt (p : Nat → Bool) : Nat → Nat → Int
  | 0, _ => -1
  | n + 1, i => if p i = true then (i : Int) else fstAt p n (i + 1)
theorem fstAt_step (p : Nat → Bool) {n i : Nat} (h : i < n) : fstAt p (n - i) i = if p i = true then (i : Int) else fstAt p (n - (i + 1)) (i + 1) := by
  rw [show n - i = (n - (i + 1)) + 1 by omega, fstAt]
theorem fstAt_nonneg (p : Nat → Bool) : ∀ (n i : Nat), 0 ≤ fstAt p n i ↔ ∃ j, i ≤ j ∧ j < i + n ∧ p j = true
  | 0, i => by simp [fstAt]; omega
  | n + 1, i => by
    rw [fstAt]
    split
    · rename_i h; exact ⟨fun _ => ⟨i, by omega, by omega, h⟩, fun _ => by omega⟩
    · rename_i h
      rw [fstAt_nonneg p n (i + 1)]
      constructor
      · rintro ⟨j, h1, h2, h3⟩; exact ⟨j, by omega, by omega, h3⟩
      · rintro ⟨j, h1, h2, h3⟩
        have : j ≠ i := fun e => h (by rw [← e]; exact h3)
        exact ⟨j, by omega, by omega, h3⟩
def eqAt (l : List Pt) (p : Pt) (i : Nat) : Bool := decide (p = l.getD i default)
theorem pt_eq (p q : Pt) : (p.x == q.x && (p.y == q.y && true)) = decide (p = q) := by
  rw [Bool.eq_iff_iff]; simp only [brsE]
  constructor
  · rintro ⟨h1, h2⟩; cases p; cases q; simp_all
  · rintro rfl; exact ⟨rfl, rfl⟩
set_option maxRecDepth 100000 in
theorem index_c (l : List Pt) (p : Pt) (hl : l.length ≤ 1000000) : ACalls Try.prog G 181 [ptsA l, .agg (ptA p)] (.int .i64 (fstAt (eqAt l p) l.length 0)) := by
  refine ACalls.of_WA ttok Try.func181 rfl rfl _ rfl ?_
  conv => whnf
  repeat' (first | refine WA_seq ?_ | (refine WA_region ttok ?_; conv => whnf) | (refine WA_draw ttok mixed ?_; conv => whnf) | (refine WA_cond ?_; conv => whnf) | refine WA_block ?_ | (refine WA_skip ?_; conv => whnf) | (refine WA_exit ?_; conv => whnf) | (refine WA_ret ?_; conv => whnf) | (refine And.intro (fun h => ?_) (fun h => ?_) <;> (try simp only [brsA] at h) <;> conv => whnf) | (refine WR_fit ?_ ?_; (focus (first | exact wr_i64 (by omega) | exact wr_u64 (by omega) | exact wr_u8 (by omega) | exact wr_i32 (by omega) | exact wr_u32 (by omega))); conv => whnf) | (refine WR_wrap ?_; conv => whnf) | (refine And.intro (a := indepB _ _ = true) ?_ ?_; (focus kernel_rfl); conv => whnf) | (refine And.intro rfl ?_; conv => whnf) | (refine And.intro ?_ ?_; (focus (first | omega | (simp at *; omega))); conv => whnf))
  refine WA_loopI (fun i : Nat => i ≤ l.length ∧ fstAt (eqAt l p) l.length 0 = fstAt (eqAt l p) (l.length - i) i) (fun i => [(8, .int .i64 (i : Int))]) (fun _ => [.box 60 (ptA p)]) (fun i => l.length - i) 0 ⟨by omega, rfl⟩ ?_ ?_
  · conv => whnf
    repeat (first | exact rfl | exact trivial | exact Or.inl (fun _ _ => rfl) | exact (fun _ => rfl) | exact (fun _ _ => rfl) | exact Or.inl (fun _ hi => absurd hi (Nat.not_lt_zero _)) | (refine And.intro rfl ?_; conv => whnf) | (refine And.intro (Or.inl (fun _ _ => rfl)) ?_; conv => whnf) | (refine And.intro (fun _ => rfl) ?_; conv => whnf) | (refine And.intro (fun _ _ => rfl) ?_; conv => whnf) | (refine And.intro ?_ ?_; rotate_left; conv => whnf))
  · rintro i ⟨hi, he⟩
    conv => whnf
    repeat' (first | refine WA_seq ?_ | (refine WA_region ttok ?_; conv => whnf) | (refine WA_draw ttok mixed ?_; conv => whnf) | (refine WA_cond ?_; conv => whnf) | refine WA_block ?_ | (refine WA_skip ?_; conv => whnf) | (refine WA_exit ?_; conv => whnf) | (refine WA_ret ?_; conv => whnf) | (refine And.intro (fun h => ?_) (fun h => ?_) <;> (try simp only [brsA] at h) <;> conv => whnf) | (refine WR_fit ?_ ?_; (focus (first | exact wr_i64 (by omega) | exact wr_u64 (by omega) | exact wr_u8 (by omega) | exact wr_i32 (by omega) | exact wr_u32 (by omega))); conv => whnf) | (refine WR_wrap ?_; conv => whnf) | (refine And.intro (a := indepB _ _ = true) ?_ ?_; (focus kernel_rfl); conv => whnf) | (refine And.intro rfl ?_; conv => whnf) | (refine And.intro ?_ ?_; (focus (first | omega | (simp at *; omega))); conv => whnf))
    · have h : eqAt l p i = true := (pt_eq _ _).symm.trans h
      rw [he, fstAt_step _ (show i < l.length by omega), if_pos h]
    · have h : ¬ eqAt l p i = true := by rw [show eqAt l p i = false from (pt_eq _ _).symm.trans h]; simp
      refine ⟨i + 1, ⟨by omega, by rw [he, fstAt_step _ (show i < l.length by omega), if_neg h]⟩, (by show l.length - (i + 1) < l.length - i; omega), ?_⟩
      conv => whnf
      repeat (first | exact rfl | exact trivial | exact Or.inl (fun _ _ => rfl) | exact (fun _ => rfl) | exact (fun _ _ => rfl) | exact Or.inl (fun _ hi => absurd hi (Nat.not_lt_zero _)) | (refine And.intro rfl ?_; conv => whnf) | (refine And.intro (Or.inl (fun _ _ => rfl)) ?_; conv => whnf) | (refine And.intro (fun _ => rfl) ?_; conv => whnf) | (refine And.intro (fun _ _ => rfl) ?_; conv => whnf) | (refine And.intro ?_ ?_; rotate_left; conv => whnf))
    · rw [he, show l.length - i = 0 by omega]; rfl
theorem contains_c (l : List Pt) (p : Pt) (hl : l.length ≤ 1000000) : ACalls Try.prog G 151 [ptsA l, .agg (ptA p)] (.sb (decide (p ∈ l))) := by
  refine ACalls.of_WA ttok Try.func151 rfl rfl _ rfl ?_
  conv => whnf
  repeat' (first | refine WA_seq ?_ | (refine WA_region ttok ?_; conv => whnf) | (refine WA_draw ttok mixed ?_; conv => whnf) | (refine WA_cond ?_; conv => whnf) | refine WA_block ?_ | (refine WA_skip ?_; conv => whnf) | (refine WA_exit ?_; conv => whnf) | (refine WA_ret ?_; conv => whnf) | (refine And.intro (fun h => ?_) (fun h => ?_) <;> (try simp only [brsA] at h) <;> conv => whnf) | (refine Or.inl ?_; (conv => whnf); refine Exists.intro _ (And.intro (index_c l p hl) ?_); conv => whnf) | (refine Or.inr (Or.inr (Or.inl ?_)); (conv => whnf); refine Exists.intro _ (And.intro (index_c l p hl) ?_); conv => whnf) | (refine Exists.intro _ (And.intro (index_c l p hl) ?_); conv => whnf) | (refine WR_fit ?_ ?_; (focus (first | exact wr_i64 (by omega) | exact wr_u64 (by omega) | exact wr_u8 (by omega) | exact wr_i32 (by omega) | exact wr_u32 (by omega))); conv => whnf) | (refine WR_wrap ?_; conv => whnf) | (refine And.intro (a := indepB _ _ = true) ?_ ?_; (focus kernel_rfl); conv => whnf) | (refine And.intro rfl ?_; conv => whnf) | (refine And.intro ?_ ?_; (focus (first | omega | (simp at *; omega))); conv => whnf))
  all_goals refine line_fin ?_
  all_goals rw [decide_eq_true_iff]
  all_goals rw [fstAt_nonneg]
  all_goals
    constructor
    · rintro ⟨j, _, h2, h3⟩
      have h3 : p = l.getD j default := of_decide_eq_true h3
      rw [h3, List.getD_eq_getElem?_getD, List.getElem?_eq_getElem (by omega)]
      exact List.getElem_mem _
    · intro hm
      obtain ⟨j, hj, e⟩ := List.getElem_of_mem hm
      refine ⟨j, by omega, by omega, ?_⟩
      refine decide_eq_true ?_
      rw [List.getD_eq_getElem?_getD, List.getElem?_eq_getElem hj]; exact e.symm
/-- The four ends. -/
def endsL (s t : Sg) : List Pt := [s.a, s.b, t.a, t.b]
def BothP (s t : Sg) (p : Pt) : Prop := OnP s p ∧ OnP t p
instance (s t : Sg) (p : Pt) : Decidable (BothP s t p) := inferInstanceAs (Decidable (_ ∧ _))
def addP (s t : Sg) (out : List Pt) (p : Pt) : List Pt := if BothP s t p ∧ p ∉ out then out ++ [p] else out
def comK (s t : Sg) (k : Nat) : List Pt := ((endsL s t).take k).foldl (addP s t) []
theorem comK_succ (s t : Sg) (k : Nat) (h : k < 4) : comK s t (k + 1) = addP s t (comK s t k) ((endsL s t).getD k default) := by
  unfold comK
  rw [List.take_add_one, List.foldl_append]
  rcases k with _ | _ | _ | _ | k <;> first | rfl | omega
theorem comK_len (s t : Sg) : ∀ k, (comK s t k).length ≤ k
  | 0 => by simp [comK]
  | k + 1 => by
    by_cases h : k < 4
    · rw [comK_succ s t k h]
      have := comK_len s t k
      unfold addP; split
      · simp; omega
      · omega
    · have := comK_len s t k
      have e : comK s t (k + 1) = comK s t k := by
        unfold comK
        rw [List.take_of_length_le (by simp [endsL]; omega), List.take_of_length_le (by simp [endsL]; omega)]
      rw [e]; omega
theorem comK_on (s t : Sg) : ∀ k, ∀ p ∈ comK s t k, BothP s t p
  | 0, p, h => by simp [comK] at h
  | k + 1, p, h => by
    by_cases hk : k < 4
    · rw [comK_succ s t k hk] at h
      unfold addP at h
      split at h
      · rename_i hc
        rcases List.mem_append.1 h with h | h
        · exact comK_on s t k p h
        · simp at h; subst h; exact hc.1
      · exact comK_on s t k p h
    · have e : comK s t (k + 1) = comK s t k := by
        unfold comK
        rw [List.take_of_length_le (by simp [endsL]; omega), List.take_of_length_le (by simp [endsL]; omega)]
      rw [e] at h; exact comK_on s t k p h
/-- The points of a line, ordered along it. -/
abbrev OnT (s : Sg) := {p : Pt // OnP s p}
def keyT (s : Sg) (x : OnT s) : Int := dotF s.a s.b x.1
open Go.Sort Go.Proofs in
theorem swo_key {α : Type} (f : α → Int) : SWO (ltOf fun x y => cmpI (f x) (f y)) := by
  have key : ∀ x y, ltOf (fun x y => cmpI (f x) (f y)) x y = decide (f x < f y) := by
    intro x y
    unfold ltOf cmpI
    refine decide_eq_decide.2 ?_
    show (if f x < f y then (-1 : Int) else if f y < f x then 1 else 0) < 0 ↔ _
    split
    · omega
    · split <;> omega
  refine ⟨fun x => ?_, fun x y z h1 h2 => ?_, fun x y z h1 h2 => ?_⟩
  · rw [key]; simp
  · rw [key] at *; simp at *; omega
  · rw [key] at *; simp at *; omega
end Go.Proofs.Ytfhdmhoeopbhnaa
set_option linter.unusedSimpArgs false
namespace Go.Proofs.Ytfhdmhoeopbhnaa
open Go.Proofs.Ytfhdmhoeopbhnaa.Am
variable {G : GInv}
set_option maxRecDepth 100000 in
theorem len64_0 : ACalls Try.prog G 149 [.int .u64 0] (.int .i64 0) := by
  refine ACalls.of_WA ttok Try.func149 rfl rfl _ rfl ?_
  conv => whnf
  repeat' (first | refine WA_seq ?_ | (refine WA_region ttok ?_; conv => whnf) | (refine WA_draw ttok mixed ?_; conv => whnf) | (refine WA_cond ?_; conv => whnf) | refine WA_block ?_ | (refine WA_skip ?_; conv => whnf) | (refine WA_exit ?_; conv => whnf) | (refine WA_ret ?_; conv => whnf) | (refine And.intro (fun h => ?_) (fun h => ?_) <;> (try simp only [brsA] at h) <;> conv => whnf) | (refine WR_fit ?_ ?_; (focus (first | exact wr_i64 (by omega) | exact wr_u64 (by omega) | exact wr_u8 (by omega) | exact wr_i32 (by omega) | exact wr_u32 (by omega))); conv => whnf) | (refine WR_wrap ?_; conv => whnf) | (refine And.intro (a := indepB _ _ = true) ?_ ?_; (focus kernel_rfl); conv => whnf) | (refine And.intro rfl ?_; conv => whnf) | (refine And.intro ?_ ?_; (focus (first | omega | (simp at *; omega))); conv => whnf))
  all_goals first | (exfalso; omega) | skip
  refine And.intro (by decide) ?_
  conv => whnf
  repeat' (first | refine WA_seq ?_ | (refine WA_region ttok ?_; conv => whnf) | (refine WA_draw ttok mixed ?_; conv => whnf) | (refine WA_cond ?_; conv => whnf) | refine WA_block ?_ | (refine WA_skip ?_; conv => whnf) | (refine WA_exit ?_; conv => whnf) | (refine WA_ret ?_; conv => whnf) | (refine And.intro (fun h => ?_) (fun h => ?_) <;> (try simp only [brsA] at h) <;> conv => whnf) | (refine WR_fit ?_ ?_; (focus (first | exact wr_i64 (by omega) | exact wr_u64 (by omega) | exact wr_u8 (by omega) | exact wr_i32 (by omega) | exact wr_u32 (by omega))); conv => whnf) | (refine WR_wrap ?_; conv => whnf) | (refine And.intro (a := indepB _ _ = true) ?_ ?_; (focus kernel_rfl); conv => whnf) | (refine And.intro rfl ?_; conv => whnf) | (refine And.intro ?_ ?_; (focus (first | omega | (simp at *; omega))); conv => whnf))
  all_goals first | decide | rfl
theorem len_0 : ACalls Try.prog G 109 [.int .u64 0] (.int .i64 0) := by
  refine ACalls.of_WA ttok Try.func109 rfl rfl _ rfl ?_
  conv => whnf
  repeat' (first | refine WA_seq ?_ | (refine WA_region ttok ?_; conv => whnf) | (refine WA_draw ttok mixed ?_; conv => whnf) | (refine WA_cond ?_; conv => whnf) | refine WA_block ?_ | (refine WA_skip ?_; conv => whnf) | (refine WA_exit ?_; conv => whnf) | (refine WA_ret ?_; conv => whnf) | (refine And.intro (fun h => ?_) (fun h => ?_) <;> (try simp only [brsA] at h) <;> conv => whnf) | (refine Or.inl ?_; (conv => whnf); refine Exists.intro _ (And.intro (len64_0) ?_); conv => whnf) | (refine Or.inr (Or.inr (Or.inl ?_)); (conv => whnf); refine Exists.intro _ (And.intro (len64_0) ?_); conv => whnf) | (refine Exists.intro _ (And.intro (len64_0) ?_); conv => whnf) | (refine WR_fit ?_ ?_; (focus (first | exact wr_i64 (by omega) | exact wr_u64 (by omega) | exact wr_u8 (by omega) | exact wr_i32 (by omega) | exact wr_u32 (by omega))); conv => whnf) | (refine WR_wrap ?_; conv => whnf) | (refine And.intro (a := indepB _ _ = true) ?_ ?_; (focus kernel_rfl); conv => whnf) | (refine And.intro rfl ?_; conv => whnf) | (refine And.intro ?_ ?_; (focus (first | omega | (simp at *; omega))); conv => whnf))
  all_goals first | (exfalso; omega) | skip
theorem insBx_0 (row : Nat → List A) : ACalls Try.prog G 168 [.sl 0 5 row, .int .i64 0, .int .i64 0, .fn 107 []] (.tup []) := by
  refine ACalls.of_WA ttok Try.func168 rfl rfl _ rfl ?_
  conv => whnf
  repeat' (first | refine WA_seq ?_ | (refine WA_region ttok ?_; conv => whnf) | (refine WA_draw ttok mixed ?_; conv => whnf) | (refine WA_cond ?_; conv => whnf) | refine WA_block ?_ | (refine WA_skip ?_; conv => whnf) | (refine WA_exit ?_; conv => whnf) | (refine WA_ret ?_; conv => whnf) | (refine And.intro (fun h => ?_) (fun h => ?_) <;> (try simp only [brsA] at h) <;> conv => whnf) | (refine WR_fit ?_ ?_; (focus (first | exact wr_i64 (by omega) | exact wr_u64 (by omega) | exact wr_u8 (by omega) | exact wr_i32 (by omega) | exact wr_u32 (by omega))); conv => whnf) | (refine WR_wrap ?_; conv => whnf) | (refine And.intro (a := indepB _ _ = true) ?_ ?_; (focus kernel_rfl); conv => whnf) | (refine And.intro rfl ?_; conv => whnf) | (refine And.intro ?_ ?_; (focus (first | omega | (simp at *; omega))); conv => whnf))
  refine WA_loopI (fun _ : Nat => True) (fun _ => [(8, .int .i64 1)]) (fun _ => []) (fun _ => 0) 0 trivial ?_ ?_
  · conv => whnf
    repeat (first | exact rfl | exact trivial | exact Or.inl (fun _ _ => rfl) | exact (fun _ => rfl) | exact (fun _ _ => rfl) | exact Or.inl (fun _ hi => absurd hi (Nat.not_lt_zero _)) | (refine And.intro rfl ?_; conv => whnf) | (refine And.intro (Or.inl (fun _ _ => rfl)) ?_; conv => whnf) | (refine And.intro (fun _ => rfl) ?_; conv => whnf) | (refine And.intro (fun _ _ => rfl) ?_; conv => whnf) | (refine And.intro ?_ ?_; rotate_left; conv => whnf))
  · intro i _
    conv => whnf
    repeat' (first | refine WA_seq ?_ | (refine WA_region ttok ?_; conv => whnf) | (refine WA_draw ttok mixed ?_; conv => whnf) | (refine WA_cond ?_; conv => whnf) | refine WA_block ?_ | (refine WA_skip ?_; conv => whnf) | (refine WA_exit ?_; conv => whnf) | (refine WA_ret ?_; conv => whnf) | (refine And.intro (fun h => ?_) (fun h => ?_) <;> (try simp only [brsA] at h) <;> conv => whnf) | (refine WR_fit ?_ ?_; (focus (first | exact wr_i64 (by omega) | exact wr_u64 (by omega) | exact wr_u8 (by omega) | exact wr_i32 (by omega) | exact wr_u32 (by omega))); conv => whnf) | (refine WR_wrap ?_; conv => whnf) | (refine And.intro (a := indepB _ _ = true) ?_ ?_; (focus kernel_rfl); conv => whnf) | (refine And.intro rfl ?_; conv => whnf) | (refine And.intro ?_ ?_; (focus (first | omega | (simp at *; omega))); conv => whnf))
    all_goals first | trivial | (exfalso; omega)
set_option maxRecDepth 100000 in
theorem pdqBx_0 (row : Nat → List A) : ACalls Try.prog G 139 [.sl 0 5 row, .int .i64 0, .int .i64 0, .int .i64 0, .fn 107 []] (.tup []) := by
  refine ACalls.of_WA ttok Try.func139 rfl rfl _ rfl ?_
  conv => whnf
  repeat (first | refine WA_seq ?_ | (refine WA_region ttok ?_; conv => whnf) | (refine WA_draw ttok mixed ?_; conv => whnf) | (refine WA_cond ?_; conv => whnf) | refine WA_block ?_ | (refine WA_skip ?_; conv => whnf) | (refine WA_exit ?_; conv => whnf) | (refine WA_ret ?_; conv => whnf))
  refine WA_loopI (fun _ : Nat => True) (fun _ => [(1, .int .i64 0), (2, .int .i64 0), (3, .int .i64 0)]) (fun _ => []) (fun _ => 0) 0 trivial ?_ ?_
  · conv => whnf
    repeat (first | exact rfl | exact trivial | exact Or.inl (fun _ _ => rfl) | exact (fun _ => rfl) | exact (fun _ _ => rfl) | exact Or.inl (fun _ hi => absurd hi (Nat.not_lt_zero _)) | (refine And.intro rfl ?_; conv => whnf) | (refine And.intro (Or.inl (fun _ _ => rfl)) ?_; conv => whnf) | (refine And.intro (fun _ => rfl) ?_; conv => whnf) | (refine And.intro (fun _ _ => rfl) ?_; conv => whnf) | (refine And.intro ?_ ?_; rotate_left; conv => whnf))
  · intro i _
    have hi := insBx_0 (G := G) row
    conv => whnf
    repeat' (first | refine WA_seq ?_ | (refine WA_region ttok ?_; conv => whnf) | (refine WA_draw ttok mixed ?_; conv => whnf) | (refine WA_cond ?_; conv => whnf) | refine WA_block ?_ | (refine WA_skip ?_; conv => whnf) | (refine WA_exit ?_; conv => whnf) | (refine WA_ret ?_; conv => whnf) | (refine And.intro (fun h => ?_) (fun h => ?_) <;> (try simp only [brsA] at h) <;> conv => whnf) | (refine Or.inl ?_; (conv => whnf); refine Exists.intro _ (And.intro (hi) ?_); conv => whnf) | (refine Or.inr (Or.inr (Or.inl ?_)); (conv => whnf); refine Exists.intro _ (And.intro (hi) ?_); conv => whnf) | (refine Exists.intro _ (And.intro (hi) ?_); conv => whnf) | (refine WR_fit ?_ ?_; (focus (first | exact wr_i64 (by omega) | exact wr_u64 (by omega) | exact wr_u8 (by omega) | exact wr_i32 (by omega) | exact wr_u32 (by omega))); conv => whnf) | (refine WR_wrap ?_; conv => whnf) | (refine And.intro (a := indepB _ _ = true) ?_ ?_; (focus kernel_rfl); conv => whnf) | (refine And.intro rfl ?_; conv => whnf) | (refine And.intro ?_ ?_; (focus (first | omega | (simp at *; omega))); conv => whnf))
    all_goals first | trivial | (exact absurd trivial h) | (exact absurd h (by decide)) | trace_state
set_option maxRecDepth 100000 in
theorem sortBx_0 (row : Nat → List A) : ACalls Try.prog G 106 [.sl 0 5 row, .fn 107 []] (.tup []) := by
  refine ACalls.of_WA ttok Try.func106 rfl rfl _ rfl ?_
  have hi := pdqBx_0 (G := G) row
  conv => whnf
  repeat' (first | refine WA_seq ?_ | (refine WA_region ttok ?_; conv => whnf) | (refine WA_draw ttok mixed ?_; conv => whnf) | (refine WA_cond ?_; conv => whnf) | refine WA_block ?_ | (refine WA_skip ?_; conv => whnf) | (refine WA_exit ?_; conv => whnf) | (refine WA_ret ?_; conv => whnf) | (refine And.intro (fun h => ?_) (fun h => ?_) <;> (try simp only [brsA] at h) <;> conv => whnf) | (refine Or.inl ?_; (conv => whnf); refine Exists.intro _ (And.intro (len_0) ?_); conv => whnf) | (refine Or.inr (Or.inr (Or.inl ?_)); (conv => whnf); refine Exists.intro _ (And.intro (len_0) ?_); conv => whnf) | (refine Exists.intro _ (And.intro (len_0) ?_); conv => whnf) | (refine Or.inl ?_; (conv => whnf); refine Exists.intro _ (And.intro (hi) ?_); conv => whnf) | (refine Or.inr (Or.inr (Or.inl ?_)); (conv => whnf); refine Exists.intro _ (And.intro (hi) ?_); conv => whnf) | (refine Exists.intro _ (And.intro (hi) ?_); conv => whnf) | (refine WR_fit ?_ ?_; (focus (first | exact wr_i64 (by omega) | exact wr_u64 (by omega) | exact wr_u8 (by omega) | exact wr_i32 (by omega) | exact wr_u32 (by omega))); conv => whnf) | (refine WR_wrap ?_; conv => whnf) | (refine And.intro (a := indepB _ _ = true) ?_ ?_; (focus kernel_rfl); conv => whnf) | (refine And.intro rfl ?_; conv => whnf) | (refine And.intro ?_ ?_; (focus (first | omega | (simp at *; omega))); conv => whnf))
  all_goals trivial

theorem insPr_0 (row : Nat → List A) : ACalls Try.prog G 140 [.sl 0 2 row, .int .i64 0, .int .i64 0, .fn 78 []] (.tup []) := by
  refine ACalls.of_WA ttok Try.func140 rfl rfl _ rfl ?_
  conv => whnf
  repeat' (first | refine WA_seq ?_ | (refine WA_region ttok ?_; conv => whnf) | (refine WA_draw ttok mixed ?_; conv => whnf) | (refine WA_cond ?_; conv => whnf) | refine WA_block ?_ | (refine WA_skip ?_; conv => whnf) | (refine WA_exit ?_; conv => whnf) | (refine WA_ret ?_; conv => whnf) | (refine And.intro (fun h => ?_) (fun h => ?_) <;> (try simp only [brsA] at h) <;> conv => whnf) | (refine WR_fit ?_ ?_; (focus (first | exact wr_i64 (by omega) | exact wr_u64 (by omega) | exact wr_u8 (by omega) | exact wr_i32 (by omega) | exact wr_u32 (by omega))); conv => whnf) | (refine WR_wrap ?_; conv => whnf) | (refine And.intro (a := indepB _ _ = true) ?_ ?_; (focus kernel_rfl); conv => whnf) | (refine And.intro rfl ?_; conv => whnf) | (refine And.intro ?_ ?_; (focus (first | omega | (simp at *; omega))); conv => whnf))
  refine WA_loopI (fun _ : Nat => True) (fun _ => [(8, .int .i64 1)]) (fun _ => []) (fun _ => 0) 0 trivial ?_ ?_
  · conv => whnf
    repeat (first | exact rfl | exact trivial | exact Or.inl (fun _ _ => rfl) | exact (fun _ => rfl) | exact (fun _ _ => rfl) | exact Or.inl (fun _ hi => absurd hi (Nat.not_lt_zero _)) | (refine And.intro rfl ?_; conv => whnf) | (refine And.intro (Or.inl (fun _ _ => rfl)) ?_; conv => whnf) | (refine And.intro (fun _ => rfl) ?_; conv => whnf) | (refine And.intro (fun _ _ => rfl) ?_; conv => whnf) | (refine And.intro ?_ ?_; rotate_left; conv => whnf))
  · intro i _
    conv => whnf
    repeat' (first | refine WA_seq ?_ | (refine WA_region ttok ?_; conv => whnf) | (refine WA_draw ttok mixed ?_; conv => whnf) | (refine WA_cond ?_; conv => whnf) | refine WA_block ?_ | (refine WA_skip ?_; conv => whnf) | (refine WA_exit ?_; conv => whnf) | (refine WA_ret ?_; conv => whnf) | (refine And.intro (fun h => ?_) (fun h => ?_) <;> (try simp only [brsA] at h) <;> conv => whnf) | (refine WR_fit ?_ ?_; (focus (first | exact wr_i64 (by omega) | exact wr_u64 (by omega) | exact wr_u8 (by omega) | exact wr_i32 (by omega) | exact wr_u32 (by omega))); conv => whnf) | (refine WR_wrap ?_; conv => whnf) | (refine And.intro (a := indepB _ _ = true) ?_ ?_; (focus kernel_rfl); conv => whnf) | (refine And.intro rfl ?_; conv => whnf) | (refine And.intro ?_ ?_; (focus (first | omega | (simp at *; omega))); conv => whnf))
    all_goals first | trivial | (exfalso; omega)
set_option maxRecDepth 100000 in
theorem pdqPr_0 (row : Nat → List A) : ACalls Try.prog G 108 [.sl 0 2 row, .int .i64 0, .int .i64 0, .int .i64 0, .fn 78 []] (.tup []) := by
  refine ACalls.of_WA ttok Try.func108 rfl rfl _ rfl ?_
  conv => whnf
  repeat (first | refine WA_seq ?_ | (refine WA_region ttok ?_; conv => whnf) | (refine WA_draw ttok mixed ?_; conv => whnf) | (refine WA_cond ?_; conv => whnf) | refine WA_block ?_ | (refine WA_skip ?_; conv => whnf) | (refine WA_exit ?_; conv => whnf) | (refine WA_ret ?_; conv => whnf))
  refine WA_loopI (fun _ : Nat => True) (fun _ => [(1, .int .i64 0), (2, .int .i64 0), (3, .int .i64 0)]) (fun _ => []) (fun _ => 0) 0 trivial ?_ ?_
  · conv => whnf
    repeat (first | exact rfl | exact trivial | exact Or.inl (fun _ _ => rfl) | exact (fun _ => rfl) | exact (fun _ _ => rfl) | exact Or.inl (fun _ hi => absurd hi (Nat.not_lt_zero _)) | (refine And.intro rfl ?_; conv => whnf) | (refine And.intro (Or.inl (fun _ _ => rfl)) ?_; conv => whnf) | (refine And.intro (fun _ => rfl) ?_; conv => whnf) | (refine And.intro (fun _ _ => rfl) ?_; conv => whnf) | (refine And.intro ?_ ?_; rotate_left; conv => whnf))
  · intro i _
    have hi := insPr_0 (G := G) row
    conv => whnf
    repeat' (first | refine WA_seq ?_ | (refine WA_region ttok ?_; conv => whnf) | (refine WA_draw ttok mixed ?_; conv => whnf) | (refine WA_cond ?_; conv => whnf) | refine WA_block ?_ | (refine WA_skip ?_; conv => whnf) | (refine WA_exit ?_; conv => whnf) | (refine WA_ret ?_; conv => whnf) | (refine And.intro (fun h => ?_) (fun h => ?_) <;> (try simp only [brsA] at h) <;> conv => whnf) | (refine Or.inl ?_; (conv => whnf); refine Exists.intro _ (And.intro (hi) ?_); conv => whnf) | (refine Or.inr (Or.inr (Or.inl ?_)); (conv => whnf); refine Exists.intro _ (And.intro (hi) ?_); conv => whnf) | (refine Exists.intro _ (And.intro (hi) ?_); conv => whnf) | (refine WR_fit ?_ ?_; (focus (first | exact wr_i64 (by omega) | exact wr_u64 (by omega) | exact wr_u8 (by omega) | exact wr_i32 (by omega) | exact wr_u32 (by omega))); conv => whnf) | (refine WR_wrap ?_; conv => whnf) | (refine And.intro (a := indepB _ _ = true) ?_ ?_; (focus kernel_rfl); conv => whnf) | (refine And.intro rfl ?_; conv => whnf) | (refine And.intro ?_ ?_; (focus (first | omega | (simp at *; omega))); conv => whnf))
    all_goals first | trivial | (exact absurd trivial h) | (exact absurd h (by decide)) | trace_state
set_option maxRecDepth 100000 in
theorem sortPr_0 (row : Nat → List A) : ACalls Try.prog G 77 [.sl 0 2 row, .fn 78 []] (.tup []) := by
  refine ACalls.of_WA ttok Try.func77 rfl rfl _ rfl ?_
  have hi := pdqPr_0 (G := G) row
  conv => whnf
  repeat' (first | refine WA_seq ?_ | (refine WA_region ttok ?_; conv => whnf) | (refine WA_draw ttok mixed ?_; conv => whnf) | (refine WA_cond ?_; conv => whnf) | refine WA_block ?_ | (refine WA_skip ?_; conv => whnf) | (refine WA_exit ?_; conv => whnf) | (refine WA_ret ?_; conv => whnf) | (refine And.intro (fun h => ?_) (fun h => ?_) <;> (try simp only [brsA] at h) <;> conv => whnf) | (refine Or.inl ?_; (conv => whnf); refine Exists.intro _ (And.intro (len_0) ?_); conv => whnf) | (refine Or.inr (Or.inr (Or.inl ?_)); (conv => whnf); refine Exists.intro _ (And.intro (len_0) ?_); conv => whnf) | (refine Exists.intro _ (And.intro (len_0) ?_); conv => whnf) | (refine Or.inl ?_; (conv => whnf); refine Exists.intro _ (And.intro (hi) ?_); conv => whnf) | (refine Or.inr (Or.inr (Or.inl ?_)); (conv => whnf); refine Exists.intro _ (And.intro (hi) ?_); conv => whnf) | (refine Exists.intro _ (And.intro (hi) ?_); conv => whnf) | (refine WR_fit ?_ ?_; (focus (first | exact wr_i64 (by omega) | exact wr_u64 (by omega) | exact wr_u8 (by omega) | exact wr_i32 (by omega) | exact wr_u32 (by omega))); conv => whnf) | (refine WR_wrap ?_; conv => whnf) | (refine And.intro (a := indepB _ _ = true) ?_ ?_; (focus kernel_rfl); conv => whnf) | (refine And.intro rfl ?_; conv => whnf) | (refine And.intro ?_ ?_; (focus (first | omega | (simp at *; omega))); conv => whnf))
  all_goals trivial

end Go.Proofs.Ytfhdmhoeopbhnaa
set_option linter.unusedSimpArgs false
namespace Go.Proofs.Ytfhdmhoeopbhnaa
open Go.Proofs.Ytfhdmhoeopbhnaa.Am Go.Sort Go.Proofs
variable {G : GInv}
/-! ### Lines, checked -/
def rowS (l : List Sg) : Nat → List A := fun i => [.int .i64 (l.getD i default).a.x, .int .i64 (l.getD i default).a.y, .int .i64 (l.getD i default).b.x, .int .i64 (l.getD i default).b.y]
def sgsA (l : List Sg) : A := .sl l.length 4 (rowS l)
theorem nline_c (s : Sg) : ACalls Try.prog G 105 [.agg (sgA s)] (.sb (!decide (LineS s))) := by
  refine ACalls.of_WA ttok Try.func105 rfl rfl _ rfl ?_
  conv => whnf
  repeat' (first | refine WA_seq ?_ | (refine WA_region ttok ?_; conv => whnf) | (refine WA_draw ttok mixed ?_; conv => whnf) | (refine WA_cond ?_; conv => whnf) | refine WA_block ?_ | (refine WA_skip ?_; conv => whnf) | (refine WA_exit ?_; conv => whnf) | (refine WA_ret ?_; conv => whnf) | (refine And.intro (fun h => ?_) (fun h => ?_) <;> (try simp only [brsA] at h) <;> conv => whnf) | (refine Or.inl ?_; (conv => whnf); refine Exists.intro _ (And.intro (pline_c s) ?_); conv => whnf) | (refine Or.inr (Or.inr (Or.inl ?_)); (conv => whnf); refine Exists.intro _ (And.intro (pline_c s) ?_); conv => whnf) | (refine Exists.intro _ (And.intro (pline_c s) ?_); conv => whnf) | (refine WR_fit ?_ ?_; (focus (first | exact wr_i64 (by omega) | exact wr_u64 (by omega) | exact wr_u8 (by omega) | exact wr_i32 (by omega) | exact wr_u32 (by omega))); conv => whnf) | (refine WR_wrap ?_; conv => whnf) | (refine And.intro (a := indepB _ _ = true) ?_ ?_; (focus kernel_rfl); conv => whnf) | (refine And.intro rfl ?_; conv => whnf) | (refine And.intro ?_ ?_; (focus (first | omega | (simp at *; omega))); conv => whnf))
def notLine (l : List Sg) (i : Nat) : Bool := !decide (LineS (l.getD i default))
theorem indexS_c (l : List Sg) (hl : l.length ≤ 1000000) : ACalls Try.prog G 138 [sgsA l, .fn 105 []] (.int .i64 (fstAt (notLine l) l.length 0)) := by
  refine ACalls.of_WA ttok Try.func138 rfl rfl _ rfl ?_
  conv => whnf
  repeat' (first | refine WA_seq ?_ | (refine WA_region ttok ?_; conv => whnf) | (refine WA_draw ttok mixed ?_; conv => whnf) | (refine WA_cond ?_; conv => whnf) | refine WA_block ?_ | (refine WA_skip ?_; conv => whnf) | (refine WA_exit ?_; conv => whnf) | (refine WA_ret ?_; conv => whnf) | (refine And.intro (fun h => ?_) (fun h => ?_) <;> (try simp only [brsA] at h) <;> conv => whnf) | (refine WR_fit ?_ ?_; (focus (first | exact wr_i64 (by omega) | exact wr_u64 (by omega) | exact wr_u8 (by omega) | exact wr_i32 (by omega) | exact wr_u32 (by omega))); conv => whnf) | (refine WR_wrap ?_; conv => whnf) | (refine And.intro (a := indepB _ _ = true) ?_ ?_; (focus kernel_rfl); conv => whnf) | (refine And.intro rfl ?_; conv => whnf) | (refine And.intro ?_ ?_; (focus (first | omega | (simp at *; omega))); conv => whnf))
  refine WA_loopI (fun i : Nat => i ≤ l.length ∧ fstAt (notLine l) l.length 0 = fstAt (notLine l) (l.length - i) i) (fun i => [(8, .int .i64 (i : Int))]) (fun _ => []) (fun i => l.length - i) 0 ⟨by omega, rfl⟩ ?_ ?_
  · conv => whnf
    repeat (first | exact rfl | exact trivial | exact Or.inl (fun _ _ => rfl) | exact (fun _ => rfl) | exact (fun _ _ => rfl) | exact Or.inl (fun _ hi => absurd hi (Nat.not_lt_zero _)) | (refine And.intro rfl ?_; conv => whnf) | (refine And.intro (Or.inl (fun _ _ => rfl)) ?_; conv => whnf) | (refine And.intro (fun _ => rfl) ?_; conv => whnf) | (refine And.intro (fun _ _ => rfl) ?_; conv => whnf) | (refine And.intro ?_ ?_; rotate_left; conv => whnf))
  · rintro i ⟨hi, he⟩
    have hc := nline_c (G := G) (l.getD i default)
    conv => whnf
    repeat' (first | refine WA_seq ?_ | (refine WA_region ttok ?_; conv => whnf) | (refine WA_draw ttok mixed ?_; conv => whnf) | (refine WA_cond ?_; conv => whnf) | refine WA_block ?_ | (refine WA_skip ?_; conv => whnf) | (refine WA_exit ?_; conv => whnf) | (refine WA_ret ?_; conv => whnf) | (refine And.intro (fun h => ?_) (fun h => ?_) <;> (try simp only [brsA] at h) <;> conv => whnf) | (refine Or.inl ?_; (conv => whnf); refine Exists.intro _ (And.intro (hc) ?_); conv => whnf) | (refine Or.inr (Or.inr (Or.inl ?_)); (conv => whnf); refine Exists.intro _ (And.intro (hc) ?_); conv => whnf) | (refine Exists.intro _ (And.intro (hc) ?_); conv => whnf) | (refine WR_fit ?_ ?_; (focus (first | exact wr_i64 (by omega) | exact wr_u64 (by omega) | exact wr_u8 (by omega) | exact wr_i32 (by omega) | exact wr_u32 (by omega))); conv => whnf) | (refine WR_wrap ?_; conv => whnf) | (refine And.intro (a := indepB _ _ = true) ?_ ?_; (focus kernel_rfl); conv => whnf) | (refine And.intro rfl ?_; conv => whnf) | (refine And.intro ?_ ?_; (focus (first | omega | (simp at *; omega))); conv => whnf))
    · rw [he, fstAt_step _ (show i < l.length by omega), if_pos (show notLine l i = true by unfold notLine; rw [decide_eq_false h]; rfl)]
    · refine ⟨i + 1, ⟨by omega, by rw [he, fstAt_step _ (show i < l.length by omega), if_neg (by unfold notLine; rw [decide_eq_true h]; exact Bool.noConfusion)]⟩, (by show l.length - (i + 1) < l.length - i; omega), ?_⟩
      conv => whnf
      repeat (first | exact rfl | exact trivial | exact Or.inl (fun _ _ => rfl) | exact (fun _ => rfl) | exact (fun _ _ => rfl) | exact Or.inl (fun _ hi => absurd hi (Nat.not_lt_zero _)) | (refine And.intro rfl ?_; conv => whnf) | (refine And.intro (Or.inl (fun _ _ => rfl)) ?_; conv => whnf) | (refine And.intro (fun _ => rfl) ?_; conv => whnf) | (refine And.intro (fun _ _ => rfl) ?_; conv => whnf) | (refine And.intro ?_ ?_; rotate_left; conv => whnf))
    · rw [he, show l.length - i = 0 by omega]; rfl
theorem containsS_c (l : List Sg) (hl : l.length ≤ 1000000) : ACalls Try.prog G 104 [sgsA l, .fn 105 []] (.sb (decide (0 ≤ fstAt (notLine l) l.length 0))) := by
  refine ACalls.of_WA ttok Try.func104 rfl rfl _ rfl ?_
  conv => whnf
  repeat' (first | refine WA_seq ?_ | (refine WA_region ttok ?_; conv => whnf) | (refine WA_draw ttok mixed ?_; conv => whnf) | (refine WA_cond ?_; conv => whnf) | refine WA_block ?_ | (refine WA_skip ?_; conv => whnf) | (refine WA_exit ?_; conv => whnf) | (refine WA_ret ?_; conv => whnf) | (refine And.intro (fun h => ?_) (fun h => ?_) <;> (try simp only [brsA] at h) <;> conv => whnf) | (refine Or.inl ?_; (conv => whnf); refine Exists.intro _ (And.intro (indexS_c l hl) ?_); conv => whnf) | (refine Or.inr (Or.inr (Or.inl ?_)); (conv => whnf); refine Exists.intro _ (And.intro (indexS_c l hl) ?_); conv => whnf) | (refine Exists.intro _ (And.intro (indexS_c l hl) ?_); conv => whnf) | (refine WR_fit ?_ ?_; (focus (first | exact wr_i64 (by omega) | exact wr_u64 (by omega) | exact wr_u8 (by omega) | exact wr_i32 (by omega) | exact wr_u32 (by omega))); conv => whnf) | (refine WR_wrap ?_; conv => whnf) | (refine And.intro (a := indepB _ _ = true) ?_ ?_; (focus kernel_rfl); conv => whnf) | (refine And.intro rfl ?_; conv => whnf) | (refine And.intro ?_ ?_; (focus (first | omega | (simp at *; omega))); conv => whnf))
def OkS (l : List Sg) : Prop := ∀ i, i < l.length → LineS (l.getD i default)
instance (l : List Sg) : Decidable (OkS l) := inferInstanceAs (Decidable (∀ i, i < l.length → LineS (l.getD i default)))
theorem okS_fst (l : List Sg) : 0 ≤ fstAt (notLine l) l.length 0 ↔ ¬ OkS l := by
  rw [fstAt_nonneg]
  constructor
  · rintro ⟨j, _, h2, h3⟩ h
    have := h j (by omega)
    unfold notLine at h3
    rw [decide_eq_true this] at h3
    exact Bool.noConfusion h3
  · intro h
    by_cases hx : ∃ j, 0 ≤ j ∧ j < 0 + l.length ∧ notLine l j = true
    · exact hx
    · refine absurd (fun i hi => ?_) h
      by_cases hL : LineS (l.getD i default)
      · exact hL
      · exact absurd ⟨i, Nat.zero_le _, by omega, by unfold notLine; rw [decide_eq_false hL]; rfl⟩ hx
def chk (l : List Sg) : Int := if 400 < l.length then 4 else if OkS l then 0 else 1
theorem check_c (l : List Sg) : ACalls Try.prog G 72 [sgsA l] (.int .i64 (chk l)) := by
  by_cases h400 : 400 < l.length
  · have e : chk l = 4 := if_pos h400
    rw [e]
    refine ACalls.of_WA ttok Try.func72 rfl rfl _ rfl ?_
    conv => whnf
    repeat' (first | refine WA_seq ?_ | (refine WA_region ttok ?_; conv => whnf) | (refine WA_draw ttok mixed ?_; conv => whnf) | (refine WA_cond ?_; conv => whnf) | refine WA_block ?_ | (refine WA_skip ?_; conv => whnf) | (refine WA_exit ?_; conv => whnf) | (refine WA_ret ?_; conv => whnf) | (refine And.intro (fun h => ?_) (fun h => ?_) <;> (try simp only [brsA] at h) <;> conv => whnf) | (refine WR_fit ?_ ?_; (focus (first | exact wr_i64 (by omega) | exact wr_u64 (by omega) | exact wr_u8 (by omega) | exact wr_i32 (by omega) | exact wr_u32 (by omega))); conv => whnf) | (refine WR_wrap ?_; conv => whnf) | (refine And.intro (a := indepB _ _ = true) ?_ ?_; (focus kernel_rfl); conv => whnf) | (refine And.intro rfl ?_; conv => whnf) | (refine And.intro ?_ ?_; (focus (first | omega | (simp at *; omega))); conv => whnf))
    all_goals first | (exfalso; omega) | skip
  · have hc := containsS_c (G := G) l (by omega)
    by_cases hk : OkS l
    · have e : chk l = 0 := by unfold chk; rw [if_neg h400, if_pos hk]
      rw [decide_eq_false (fun h => (okS_fst l).1 h hk)] at hc
      rw [e]
      refine ACalls.of_WA ttok Try.func72 rfl rfl _ rfl ?_
      conv => whnf
      repeat' (first | refine WA_seq ?_ | (refine WA_region ttok ?_; conv => whnf) | (refine WA_draw ttok mixed ?_; conv => whnf) | (refine WA_cond ?_; conv => whnf) | refine WA_block ?_ | (refine WA_skip ?_; conv => whnf) | (refine WA_exit ?_; conv => whnf) | (refine WA_ret ?_; conv => whnf) | (refine And.intro (fun h => ?_) (fun h => ?_) <;> (try simp only [brsA] at h) <;> conv => whnf) | (refine Or.inl ?_; (conv => whnf); refine Exists.intro _ (And.intro (hc) ?_); conv => whnf) | (refine Or.inr (Or.inr (Or.inl ?_)); (conv => whnf); refine Exists.intro _ (And.intro (hc) ?_); conv => whnf) | (refine Exists.intro _ (And.intro (hc) ?_); conv => whnf) | (refine WR_fit ?_ ?_; (focus (first | exact wr_i64 (by omega) | exact wr_u64 (by omega) | exact wr_u8 (by omega) | exact wr_i32 (by omega) | exact wr_u32 (by omega))); conv => whnf) | (refine WR_wrap ?_; conv => whnf) | (refine And.intro (a := indepB _ _ = true) ?_ ?_; (focus kernel_rfl); conv => whnf) | (refine And.intro rfl ?_; conv => whnf) | (refine And.intro ?_ ?_; (focus (first | omega | (simp at *; omega))); conv => whnf))
      all_goals first | (exfalso; omega) | exact Bool.noConfusion h | skip
    · have e : chk l = 1 := by unfold chk; rw [if_neg h400, if_neg hk]
      rw [decide_eq_true ((okS_fst l).2 hk)] at hc
      rw [e]
      refine ACalls.of_WA ttok Try.func72 rfl rfl _ rfl ?_
      conv => whnf
      repeat' (first | refine WA_seq ?_ | (refine WA_region ttok ?_; conv => whnf) | (refine WA_draw ttok mixed ?_; conv => whnf) | (refine WA_cond ?_; conv => whnf) | refine WA_block ?_ | (refine WA_skip ?_; conv => whnf) | (refine WA_exit ?_; conv => whnf) | (refine WA_ret ?_; conv => whnf) | (refine And.intro (fun h => ?_) (fun h => ?_) <;> (try simp only [brsA] at h) <;> conv => whnf) | (refine Or.inl ?_; (conv => whnf); refine Exists.intro _ (And.intro (hc) ?_); conv => whnf) | (refine Or.inr (Or.inr (Or.inl ?_)); (conv => whnf); refine Exists.intro _ (And.intro (hc) ?_); conv => whnf) | (refine Exists.intro _ (And.intro (hc) ?_); conv => whnf) | (refine WR_fit ?_ ?_; (focus (first | exact wr_i64 (by omega) | exact wr_u64 (by omega) | exact wr_u8 (by omega) | exact wr_i32 (by omega) | exact wr_u32 (by omega))); conv => whnf) | (refine WR_wrap ?_; conv => whnf) | (refine And.intro (a := indepB _ _ = true) ?_ ?_; (focus kernel_rfl); conv => whnf) | (refine And.intro rfl ?_; conv => whnf) | (refine And.intro ?_ ?_; (focus (first | omega | (simp at *; omega))); conv => whnf))
      all_goals first | (exfalso; omega) | exact Bool.noConfusion h | skip
theorem rcheck_c (l : List Sg) : ACalls Try.prog G 40 [sgsA l] (.int .i64 (chk l)) := by
  by_cases h400 : 400 < l.length
  · have e : chk l = 4 := if_pos h400
    rw [e]
    refine ACalls.of_WA ttok Try.func40 rfl rfl _ rfl ?_
    conv => whnf
    repeat' (first | refine WA_seq ?_ | (refine WA_region ttok ?_; conv => whnf) | (refine WA_draw ttok mixed ?_; conv => whnf) | (refine WA_cond ?_; conv => whnf) | refine WA_block ?_ | (refine WA_skip ?_; conv => whnf) | (refine WA_exit ?_; conv => whnf) | (refine WA_ret ?_; conv => whnf) | (refine And.intro (fun h => ?_) (fun h => ?_) <;> (try simp only [brsA] at h) <;> conv => whnf) | (refine WR_fit ?_ ?_; (focus (first | exact wr_i64 (by omega) | exact wr_u64 (by omega) | exact wr_u8 (by omega) | exact wr_i32 (by omega) | exact wr_u32 (by omega))); conv => whnf) | (refine WR_wrap ?_; conv => whnf) | (refine And.intro (a := indepB _ _ = true) ?_ ?_; (focus kernel_rfl); conv => whnf) | (refine And.intro rfl ?_; conv => whnf) | (refine And.intro ?_ ?_; (focus (first | omega | (simp at *; omega))); conv => whnf))
    all_goals first | (exfalso; omega) | skip
  · have e : chk l = if OkS l then 0 else 1 := if_neg h400
    rw [e]
    refine ACalls.of_WA ttok Try.func40 rfl rfl _ rfl ?_
    conv => whnf
    repeat' (first | refine WA_seq ?_ | (refine WA_region ttok ?_; conv => whnf) | (refine WA_draw ttok mixed ?_; conv => whnf) | (refine WA_cond ?_; conv => whnf) | refine WA_block ?_ | (refine WA_skip ?_; conv => whnf) | (refine WA_exit ?_; conv => whnf) | (refine WA_ret ?_; conv => whnf) | (refine And.intro (fun h => ?_) (fun h => ?_) <;> (try simp only [brsA] at h) <;> conv => whnf) | (refine WR_fit ?_ ?_; (focus (first | exact wr_i64 (by omega) | exact wr_u64 (by omega) | exact wr_u8 (by omega) | exact wr_i32 (by omega) | exact wr_u32 (by omega))); conv => whnf) | (refine WR_wrap ?_; conv => whnf) | (refine And.intro (a := indepB _ _ = true) ?_ ?_; (focus kernel_rfl); conv => whnf) | (refine And.intro rfl ?_; conv => whnf) | (refine And.intro ?_ ?_; (focus (first | omega | (simp at *; omega))); conv => whnf))
    all_goals first | (exfalso; omega) | skip
    refine WA_loopI (fun i : Nat => i ≤ l.length ∧ ∀ j, j < i → LineS (l.getD j default)) (fun i => [(3, .int .i64 (i : Int))]) (fun _ => []) (fun i => l.length - i) 0 ⟨by omega, fun _ h => absurd h (Nat.not_lt_zero _)⟩ ?_ ?_
    · conv => whnf
      repeat (first | exact rfl | exact trivial | exact Or.inl (fun _ _ => rfl) | exact (fun _ => rfl) | exact (fun _ _ => rfl) | exact Or.inl (fun _ hi => absurd hi (Nat.not_lt_zero _)) | (refine And.intro rfl ?_; conv => whnf) | (refine And.intro (Or.inl (fun _ _ => rfl)) ?_; conv => whnf) | (refine And.intro (fun _ => rfl) ?_; conv => whnf) | (refine And.intro (fun _ _ => rfl) ?_; conv => whnf) | (refine And.intro ?_ ?_; rotate_left; conv => whnf))
    · rintro i ⟨hi, he⟩
      have hc := rline_c (G := G) (l.getD i default)
      conv => whnf
      repeat' (first | refine WA_seq ?_ | (refine WA_region ttok ?_; conv => whnf) | (refine WA_draw ttok mixed ?_; conv => whnf) | (refine WA_cond ?_; conv => whnf) | refine WA_block ?_ | (refine WA_skip ?_; conv => whnf) | (refine WA_exit ?_; conv => whnf) | (refine WA_ret ?_; conv => whnf) | (refine And.intro (fun h => ?_) (fun h => ?_) <;> (try simp only [brsA] at h) <;> conv => whnf) | (refine Or.inl ?_; (conv => whnf); refine Exists.intro _ (And.intro (hc) ?_); conv => whnf) | (refine Or.inr (Or.inr (Or.inl ?_)); (conv => whnf); refine Exists.intro _ (And.intro (hc) ?_); conv => whnf) | (refine Exists.intro _ (And.intro (hc) ?_); conv => whnf) | (refine WR_fit ?_ ?_; (focus (first | exact wr_i64 (by omega) | exact wr_u64 (by omega) | exact wr_u8 (by omega) | exact wr_i32 (by omega) | exact wr_u32 (by omega))); conv => whnf) | (refine WR_wrap ?_; conv => whnf) | (refine And.intro (a := indepB _ _ = true) ?_ ?_; (focus kernel_rfl); conv => whnf) | (refine And.intro rfl ?_; conv => whnf) | (refine And.intro ?_ ?_; (focus (first | omega | (simp at *; omega))); conv => whnf))
      · rw [if_neg (fun hk : OkS l => h (hk i (by omega)))]
      · have hj : ∀ j, j < i + 1 → LineS (l.getD j default) := fun j hj => by
          rcases Nat.lt_or_eq_of_le (Nat.le_of_lt_succ hj) with q | q
          · exact he j q
          · rw [q]; exact h
        refine ⟨i + 1, ⟨by omega, hj⟩, (by show l.length - (i + 1) < l.length - i; omega), ?_⟩
        conv => whnf
        repeat (first | exact rfl | exact trivial | exact Or.inl (fun _ _ => rfl) | exact (fun _ => rfl) | exact (fun _ _ => rfl) | exact Or.inl (fun _ hi => absurd hi (Nat.not_lt_zero _)) | (refine And.intro rfl ?_; conv => whnf) | (refine And.intro (Or.inl (fun _ _ => rfl)) ?_; conv => whnf) | (refine And.intro (fun _ => rfl) ?_; conv => whnf) | (refine And.intro (fun _ _ => rfl) ?_; conv => whnf) | (refine And.intro ?_ ?_; rotate_left; conv => whnf))
      · rw [if_pos (show OkS l from fun j hj => he j (by omega))]
theorem less_c (a b : Int) : ACalls Try.prog G 75 [.int .i64 a, .int .i64 b] (.int .i64 (min a b)) := by
  refine ACalls.of_WA ttok Try.func75 rfl rfl _ rfl ?_
  conv => whnf
  repeat' (first | refine WA_seq ?_ | (refine WA_region ttok ?_; conv => whnf) | (refine WA_draw ttok mixed ?_; conv => whnf) | (refine WA_cond ?_; conv => whnf) | refine WA_block ?_ | (refine WA_skip ?_; conv => whnf) | (refine WA_exit ?_; conv => whnf) | (refine WA_ret ?_; conv => whnf) | (refine And.intro (fun h => ?_) (fun h => ?_) <;> (try simp only [brsA] at h) <;> conv => whnf) | (refine WR_fit ?_ ?_; (focus (first | exact wr_i64 (by omega) | exact wr_u64 (by omega) | exact wr_u8 (by omega) | exact wr_i32 (by omega) | exact wr_u32 (by omega))); conv => whnf) | (refine WR_wrap ?_; conv => whnf) | (refine And.intro (a := indepB _ _ = true) ?_ ?_; (focus kernel_rfl); conv => whnf) | (refine And.intro rfl ?_; conv => whnf) | (refine And.intro ?_ ?_; (focus (first | omega | (simp at *; omega))); conv => whnf))
  all_goals omega
theorem low_c (s : Sg) : ACalls Try.prog G 41 [.agg (sgA s)] (.agg (ptA (lowS s))) := by
  refine ACalls.of_WA ttok Try.func41 rfl rfl _ rfl ?_
  conv => whnf
  repeat' (first | refine WA_seq ?_ | (refine WA_region ttok ?_; conv => whnf) | (refine WA_draw ttok mixed ?_; conv => whnf) | (refine WA_cond ?_; conv => whnf) | refine WA_block ?_ | (refine WA_skip ?_; conv => whnf) | (refine WA_exit ?_; conv => whnf) | (refine WA_ret ?_; conv => whnf) | (refine And.intro (fun h => ?_) (fun h => ?_) <;> (try simp only [brsA] at h) <;> conv => whnf) | (refine Or.inl ?_; (conv => whnf); refine Exists.intro _ (And.intro (less_c s.a.x s.b.x) ?_); conv => whnf) | (refine Or.inr (Or.inr (Or.inl ?_)); (conv => whnf); refine Exists.intro _ (And.intro (less_c s.a.x s.b.x) ?_); conv => whnf) | (refine Exists.intro _ (And.intro (less_c s.a.x s.b.x) ?_); conv => whnf) | (refine Or.inl ?_; (conv => whnf); refine Exists.intro _ (And.intro (less_c s.a.y s.b.y) ?_); conv => whnf) | (refine Or.inr (Or.inr (Or.inl ?_)); (conv => whnf); refine Exists.intro _ (And.intro (less_c s.a.y s.b.y) ?_); conv => whnf) | (refine Exists.intro _ (And.intro (less_c s.a.y s.b.y) ?_); conv => whnf) | (refine WR_fit ?_ ?_; (focus (first | exact wr_i64 (by omega) | exact wr_u64 (by omega) | exact wr_u8 (by omega) | exact wr_i32 (by omega) | exact wr_u32 (by omega))); conv => whnf) | (refine WR_wrap ?_; conv => whnf) | (refine And.intro (a := indepB _ _ = true) ?_ ?_; (focus kernel_rfl); conv => whnf) | (refine And.intro rfl ?_; conv => whnf) | (refine And.intro ?_ ?_; (focus (first | omega | (simp at *; omega))); conv => whnf))
  rfl
theorem high_c (s : Sg) (hs : LineS s) : ACalls Try.prog G 42 [.agg (sgA s)] (.agg (ptA (highS s))) := by
  obtain ⟨⟨⟨a1, a2⟩, a3, a4⟩, ⟨⟨b1, b2⟩, b3, b4⟩, _⟩ := hs
  refine ACalls.of_WA ttok Try.func42 rfl rfl _ rfl ?_
  conv => whnf
  repeat' (first | refine WA_seq ?_ | (refine WA_region ttok ?_; conv => whnf) | (refine WA_draw ttok mixed ?_; conv => whnf) | (refine WA_cond ?_; conv => whnf) | refine WA_block ?_ | (refine WA_skip ?_; conv => whnf) | (refine WA_exit ?_; conv => whnf) | (refine WA_ret ?_; conv => whnf) | (refine And.intro (fun h => ?_) (fun h => ?_) <;> (try simp only [brsA] at h) <;> conv => whnf) | (refine Or.inl ?_; (conv => whnf); refine Exists.intro _ (And.intro (less_c (-s.a.x) (-s.b.x)) ?_); conv => whnf) | (refine Or.inr (Or.inr (Or.inl ?_)); (conv => whnf); refine Exists.intro _ (And.intro (less_c (-s.a.x) (-s.b.x)) ?_); conv => whnf) | (refine Exists.intro _ (And.intro (less_c (-s.a.x) (-s.b.x)) ?_); conv => whnf) | (refine Or.inl ?_; (conv => whnf); refine Exists.intro _ (And.intro (less_c (-s.a.y) (-s.b.y)) ?_); conv => whnf) | (refine Or.inr (Or.inr (Or.inl ?_)); (conv => whnf); refine Exists.intro _ (And.intro (less_c (-s.a.y) (-s.b.y)) ?_); conv => whnf) | (refine Exists.intro _ (And.intro (less_c (-s.a.y) (-s.b.y)) ?_); conv => whnf) | (refine WR_fit ?_ ?_; (focus (first | exact wr_i64 (by omega) | exact wr_u64 (by omega) | exact wr_u8 (by omega) | exact wr_i32 (by omega) | exact wr_u32 (by omega))); conv => whnf) | (refine WR_wrap ?_; conv => whnf) | (refine And.intro (a := indepB _ _ = true) ?_ ?_; (focus kernel_rfl); conv => whnf) | (refine And.intro rfl ?_; conv => whnf) | (refine And.intro ?_ ?_; (focus (first | omega | (simp at *; omega))); conv => whnf))
  refine ⟨?_, ?_⟩
  · show -min (-s.a.x) (-s.b.x) = max s.a.x s.b.x
    omega
  · show -min (-s.a.y) (-s.b.y) = max s.a.y s.b.y
    omega
/-! ### The boxes, sorted -/
structure Bx where
  lo : Pt
  hi : Pt
  at' : Int
  deriving Inhabited, DecidableEq
def bxA (b : Bx) : List A := [.int .i64 b.lo.x, .int .i64 b.lo.y, .int .i64 b.hi.x, .int .i64 b.hi.y, .int .i64 b.at']
def eBx (b : Bx) : List Int := [b.lo.x, b.lo.y, b.hi.x, b.hi.y, b.at']
def cfB (a b : Bx) : Int := firstNZ [cmpI a.lo.x b.lo.x, cmpI a.at' b.at']
set_option maxRecDepth 100000 in
theorem cloB_c (a b : Bx) : ACalls Try.prog G 107 [.agg (bxA a), .agg (bxA b)] (.int .i64 (cfB a b)) := by
  refine ACalls.of_WA ttok Try.func107 rfl rfl _ rfl ?_
  conv => whnf
  repeat' (first | refine WA_seq ?_ | (refine WA_region ttok ?_; conv => whnf) | (refine WA_draw ttok mixed ?_; conv => whnf) | (refine WA_cond ?_; conv => whnf) | refine WA_block ?_ | (refine WA_skip ?_; conv => whnf) | (refine WA_exit ?_; conv => whnf) | (refine WA_ret ?_; conv => whnf) | (refine And.intro (fun h => ?_) (fun h => ?_) <;> (try simp only [brsA] at h) <;> conv => whnf) | (refine WR_fit ?_ ?_; (focus (first | exact wr_i64 (by omega) | exact wr_u64 (by omega) | exact wr_u8 (by omega) | exact wr_i32 (by omega) | exact wr_u32 (by omega))); conv => whnf) | (refine WR_wrap ?_; conv => whnf) | (refine And.intro (a := indepB _ _ = true) ?_ ?_; (focus kernel_rfl); conv => whnf) | (refine And.intro rfl ?_; conv => whnf) | (refine And.intro ?_ ?_; (focus (first | omega | (simp at *; omega))); conv => whnf))
  repeat' (first | refine WA_seq ?_ | (refine WA_region ttok ?_; conv => whnf) | (refine WA_draw ttok mixed ?_; conv => whnf) | (refine WA_cond ?_; conv => whnf) | refine WA_block ?_ | (refine WA_skip ?_; conv => whnf) | (refine WA_exit ?_; conv => whnf) | (refine WA_ret ?_; conv => whnf) | (refine And.intro (fun h => ?_) (fun h => ?_) <;> (try simp only [brsA] at h) <;> conv => whnf) | (refine Or.inl ?_; (conv => whnf); refine Exists.intro _ (And.intro (compare_c _ _) ?_); conv => whnf) | (refine Or.inr (Or.inr (Or.inl ?_)); (conv => whnf); refine Exists.intro _ (And.intro (compare_c _ _) ?_); conv => whnf) | (refine Exists.intro _ (And.intro (compare_c _ _) ?_); conv => whnf) | (refine WR_fit ?_ ?_; (focus (first | exact wr_i64 (by omega) | exact wr_u64 (by omega) | exact wr_u8 (by omega) | exact wr_i32 (by omega) | exact wr_u32 (by omega))); conv => whnf) | (refine WR_wrap ?_; conv => whnf) | (refine And.intro (a := indepB _ _ = true) ?_ ?_; (focus kernel_rfl); conv => whnf) | (refine And.intro rfl ?_; conv => whnf) | (refine And.intro ?_ ?_; (focus (first | omega | (simp at *; omega))); conv => whnf))
  refine Or.inl ?_
  conv => whnf
  refine ⟨_, (or_c [cmpI a.lo.x b.lo.x, cmpI a.at' b.at'] (by simp)).fit ?_, rfl, ?_⟩
  · conv => whnf
    refine ⟨rfl, Or.inl fun i hi => ?_⟩
    match i, hi with
    | 0, _ => rfl
    | 1, _ => rfl
  · conv => whnf
    repeat' (first | refine WA_seq ?_ | (refine WA_region ttok ?_; conv => whnf) | (refine WA_draw ttok mixed ?_; conv => whnf) | (refine WA_cond ?_; conv => whnf) | refine WA_block ?_ | (refine WA_skip ?_; conv => whnf) | (refine WA_exit ?_; conv => whnf) | (refine WA_ret ?_; conv => whnf) | (refine And.intro (fun h => ?_) (fun h => ?_) <;> (try simp only [brsA] at h) <;> conv => whnf) | (refine WR_fit ?_ ?_; (focus (first | exact wr_i64 (by omega) | exact wr_u64 (by omega) | exact wr_u8 (by omega) | exact wr_i32 (by omega) | exact wr_u32 (by omega))); conv => whnf) | (refine WR_wrap ?_; conv => whnf) | (refine And.intro (a := indepB _ _ = true) ?_ ?_; (focus kernel_rfl); conv => whnf) | (refine And.intro rfl ?_; conv => whnf) | (refine And.intro ?_ ?_; (focus (first | omega | (simp at *; omega))); conv => whnf))
    rfl
theorem swo_bx : SWO (ltOf cfB) := by
  have e : ∀ a b, ltOf cfB a b = true ↔ (a.lo.x < b.lo.x ∨ (a.lo.x = b.lo.x ∧ a.at' < b.at')) := fun a b => by
    unfold ltOf cfB
    rw [decide_eq_true_iff]
    simp only [firstNZ, cmpI]
    split <;> (try split) <;> (try split) <;> (try split) <;> omega
  have e' : ∀ a b, ltOf cfB a b = false ↔ ¬ (a.lo.x < b.lo.x ∨ (a.lo.x = b.lo.x ∧ a.at' < b.at')) := fun a b => by
    rw [← e]; simp
  refine ⟨fun x => ?_, fun x y z h1 h2 => ?_, fun x y z h1 h2 => ?_⟩
  · rw [e']; omega
  · rw [e] at *; omega
  · rw [e'] at *; omega
end Go.Proofs.Ytfhdmhoeopbhnaa
set_option linter.unusedSimpArgs false
namespace Go.Proofs.Ytfhdmhoeopbhnaa
open Go.Proofs.Ytfhdmhoeopbhnaa.Am Go.Sort Go.Proofs
variable {G : GInv}
theorem sortBx_c (l : List Bx) (hl : l.length ≤ 1000000) (h0 : 0 < l.length) :
    MCalls Try.prog G 106 [.own 1, .fn 107 []] [.ghost [.own 1, .junk, .junk], .row 125 5 l.length (rowE eBx l)] (.tup []) [.ghost [.own 1, .junk, .junk], .row 125 5 l.length (rowE eBx (srt cfB l))] := by
  exact MCalls.sortFunc (ρ := Try.laySortBox_ren) Try.laySortBox 5 (by omega) (fun w => by kernel_rfl) (fun w => by kernel_rfl) eBx (fun _ => rfl) cfB swo_bx 107 [] rfl
    (fun x y => cloB_c (G := G) x y) ⟨_, _, Try.func106, rfl, rfl⟩ 125 l hl h0
def bx1 (l : List Sg) (i : Nat) : Bx := ⟨lowS (l.getD i default), highS (l.getD i default), i⟩
def bxK (l : List Sg) (k : Nat) : List Bx := (List.range k).map (bx1 l)
theorem bxK_len (l : List Sg) (k : Nat) : (bxK l k).length = k := by simp [bxK]
theorem bxK_succ (l : List Sg) (k : Nat) : bxK l (k + 1) = bxK l k ++ [bx1 l k] := by
  simp [bxK, List.range_succ]
theorem rowCat_bx (L : List Bx) (x : Bx) (r : Nat → List A) (hr : r 0 = bxA x) (i : Nat) (hi : i < L.length + 1) : rowCat L.length (rowE eBx L) r i = rowE eBx (L ++ [x]) i := by
  unfold rowCat
  split
  · rename_i h
    have h : i < L.length := Nat.le_of_ble_eq_true h
    simp only [rowE, List.getD_eq_getElem?_getD, List.getElem?_append_left h]
  · rename_i h
    have h : ¬ i < L.length := fun h' => by rw [show Nat.blt i L.length = true from Nat.ble_eq_true_of_le h'] at h; cases h
    have : i = L.length := by omega
    subst this
    simp [hr, rowE, List.getD_eq_getElem?_getD]
    rfl
set_option maxRecDepth 100000 in
set_option maxHeartbeats 2000000 in
theorem boxes_c (l : List Sg) (hl : l.length ≤ 400) (h0 : 0 < l.length) (hk : OkS l) : ACalls Try.prog G 73 [sgsA l] (.sl l.length 5 (rowE eBx (srt cfB (bxK l l.length)))) := by
  refine ACalls.of_WA ttok Try.func73 rfl rfl _ rfl ?_
  conv => whnf
  repeat (first | refine WA_seq ?_ | (refine WA_region ttok ?_; conv => whnf) | (refine WA_draw ttok mixed ?_; conv => whnf) | (refine WA_cond ?_; conv => whnf) | refine WA_block ?_ | (refine WA_skip ?_; conv => whnf) | (refine WA_exit ?_; conv => whnf) | (refine WA_ret ?_; conv => whnf))
  refine WA_nil 3 125 5 rfl ?_
  conv => whnf
  repeat (first | refine WA_seq ?_ | (refine WA_region ttok ?_; conv => whnf) | (refine WA_draw ttok mixed ?_; conv => whnf) | (refine WA_cond ?_; conv => whnf) | refine WA_block ?_ | (refine WA_skip ?_; conv => whnf) | (refine WA_exit ?_; conv => whnf) | (refine WA_ret ?_; conv => whnf))
  refine WA_loopI (fun k : Nat => k ≤ l.length) (fun k => [(10, .int .i64 (k : Int)), (3, .own 0)]) (fun k => [.row 125 5 (bxK l k).length (rowE eBx (bxK l k))]) (fun k => l.length - k) 0 (by omega) ?_ ?_
  · conv => whnf
    repeat (first | exact rfl | exact trivial | exact Or.inl (fun _ _ => rfl) | exact (fun _ => rfl) | exact (fun _ _ => rfl) | exact Or.inl (fun _ hi => absurd hi (Nat.not_lt_zero _)) | (refine And.intro rfl ?_; conv => whnf) | (refine And.intro (Or.inl (fun _ _ => rfl)) ?_; conv => whnf) | (refine And.intro (fun _ => rfl) ?_; conv => whnf) | (refine And.intro (fun _ _ => rfl) ?_; conv => whnf) | (refine And.intro ?_ ?_; rotate_left; conv => whnf))
  · intro k hkl
    have hbl := bxK_len l k
    conv => whnf
    repeat (first | refine WA_seq ?_ | (refine WA_region ttok ?_; conv => whnf) | (refine WA_draw ttok mixed ?_; conv => whnf) | (refine WA_cond ?_; conv => whnf) | refine WA_block ?_ | (refine WA_skip ?_; conv => whnf) | (refine WA_exit ?_; conv => whnf) | (refine WA_ret ?_; conv => whnf))
    refine ⟨fun h => ?_, fun h => ?_⟩
    · have h := of_decide_eq_true h
      have hbc := box_c (G := G) (l.getD k default) (hk k (by omega))
      conv => whnf
      repeat' (first | refine WA_seq ?_ | (refine WA_region ttok ?_; conv => whnf) | (refine WA_draw ttok mixed ?_; conv => whnf) | (refine WA_cond ?_; conv => whnf) | refine WA_block ?_ | (refine WA_skip ?_; conv => whnf) | (refine WA_exit ?_; conv => whnf) | (refine WA_ret ?_; conv => whnf) | (refine And.intro (fun h => ?_) (fun h => ?_) <;> (try simp only [brsA] at h) <;> conv => whnf) | (refine Or.inl ?_; (conv => whnf); refine Exists.intro _ (And.intro (hbc) ?_); conv => whnf) | (refine Or.inr (Or.inr (Or.inl ?_)); (conv => whnf); refine Exists.intro _ (And.intro (hbc) ?_); conv => whnf) | (refine Exists.intro _ (And.intro (hbc) ?_); conv => whnf) | (refine WR_fit ?_ ?_; (focus (first | exact wr_i64 (by omega) | exact wr_u64 (by omega) | exact wr_u8 (by omega) | exact wr_i32 (by omega) | exact wr_u32 (by omega))); conv => whnf) | (refine WR_wrap ?_; conv => whnf) | (refine And.intro (a := indepB _ _ = true) ?_ ?_; (focus kernel_rfl); conv => whnf) | (refine And.intro rfl ?_; conv => whnf) | (refine And.intro ?_ ?_; (focus (first | omega | (simp at *; omega))); conv => whnf))
      refine ⟨k + 1, (by show k + 1 ≤ l.length; omega), (by show l.length - (k + 1) < l.length - k; omega), ?_⟩
      conv => whnf
      repeat (first | exact rfl | exact trivial | exact Or.inl (fun _ _ => rfl) | exact (fun _ => rfl) | exact (fun _ _ => rfl) | exact Or.inl (fun _ hi => absurd hi (Nat.not_lt_zero _)) | (refine And.intro rfl ?_; conv => whnf) | (refine And.intro (Or.inl (fun _ _ => rfl)) ?_; conv => whnf) | (refine And.intro (fun _ => rfl) ?_; conv => whnf) | (refine And.intro (fun _ _ => rfl) ?_; conv => whnf) | (refine And.intro ?_ ?_; rotate_left; conv => whnf))
      · refine Or.inl fun i hi => ?_
        rw [bxK_succ]
        exact rowCat_bx (bxK l k) (bx1 l k) _ rfl i hi
      · rw [bxK_len, bxK_len]
    · have h := of_decide_eq_false h
      have hk4 : k = l.length := by omega
      subst hk4
      conv => whnf
      have hs := sortBx_c (G := G) (bxK l l.length) (by omega) (by omega)
      repeat' (first | refine WA_seq ?_ | (refine WA_region ttok ?_; conv => whnf) | (refine WA_draw ttok mixed ?_; conv => whnf) | (refine WA_cond ?_; conv => whnf) | refine WA_block ?_ | (refine WA_skip ?_; conv => whnf) | (refine WA_exit ?_; conv => whnf) | (refine WA_ret ?_; conv => whnf) | (refine And.intro (fun h => ?_) (fun h => ?_) <;> (try simp only [brsA] at h) <;> conv => whnf) | (refine Or.inr (Or.inl ?_); (conv => whnf); refine Exists.intro _ (Exists.intro _ (And.intro (hs) ?_)); conv => whnf) | (refine Exists.intro _ (And.intro (hs) ?_); conv => whnf) | (refine WR_fit ?_ ?_; (focus (first | exact wr_i64 (by omega) | exact wr_u64 (by omega) | exact wr_u8 (by omega) | exact wr_i32 (by omega) | exact wr_u32 (by omega))); conv => whnf) | (refine WR_wrap ?_; conv => whnf) | (refine And.intro (a := indepB _ _ = true) ?_ ?_; (focus kernel_rfl); conv => whnf) | (refine And.intro rfl ?_; conv => whnf) | (refine And.intro ?_ ?_; (focus (first | omega | (simp at *; omega))); conv => whnf))
      exact Or.inl fun _ _ => rfl
/-- The places in their order. -/
def ordL (l : List Sg) : List Int := (srt cfB (bxK l l.length)).map (·.at')
theorem chk_ok {l : List Sg} (h : chk l = 0) : l.length ≤ 400 ∧ OkS l := by
  unfold chk at h
  split at h
  · omega
  · split at h
    · exact ⟨by omega, by assumption⟩
    · omega
set_option maxRecDepth 100000 in
set_option maxHeartbeats 2000000 in
theorem order38_c (l : List Sg) (h0 : 0 < l.length) (hk : chk l = 0) : ACalls Try.prog G 38 [sgsA l] (intsA (ordL l)) := by
  have hc := check_c (G := G) l
  rw [hk] at hc
  have hb := boxes_c (G := G) l (chk_ok hk).1 h0 (chk_ok hk).2
  have hl := srt_len cfB swo_bx (bxK l l.length)
  refine ACalls.of_WA ttok Try.func38 rfl rfl _ rfl ?_
  conv => whnf
  repeat' (first | refine WA_seq ?_ | (refine WA_region ttok ?_; conv => whnf) | (refine WA_draw ttok mixed ?_; conv => whnf) | (refine WA_cond ?_; conv => whnf) | refine WA_block ?_ | (refine WA_skip ?_; conv => whnf) | (refine WA_exit ?_; conv => whnf) | (refine WA_ret ?_; conv => whnf) | (refine And.intro (fun h => ?_) (fun h => ?_) <;> (try simp only [brsA] at h) <;> conv => whnf) | (refine Or.inl ?_; (conv => whnf); refine Exists.intro _ (And.intro (hc) ?_); conv => whnf) | (refine Or.inr (Or.inr (Or.inl ?_)); (conv => whnf); refine Exists.intro _ (And.intro (hc) ?_); conv => whnf) | (refine Exists.intro _ (And.intro (hc) ?_); conv => whnf) | (refine Or.inl ?_; (conv => whnf); refine Exists.intro _ (And.intro (hb) ?_); conv => whnf) | (refine Or.inr (Or.inr (Or.inl ?_)); (conv => whnf); refine Exists.intro _ (And.intro (hb) ?_); conv => whnf) | (refine Exists.intro _ (And.intro (hb) ?_); conv => whnf) | (refine WR_fit ?_ ?_; (focus (first | exact wr_i64 (by omega) | exact wr_u64 (by omega) | exact wr_u8 (by omega) | exact wr_i32 (by omega) | exact wr_u32 (by omega))); conv => whnf) | (refine WR_wrap ?_; conv => whnf) | (refine And.intro (a := indepB _ _ = true) ?_ ?_; (focus kernel_rfl); conv => whnf) | (refine And.intro rfl ?_; conv => whnf) | (refine And.intro ?_ ?_; (focus (first | omega | (simp at *; omega))); conv => whnf))
  · exact absurd trivial h
  have hlb := bxK_len l l.length
  have hrow : ∀ i, i < l.length → (ordL l).getD i 0 = ((srt cfB (bxK l l.length)).getD i default).at' := fun i hi => by
    unfold ordL
    simp [List.getD_eq_getElem?_getD, show i < (srt cfB (bxK l l.length)).length by omega]
  refine WA_nil 3 3 1 rfl ?_
  conv => whnf
  refine WA_loopI (fun k : Nat => k ≤ l.length) (fun k => [(12, .int .i64 (k : Int)), (3, .own 0)]) (fun k => [.row 3 1 k (fun i => [.int .i64 ((ordL l).getD i 0)])]) (fun k => l.length - k) 0 (by omega) ?_ ?_
  · conv => whnf
    repeat (first | exact rfl | exact trivial | exact Or.inl (fun _ _ => rfl) | exact (fun _ => rfl) | exact (fun _ _ => rfl) | exact Or.inl (fun _ hi => absurd hi (Nat.not_lt_zero _)) | (refine And.intro rfl ?_; conv => whnf) | (refine And.intro (Or.inl (fun _ _ => rfl)) ?_; conv => whnf) | (refine And.intro (fun _ => rfl) ?_; conv => whnf) | (refine And.intro (fun _ _ => rfl) ?_; conv => whnf) | (refine And.intro ?_ ?_; rotate_left; conv => whnf))
  · intro k hkl
    have h400 := (chk_ok hk).1
    conv => whnf
    repeat' (first | refine WA_seq ?_ | (refine WA_region ttok ?_; conv => whnf) | (refine WA_draw ttok mixed ?_; conv => whnf) | (refine WA_cond ?_; conv => whnf) | refine WA_block ?_ | (refine WA_skip ?_; conv => whnf) | (refine WA_exit ?_; conv => whnf) | (refine WA_ret ?_; conv => whnf) | (refine And.intro (fun h => ?_) (fun h => ?_) <;> (try simp only [brsA] at h) <;> conv => whnf) | (refine WR_fit ?_ ?_; (focus (first | exact wr_i64 (by omega) | exact wr_u64 (by omega) | exact wr_u8 (by omega) | exact wr_i32 (by omega) | exact wr_u32 (by omega))); conv => whnf) | (refine WR_wrap ?_; conv => whnf) | (refine And.intro (a := indepB _ _ = true) ?_ ?_; (focus kernel_rfl); conv => whnf) | (refine And.intro rfl ?_; conv => whnf) | (refine And.intro ?_ ?_; (focus (first | omega | (simp at *; omega))); conv => whnf))
    · refine ⟨k + 1, (by show k + 1 ≤ l.length; omega), (by show l.length - (k + 1) < l.length - k; omega), ?_⟩
      conv => whnf
      repeat (first | exact rfl | exact trivial | exact Or.inl (fun _ _ => rfl) | exact (fun _ => rfl) | exact (fun _ _ => rfl) | exact Or.inl (fun _ hi => absurd hi (Nat.not_lt_zero _)) | (refine And.intro rfl ?_; conv => whnf) | (refine And.intro (Or.inl (fun _ _ => rfl)) ?_; conv => whnf) | (refine And.intro (fun _ => rfl) ?_; conv => whnf) | (refine And.intro (fun _ _ => rfl) ?_; conv => whnf) | (refine And.intro ?_ ?_; rotate_left; conv => whnf))
      refine Or.inl fun i hi => ?_
      unfold rowCat
      split
      · rfl
      · rename_i q
        have q : ¬ i < k := fun h' => by rw [show Nat.blt i k = true from Nat.ble_eq_true_of_le h'] at q; cases q
        have e : i = k := by omega
        subst e
        show _ = [A.int IntKind.i64 ((ordL l).getD i 0)]
        rw [Nat.sub_self, hrow i (by omega)]
        rfl
    · refine ⟨?_, Or.inl fun _ _ => rfl⟩
      have : (ordL l).length = l.length := by unfold ordL; rw [List.length_map]; omega
      omega
end Go.Proofs.Ytfhdmhoeopbhnaa
set_option linter.unusedSimpArgs false
namespace Go.Proofs.Ytfhdmhoeopbhnaa
open Go.Proofs.Ytfhdmhoeopbhnaa.Am Go.Sort Go.Proofs
variable {G : GInv}
set_option maxRecDepth 100000 in
theorem order38_bad (l : List Sg) (hk : chk l ≠ 0) : ACalls Try.prog G 38 [sgsA l] .nils := by
  have hc := check_c (G := G) l
  refine ACalls.of_WA ttok Try.func38 rfl rfl _ rfl ?_
  conv => whnf
  repeat' (first | refine WA_seq ?_ | (refine WA_region ttok ?_; conv => whnf) | (refine WA_draw ttok mixed ?_; conv => whnf) | (refine WA_cond ?_; conv => whnf) | refine WA_block ?_ | (refine WA_skip ?_; conv => whnf) | (refine WA_exit ?_; conv => whnf) | (refine WA_ret ?_; conv => whnf) | (refine And.intro (fun h => ?_) (fun h => ?_) <;> (try simp only [brsA] at h) <;> conv => whnf) | (refine Or.inl ?_; (conv => whnf); refine Exists.intro _ (And.intro (hc) ?_); conv => whnf) | (refine Or.inr (Or.inr (Or.inl ?_)); (conv => whnf); refine Exists.intro _ (And.intro (hc) ?_); conv => whnf) | (refine Exists.intro _ (And.intro (hc) ?_); conv => whnf) | (refine WR_fit ?_ ?_; (focus (first | exact wr_i64 (by omega) | exact wr_u64 (by omega) | exact wr_u8 (by omega) | exact wr_i32 (by omega) | exact wr_u32 (by omega))); conv => whnf) | (refine WR_wrap ?_; conv => whnf) | (refine And.intro (a := indepB _ _ = true) ?_ ?_; (focus kernel_rfl); conv => whnf) | (refine And.intro rfl ?_; conv => whnf) | (refine And.intro ?_ ?_; (focus (first | omega | (simp at *; omega))); conv => whnf))
  · trivial
  · exact absurd h hk
end Go.Proofs.Ytfhdmhoeopbhnaa
set_option linter.unusedSimpArgs false
namespace Go.Proofs.Ytfhdmhoeopbhnaa
open Go.Proofs.Ytfhdmhoeopbhnaa.Am Go.Sort Go.Proofs
variable {G : GInv}
def hulK (l : List Sg) : Nat → Sg
  | 0 => ⟨lowS (l.getD 0 default), highS (l.getD 0 default)⟩
  | k + 1 => ⟨⟨min (hulK l k).a.x (lowS (l.getD (k + 1) default)).x, min (hulK l k).a.y (lowS (l.getD (k + 1) default)).y⟩, ⟨max (hulK l k).b.x (highS (l.getD (k + 1) default)).x, max (hulK l k).b.y (highS (l.getD (k + 1) default)).y⟩⟩
set_option maxRecDepth 100000 in
set_option maxHeartbeats 2000000 in
theorem hull_c (l : List Sg) (h0 : 0 < l.length) (hk : chk l = 0) : ACalls Try.prog G 39 [sgsA l] (.tup [.agg (sgA (hulK l (l.length - 1))), .bool true]) := by
  have hc := check_c (G := G) l
  rw [hk] at hc
  have hb := box_c (G := G) (l.getD 0 default) ((chk_ok hk).2 0 h0)
  have h400 := (chk_ok hk).1
  refine ACalls.of_WA ttok Try.func39 rfl rfl _ rfl ?_
  conv => whnf
  repeat' (first | refine WA_seq ?_ | (refine WA_region ttok ?_; conv => whnf) | (refine WA_draw ttok mixed ?_; conv => whnf) | (refine WA_cond ?_; conv => whnf) | refine WA_block ?_ | (refine WA_skip ?_; conv => whnf) | (refine WA_exit ?_; conv => whnf) | (refine WA_ret ?_; conv => whnf) | (refine And.intro (fun h => ?_) (fun h => ?_) <;> (try simp only [brsA] at h) <;> conv => whnf) | (refine Or.inl ?_; (conv => whnf); refine Exists.intro _ (And.intro (hc) ?_); conv => whnf) | (refine Or.inr (Or.inr (Or.inl ?_)); (conv => whnf); refine Exists.intro _ (And.intro (hc) ?_); conv => whnf) | (refine Exists.intro _ (And.intro (hc) ?_); conv => whnf) | (refine Or.inl ?_; (conv => whnf); refine Exists.intro _ (And.intro (hb) ?_); conv => whnf) | (refine Or.inr (Or.inr (Or.inl ?_)); (conv => whnf); refine Exists.intro _ (And.intro (hb) ?_); conv => whnf) | (refine Exists.intro _ (And.intro (hb) ?_); conv => whnf) | (refine WR_fit ?_ ?_; (focus (first | exact wr_i64 (by omega) | exact wr_u64 (by omega) | exact wr_u8 (by omega) | exact wr_i32 (by omega) | exact wr_u32 (by omega))); conv => whnf) | (refine WR_wrap ?_; conv => whnf) | (refine And.intro (a := indepB _ _ = true) ?_ ?_; (focus kernel_rfl); conv => whnf) | (refine And.intro rfl ?_; conv => whnf) | (refine And.intro ?_ ?_; (focus (first | omega | (simp at *; omega))); conv => whnf))
  · exact absurd trivial h
  · refine WA_loopI (fun k : Nat => k ≤ l.length - 1) (fun k => [(29, .int .i64 (k : Int))]) (fun k => [.box 62 [.int .i64 0, .int .i64 0, .int .i64 0, .int .i64 0], .box 60 (ptA (hulK l k).a), .box 60 (ptA (hulK l k).b)]) (fun k => l.length - 1 - k) 0 (by omega) ?_ ?_
    · conv => whnf
      repeat (first | exact rfl | exact trivial | exact Or.inl (fun _ _ => rfl) | exact (fun _ => rfl) | exact (fun _ _ => rfl) | exact Or.inl (fun _ hi => absurd hi (Nat.not_lt_zero _)) | (refine And.intro rfl ?_; conv => whnf) | (refine And.intro (Or.inl (fun _ _ => rfl)) ?_; conv => whnf) | (refine And.intro (fun _ => rfl) ?_; conv => whnf) | (refine And.intro (fun _ _ => rfl) ?_; conv => whnf) | (refine And.intro ?_ ?_; rotate_left; conv => whnf))
    · intro k hkl
      conv => whnf
      repeat (first | refine WA_seq ?_ | (refine WA_region ttok ?_; conv => whnf) | (refine WA_draw ttok mixed ?_; conv => whnf) | (refine WA_cond ?_; conv => whnf) | refine WA_block ?_ | (refine WA_skip ?_; conv => whnf) | (refine WA_exit ?_; conv => whnf) | (refine WA_ret ?_; conv => whnf))
      refine ⟨fun h => ?_, fun h => ?_⟩
      · have h := of_decide_eq_true h
        have hbc := box_c (G := G) (l.getD (1 + k) default) ((chk_ok hk).2 (1 + k) (by omega))
        conv => whnf
        repeat' (first | refine WA_seq ?_ | (refine WA_region ttok ?_; conv => whnf) | (refine WA_draw ttok mixed ?_; conv => whnf) | (refine WA_cond ?_; conv => whnf) | refine WA_block ?_ | (refine WA_skip ?_; conv => whnf) | (refine WA_exit ?_; conv => whnf) | (refine WA_ret ?_; conv => whnf) | (refine And.intro (fun h => ?_) (fun h => ?_) <;> (try simp only [brsA] at h) <;> conv => whnf) | (refine Or.inl ?_; (conv => whnf); refine Exists.intro _ (And.intro (hbc) ?_); conv => whnf) | (refine Or.inr (Or.inr (Or.inl ?_)); (conv => whnf); refine Exists.intro _ (And.intro (hbc) ?_); conv => whnf) | (refine Exists.intro _ (And.intro (hbc) ?_); conv => whnf) | (refine WR_fit ?_ ?_; (focus (first | exact wr_i64 (by omega) | exact wr_u64 (by omega) | exact wr_u8 (by omega) | exact wr_i32 (by omega) | exact wr_u32 (by omega))); conv => whnf) | (refine WR_wrap ?_; conv => whnf) | (refine And.intro (a := indepB _ _ = true) ?_ ?_; (focus kernel_rfl); conv => whnf) | (refine And.intro rfl ?_; conv => whnf) | (refine And.intro ?_ ?_; (focus (first | omega | (simp at *; omega))); conv => whnf))
        refine ⟨k + 1, (by show k + 1 ≤ l.length - 1; omega), (by show l.length - 1 - (k + 1) < l.length - 1 - k; omega), ?_⟩
        conv => whnf
        repeat (first | exact rfl | exact trivial | exact Or.inl (fun _ _ => rfl) | exact (fun _ => rfl) | exact (fun _ _ => rfl) | exact Or.inl (fun _ hi => absurd hi (Nat.not_lt_zero _)) | (refine And.intro rfl ?_; conv => whnf) | (refine And.intro (Or.inl (fun _ _ => rfl)) ?_; conv => whnf) | (refine And.intro (fun _ => rfl) ?_; conv => whnf) | (refine And.intro (fun _ _ => rfl) ?_; conv => whnf) | (refine And.intro ?_ ?_; rotate_left; conv => whnf))
        all_goals rw [Nat.add_comm 1 k]
        · exact max_if _ _
        · exact min_if _ _
        · exact min_if _ _
        · exact max_if _ _
      · have h := of_decide_eq_false h
        conv => whnf
        repeat' (first | refine WA_seq ?_ | (refine WA_region ttok ?_; conv => whnf) | (refine WA_draw ttok mixed ?_; conv => whnf) | (refine WA_cond ?_; conv => whnf) | refine WA_block ?_ | (refine WA_skip ?_; conv => whnf) | (refine WA_exit ?_; conv => whnf) | (refine WA_ret ?_; conv => whnf) | (refine And.intro (fun h => ?_) (fun h => ?_) <;> (try simp only [brsA] at h) <;> conv => whnf) | (refine WR_fit ?_ ?_; (focus (first | exact wr_i64 (by omega) | exact wr_u64 (by omega) | exact wr_u8 (by omega) | exact wr_i32 (by omega) | exact wr_u32 (by omega))); conv => whnf) | (refine WR_wrap ?_; conv => whnf) | (refine And.intro (a := indepB _ _ = true) ?_ ?_; (focus kernel_rfl); conv => whnf) | (refine And.intro rfl ?_; conv => whnf) | (refine And.intro ?_ ?_; (focus (first | omega | (simp at *; omega))); conv => whnf))
        have e : k = l.length - 1 := by omega
        rw [e]
        conv => whnf
        repeat (first | exact rfl | exact trivial | exact Or.inl (fun _ _ => rfl) | exact (fun _ => rfl) | exact (fun _ _ => rfl) | exact Or.inl (fun _ hi => absurd hi (Nat.not_lt_zero _)) | (refine And.intro rfl ?_; conv => whnf) | (refine And.intro (Or.inl (fun _ _ => rfl)) ?_; conv => whnf) | (refine And.intro (fun _ => rfl) ?_; conv => whnf) | (refine And.intro (fun _ _ => rfl) ?_; conv => whnf) | (refine And.intro ?_ ?_; rotate_left; conv => whnf))
  · omega
end Go.Proofs.Ytfhdmhoeopbhnaa
set_option linter.unusedSimpArgs false
namespace Go.Proofs.Ytfhdmhoeopbhnaa
open Go.Proofs.Ytfhdmhoeopbhnaa.Am Go.Sort Go.Proofs
variable {G : GInv}
set_option maxRecDepth 100000 in
theorem hull_bad (l : List Sg) (hb : l.length = 0 ∨ chk l ≠ 0) : ACalls Try.prog G 39 [sgsA l] (.tup [.agg [.int .i64 0, .int .i64 0, .int .i64 0, .int .i64 0], .bool false]) := by
  have hc := check_c (G := G) l
  refine ACalls.of_WA ttok Try.func39 rfl rfl _ rfl ?_
  conv => whnf
  repeat' (first | refine WA_seq ?_ | (refine WA_region ttok ?_; conv => whnf) | (refine WA_draw ttok mixed ?_; conv => whnf) | (refine WA_cond ?_; conv => whnf) | refine WA_block ?_ | (refine WA_skip ?_; conv => whnf) | (refine WA_exit ?_; conv => whnf) | (refine WA_ret ?_; conv => whnf) | (refine And.intro (fun h => ?_) (fun h => ?_) <;> (try simp only [brsA] at h) <;> conv => whnf) | (refine Or.inl ?_; (conv => whnf); refine Exists.intro _ (And.intro (hc) ?_); conv => whnf) | (refine Or.inr (Or.inr (Or.inl ?_)); (conv => whnf); refine Exists.intro _ (And.intro (hc) ?_); conv => whnf) | (refine Exists.intro _ (And.intro (hc) ?_); conv => whnf) | (refine WR_fit ?_ ?_; (focus (first | exact wr_i64 (by omega) | exact wr_u64 (by omega) | exact wr_u8 (by omega) | exact wr_i32 (by omega) | exact wr_u32 (by omega))); conv => whnf) | (refine WR_wrap ?_; conv => whnf) | (refine And.intro (a := indepB _ _ = true) ?_ ?_; (focus kernel_rfl); conv => whnf) | (refine And.intro rfl ?_; conv => whnf) | (refine And.intro ?_ ?_; (focus (first | omega | (simp at *; omega))); conv => whnf))
  rcases hb with hb | hb
  · omega
  · exact absurd h hb
end Go.Proofs.Ytfhdmhoeopbhnaa
set_option linter.unusedSimpArgs false
namespace Go.Proofs.Ytfhdmhoeopbhnaa
open Go.Proofs.Ytfhdmhoeopbhnaa.Am Go.Sort Go.Proofs
variable {G : GInv}
/-! ### The boxes, sorted: the plain law -/
def sB (l : List Sg) : List Bx := srt cfB (bxK l l.length)
theorem sB_len (l : List Sg) : (sB l).length = l.length := by unfold sB; rw [srt_len cfB swo_bx, bxK_len]
theorem getD_mem' {α : Type} [Inhabited α] {L : List α} {i : Nat} (h : i < L.length) : L.getD i default ∈ L := by
  rw [List.getD_eq_getElem?_getD, List.getElem?_eq_getElem h]; exact List.getElem_mem _
theorem mem_getD' {α : Type} [Inhabited α] {L : List α} {x : α} (h : x ∈ L) : ∃ i, i < L.length ∧ L.getD i default = x := by
  obtain ⟨i, hi, e⟩ := List.getElem_of_mem h
  exact ⟨i, hi, by rw [List.getD_eq_getElem?_getD, List.getElem?_eq_getElem hi]; exact e⟩
theorem bxK_mem {l : List Sg} {k : Nat} {b : Bx} : b ∈ bxK l k ↔ ∃ j, j < k ∧ bx1 l j = b := by simp [bxK]
theorem sB_mem {l : List Sg} {b : Bx} : b ∈ sB l ↔ ∃ j, j < l.length ∧ bx1 l j = b := by
  unfold sB
  rw [(srt_facts cfB swo_bx (bxK l l.length)).1.mem_iff, bxK_mem]
theorem sB_get (l : List Sg) {i : Nat} (h : i < l.length) : ∃ j, j < l.length ∧ bx1 l j = (sB l).getD i default :=
  sB_mem.1 (getD_mem' (by rw [sB_len]; exact h))
theorem sB_has (l : List Sg) {j : Nat} (h : j < l.length) : ∃ i, i < l.length ∧ (sB l).getD i default = bx1 l j := by
  obtain ⟨i, hi, e⟩ := mem_getD' (sB_mem.2 ⟨j, h, rfl⟩)
  exact ⟨i, by rw [sB_len] at hi; exact hi, e⟩
theorem bxK_nodup (l : List Sg) (k : Nat) : ((bxK l k).map (·.at')).Nodup := by
  have e : (bxK l k).map (·.at') = (List.range k).map (fun i : Nat => (i : Int)) := by
    unfold bxK; rw [List.map_map]; rfl
  rw [e]
  unfold List.Nodup
  rw [List.pairwise_map]
  exact (List.nodup_range (n := k)).imp (fun h e => h (Int.ofNat.inj e))
theorem nodup_getD {α : Type} [Inhabited α] {L : List α} (h : L.Nodup) {i k : Nat} (hi : i < L.length) (hk : k < L.length) (e : L.getD i default = L.getD k default) : i = k := by
  rw [List.getD_eq_getElem?_getD, List.getD_eq_getElem?_getD, List.getElem?_eq_getElem hi, List.getElem?_eq_getElem hk] at e
  simp only [Option.getD_some] at e
  have hp := List.pairwise_iff_getElem.1 h
  rcases Nat.lt_trichotomy i k with q | q | q
  · exact absurd e (hp i k hi hk q)
  · exact q
  · exact absurd e.symm (hp k i hk hi q)
theorem sB_inj (l : List Sg) {i k : Nat} (hi : i < l.length) (hk : k < l.length) (e : ((sB l).getD i default).at' = ((sB l).getD k default).at') : i = k := by
  have hn : ((sB l).map (·.at')).Nodup := ((srt_facts cfB swo_bx (bxK l l.length)).1.map _).nodup_iff.2 (bxK_nodup l l.length)
  have hl := sB_len l
  have g : ∀ t, t < l.length → ((sB l).map (·.at')).getD t default = ((sB l).getD t default).at' := fun t ht => by
    simp [List.getD_eq_getElem?_getD, show t < (sB l).length by omega]
  exact nodup_getD hn (by simpa using by omega) (by simpa using by omega) (by rw [g i hi, g k hk]; exact e)
theorem sB_ord (l : List Sg) {i j : Nat} (hij : i < j) (hj : j < l.length) :
    ((sB l).getD i default).lo.x < ((sB l).getD j default).lo.x ∨ (((sB l).getD i default).lo.x = ((sB l).getD j default).lo.x ∧ ((sB l).getD i default).at' < ((sB l).getD j default).at') := by
  have h := (srt_facts cfB swo_bx (bxK l l.length)).2 i j hij (by rw [bxK_len]; exact hj)
  have hne : ((sB l).getD i default).at' ≠ ((sB l).getD j default).at' := fun e => by have := sB_inj l (by omega) hj e; omega
  unfold ltOf cfB at h
  have h := of_decide_eq_false h
  change ¬ (firstNZ [cmpI ((sB l).getD j default).lo.x ((sB l).getD i default).lo.x, cmpI ((sB l).getD j default).at' ((sB l).getD i default).at'] < 0) at h
  simp only [firstNZ, cmpI] at h
  revert h
  split <;> (try split) <;> (try split) <;> (try split) <;> omega
theorem hulK_le (l : List Sg) : ∀ (k j : Nat), j ≤ k → (hulK l k).a.x ≤ (lowS (l.getD j default)).x ∧ (hulK l k).a.y ≤ (lowS (l.getD j default)).y ∧ (highS (l.getD j default)).x ≤ (hulK l k).b.x ∧ (highS (l.getD j default)).y ≤ (hulK l k).b.y
  | 0, j, h => by
    have : j = 0 := by omega
    subst this
    simp [hulK]
  | k + 1, j, h => by
    rcases Nat.lt_or_eq_of_le h with q | q
    · have := hulK_le l k j (by omega)
      simp only [hulK]; omega
    · subst q; simp only [hulK]; omega
theorem hulK_lo (l : List Sg) : ∀ k : Nat, ∃ j, j ≤ k ∧ (lowS (l.getD j default)).x = (hulK l k).a.x
  | 0 => ⟨0, by omega, by simp [hulK]⟩
  | k + 1 => by
    obtain ⟨j, h1, h2⟩ := hulK_lo l k
    by_cases q : (hulK l k).a.x ≤ (lowS (l.getD (k + 1) default)).x
    · exact ⟨j, by omega, by simp only [hulK]; omega⟩
    · exact ⟨k + 1, by omega, by simp only [hulK]; omega⟩
theorem hulK_hi (l : List Sg) : ∀ k : Nat, ∃ j, j ≤ k ∧ (highS (l.getD j default)).y = (hulK l k).b.y
  | 0 => ⟨0, by omega, by simp [hulK]⟩
  | k + 1 => by
    obtain ⟨j, h1, h2⟩ := hulK_hi l k
    by_cases q : (highS (l.getD (k + 1) default)).y ≤ (hulK l k).b.y
    · exact ⟨j, by omega, by simp only [hulK]; omega⟩
    · exact ⟨k + 1, by omega, by simp only [hulK]; omega⟩
end Go.Proofs.Ytfhdmhoeopbhnaa

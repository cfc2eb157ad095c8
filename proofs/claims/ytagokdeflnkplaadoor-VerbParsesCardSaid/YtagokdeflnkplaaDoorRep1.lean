/-
  Words and lines; joined words, parted again.
-/
import Derived.Test.YtagokdeflnkplaaDoorWords
import Derived.Test.YtagokdeflnkplaaDoorNum1
import Derived.Test.YtagokdeflnkplaaDoorNum3
import Derived.Test.YtagokdeflnkplaaDoorNum2
import Derived.Test.YtagokdeflnkplaaDoorAm4
set_option linter.unusedSimpArgs false
namespace Go.Proofs.YtagokdeflnkplaaDoor
open Go.Proofs.YtagokdeflnkplaaDoor.Am Go.Lib
def near60 (n : Int) : Prop := -1152921504606846976 ≤ n ∧ n ≤ 1152921504606846976
instance (n : Int) : Decidable (near60 n) := inferInstanceAs (Decidable (_ ∧ _))
def nearL (ns : List Int) : Prop := ∀ i, i < ns.length → near60 (ns.getD i 0)
instance (ns : List Int) : Decidable (nearL ns) := inferInstanceAs (Decidable (∀ i, i < ns.length → _))
/-! #### The bytes of a word -/
theorem wordP_of {s : List UInt8} (h : s ≠ []) (hb : (s.all fun b => Nat.ble 33 b.toNat && Nat.ble b.toNat 126) = true) : wordP s := by
  refine ⟨h, fun b hm => ?_⟩
  have := List.all_eq_true.1 hb b hm
  rw [Bool.and_eq_true] at this
  exact ⟨Nat.le_of_ble_eq_true this.1, Nat.le_of_ble_eq_true this.2⟩
theorem itoa_word (n : Int) : wordP (Lib.itoa n) := by
  have hd : ∀ u, wordP (Lib.decDigits u) := fun u => ⟨dd_ne u, fun b hb => by have := dd_digit u b hb; unfold isD at this; unfold okB; omega⟩
  unfold Lib.itoa
  split
  · refine ⟨by simp, fun b hb => ?_⟩
    rcases List.mem_cons.1 hb with h | h
    · subst h; unfold okB; decide
    · exact (hd _).2 b h
  · exact hd _
theorem allW_of {l : List (List UInt8)} (h : ∀ x ∈ l, wordP x) : allW l := fun i hi => by
  rw [List.getD_eq_getElem?_getD, List.getElem?_eq_getElem hi]
  exact h _ (List.getElem_mem hi)
theorem errL_iff : ∀ l : List (List UInt8), errL l = 0 ↔ ∀ x ∈ l, (parseN x).2 = 0
  | [] => by simp [errL]
  | x :: l => by
    unfold errL
    rw [List.forall_mem_cons, ← errL_iff l]
    split <;> simp_all
theorem itoa_numL (l : List (List UInt8)) (h : errL l = 0) : (numL l).map Lib.itoa = l := by
  rw [errL_iff] at h
  unfold numL
  rw [List.map_map]
  conv => rhs; rw [← List.map_id l]
  refine List.map_congr_left fun x hx => one_law x (h x hx)
theorem parseN_near (s : List UInt8) : near60 (parseN s).1 := by
  unfold parseN near60
  split
  · split
    · omega
    · split <;> simp only <;> omega
  · simp
theorem near_all {ns : List Int} : nearL ns ↔ ∀ n ∈ ns, near60 n := by
  constructor
  · intro h n hn
    obtain ⟨i, hi, rfl⟩ := List.getElem_of_mem hn
    have := h i hi
    rwa [List.getD_eq_getElem?_getD, List.getElem?_eq_getElem hi] at this
  · intro h i hi
    rw [List.getD_eq_getElem?_getD, List.getElem?_eq_getElem hi]
    exact h _ (List.getElem_mem hi)
end Go.Proofs.YtagokdeflnkplaaDoor
set_option linter.unusedSimpArgs false
namespace Go.Proofs.YtagokdeflnkplaaDoor
open Go.Proofs.YtagokdeflnkplaaDoor.Am Go.Lib
variable {G : GInv}
def firstAt (p : Nat → Bool) : Nat → Nat → Int
  | 0, _ => -1
  | k + 1, i => if p i = true then (i : Int) else firstAt p k (i + 1)
theorem firstAt_step (p : Nat → Bool) {n i : Nat} (h : i < n) : firstAt p (n - i) i = if p i = true then (i : Int) else firstAt p (n - (i + 1)) (i + 1) := by
  rw [show n - i = (n - (i + 1)) + 1 by omega]; rfl
theorem firstAt_ge (p : Nat → Bool) : ∀ n i, 0 ≤ firstAt p n i ↔ ∃ j, i ≤ j ∧ j < i + n ∧ p j = true
  | 0, i => by
    constructor
    · intro h; unfold firstAt at h; omega
    · rintro ⟨j, h1, h2, _⟩; omega
  | n + 1, i => by
    unfold firstAt
    split
    · rename_i h
      exact ⟨fun _ => ⟨i, Nat.le_refl _, by omega, h⟩, fun _ => by omega⟩
    · rename_i h
      rw [firstAt_ge p n (i + 1)]
      constructor
      · rintro ⟨j, h1, h2, h3⟩; exact ⟨j, by omega, by omega, h3⟩
      · rintro ⟨j, h1, h2, h3⟩
        refine ⟨j, ?_, by omega, h3⟩
        rcases Nat.lt_or_eq_of_le h1 with q | q
        · omega
        · subst q; exact absurd h3 h
theorem indexFunc_c (l : List Int) (f : Nat) (p : Int → Bool) (hl : l.length ≤ 1000000) (hp : ∀ n, ACalls Tryd.prog G f [.int .i64 n] (.sb (p n))) :
    ACalls Tryd.prog G 81 [intsA l, .fn f []] (.int .i64 (firstAt (fun i => p (l.getD i 0)) l.length 0)) := by
  refine ACalls.of_WA ttok Tryd.func81 rfl rfl _ rfl ?_
  conv => whnf
  repeat' (first | refine WA_seq ?_ | (refine WA_region ttok ?_; conv => whnf) | (refine WA_draw ttok mixed ?_; conv => whnf) | (refine WA_cond ?_; conv => whnf) | refine WA_block ?_ | (refine WA_skip ?_; conv => whnf) | (refine WA_exit ?_; conv => whnf) | (refine WA_ret ?_; conv => whnf) | (refine And.intro (fun h => ?_) (fun h => ?_) <;> (try simp only [brsA] at h) <;> conv => whnf) | (refine WR_fit ?_ ?_; (focus (first | exact wr_i64 (by omega) | exact wr_u64 (by omega) | exact wr_u8 (by omega) | exact wr_i32 (by omega) | exact wr_u32 (by omega))); conv => whnf) | (refine WR_wrap ?_; conv => whnf) | (refine And.intro (a := indepB _ _ = true) ?_ ?_; (focus kernel_rfl); conv => whnf) | (refine And.intro rfl ?_; conv => whnf) | (refine And.intro ?_ ?_; (focus (first | omega | decide | (dsimp only; omega) | (simp at *; omega))); conv => whnf))
  refine WA_loopI (fun i : Nat => i ≤ l.length ∧ firstAt (fun i => p (l.getD i 0)) l.length 0 = firstAt (fun i => p (l.getD i 0)) (l.length - i) i) (fun i => [(8, .int .i64 (i : Int))]) (fun _ => []) (fun i => l.length - i) 0 ⟨by omega, rfl⟩ ?_ ?_
  · conv => whnf
    repeat (first | exact rfl | exact trivial | exact Or.inl (fun _ _ => rfl) | exact (fun _ => rfl) | exact (fun _ _ => rfl) | exact Or.inl (fun _ hi => absurd hi (Nat.not_lt_zero _)) | (refine And.intro rfl ?_; conv => whnf) | (refine And.intro (Or.inl (fun _ _ => rfl)) ?_; conv => whnf) | (refine And.intro (fun _ => rfl) ?_; conv => whnf) | (refine And.intro (fun _ _ => rfl) ?_; conv => whnf) | (refine And.intro ?_ ?_; rotate_left; conv => whnf))
  · rintro i ⟨hi, he⟩
    conv => whnf
    repeat' (first | refine WA_seq ?_ | (refine WA_region ttok ?_; conv => whnf) | (refine WA_draw ttok mixed ?_; conv => whnf) | (refine WA_cond ?_; conv => whnf) | refine WA_block ?_ | (refine WA_skip ?_; conv => whnf) | (refine WA_exit ?_; conv => whnf) | (refine WA_ret ?_; conv => whnf) | (refine And.intro (fun h => ?_) (fun h => ?_) <;> (try simp only [brsA] at h) <;> conv => whnf) | (refine Or.inl ?_; (conv => whnf); refine Exists.intro _ (And.intro (hp (l.getD i 0)) ?_); conv => whnf) | (refine Or.inr (Or.inr (Or.inl ?_)); (conv => whnf); refine Exists.intro _ (And.intro (hp (l.getD i 0)) ?_); conv => whnf) | (refine Exists.intro _ (And.intro (hp (l.getD i 0)) ?_); conv => whnf) | (refine WR_fit ?_ ?_; (focus (first | exact wr_i64 (by omega) | exact wr_u64 (by omega) | exact wr_u8 (by omega) | exact wr_i32 (by omega) | exact wr_u32 (by omega))); conv => whnf) | (refine WR_wrap ?_; conv => whnf) | (refine And.intro (a := indepB _ _ = true) ?_ ?_; (focus kernel_rfl); conv => whnf) | (refine And.intro rfl ?_; conv => whnf) | (refine And.intro ?_ ?_; (focus (first | omega | decide | (dsimp only; omega) | (simp at *; omega))); conv => whnf))
    · rw [he, firstAt_step _ (show i < l.length by omega), if_pos h]
    · refine ⟨i + 1, ⟨by omega, by rw [he, firstAt_step _ (show i < l.length by omega), if_neg (by rw [h]; simp)]⟩, (by show l.length - (i + 1) < l.length - i; omega), ?_⟩
      conv => whnf
      repeat (first | exact rfl | exact trivial | exact Or.inl (fun _ _ => rfl) | exact (fun _ => rfl) | exact (fun _ _ => rfl) | exact Or.inl (fun _ hi => absurd hi (Nat.not_lt_zero _)) | (refine And.intro rfl ?_; conv => whnf) | (refine And.intro (Or.inl (fun _ _ => rfl)) ?_; conv => whnf) | (refine And.intro (fun _ => rfl) ?_; conv => whnf) | (refine And.intro (fun _ _ => rfl) ?_; conv => whnf) | (refine And.intro ?_ ?_; rotate_left; conv => whnf))
    · rw [he, show l.length - i = 0 by omega]; rfl
theorem containsFunc_c (l : List Int) (f : Nat) (p : Int → Bool) (hl : l.length ≤ 1000000) (hp : ∀ n, ACalls Tryd.prog G f [.int .i64 n] (.sb (p n))) :
    ACalls Tryd.prog G 47 [intsA l, .fn f []] (.sb (decide (∃ i, i < l.length ∧ p (l.getD i 0) = true))) := by
  have hf := firstAt_ge (fun i => p (l.getD i 0)) l.length 0
  have e : decide (0 ≤ firstAt (fun i => p (l.getD i 0)) l.length 0) = decide (∃ i, i < l.length ∧ p (l.getD i 0) = true) := by
    apply decide_eq_decide.2
    rw [hf]
    exact ⟨fun ⟨j, _, h2, h3⟩ => ⟨j, by omega, h3⟩, fun ⟨j, h2, h3⟩ => ⟨j, by omega, by omega, h3⟩⟩
  rw [← e]
  refine ACalls.of_WA ttok Tryd.func47 rfl rfl _ rfl ?_
  conv => whnf
  repeat' (first | refine WA_seq ?_ | (refine WA_region ttok ?_; conv => whnf) | (refine WA_draw ttok mixed ?_; conv => whnf) | (refine WA_cond ?_; conv => whnf) | refine WA_block ?_ | (refine WA_skip ?_; conv => whnf) | (refine WA_exit ?_; conv => whnf) | (refine WA_ret ?_; conv => whnf) | (refine And.intro (fun h => ?_) (fun h => ?_) <;> (try simp only [brsA] at h) <;> conv => whnf) | (refine Or.inl ?_; (conv => whnf); refine Exists.intro _ (And.intro (indexFunc_c l f p hl hp) ?_); conv => whnf) | (refine Or.inr (Or.inr (Or.inl ?_)); (conv => whnf); refine Exists.intro _ (And.intro (indexFunc_c l f p hl hp) ?_); conv => whnf) | (refine Exists.intro _ (And.intro (indexFunc_c l f p hl hp) ?_); conv => whnf) | (refine WR_fit ?_ ?_; (focus (first | exact wr_i64 (by omega) | exact wr_u64 (by omega) | exact wr_u8 (by omega) | exact wr_i32 (by omega) | exact wr_u32 (by omega))); conv => whnf) | (refine WR_wrap ?_; conv => whnf) | (refine And.intro (a := indepB _ _ = true) ?_ ?_; (focus kernel_rfl); conv => whnf) | (refine And.intro rfl ?_; conv => whnf) | (refine And.intro ?_ ?_; (focus (first | omega | decide | (dsimp only; omega) | (simp at *; omega))); conv => whnf))
def far60 (n : Int) : Bool := decide (¬ near60 n)
theorem all_near {ns : List Int} : (∃ i, i < ns.length ∧ far60 (ns.getD i 0) = true) ↔ ¬ nearL ns := by
  constructor
  · rintro ⟨i, h1, h2⟩ h
    exact of_decide_eq_true h2 (h i h1)
  · intro h
    refine Decidable.byContradiction fun q => h fun i hi => ?_
    refine Decidable.byContradiction fun z => q ⟨i, hi, decide_eq_true z⟩
end Go.Proofs.YtagokdeflnkplaaDoor
set_option linter.unusedSimpArgs false
namespace Go.Proofs.YtagokdeflnkplaaDoor
open Go.Proofs.YtagokdeflnkplaaDoor.Am Go.Lib
variable {G : GInv}
theorem i64_near {n : Int} (h : near60 n) : -9223372036854775808 ≤ n ∧ n ≤ 9223372036854775807 := by unfold near60 at h; omega
end Go.Proofs.YtagokdeflnkplaaDoor
set_option linter.unusedSimpArgs false
namespace Go.Proofs.YtagokdeflnkplaaDoor
open Go.Proofs.YtagokdeflnkplaaDoor.Am Go.Lib
variable {G : GInv}
end Go.Proofs.YtagokdeflnkplaaDoor
set_option linter.unusedSimpArgs false
namespace Go.Proofs.YtagokdeflnkplaaDoor
open Go.Proofs.YtagokdeflnkplaaDoor.Am Go.Lib
/-! ### Ways as texts -/
abbrev Run := Int × Int
/-- Every run is one at least, and no neighbour is the same way. -/
inductive GoodR : List Run → Prop
  | nil : GoodR []
  | one (x : Run) (h : 1 ≤ x.1) : GoodR [x]
  | snoc (R : List Run) (x y : Run) (hR : GoodR (R ++ [x])) (h : 1 ≤ y.1) (hn : x.2 ≠ y.2) : GoodR (R ++ [x] ++ [y])
end Go.Proofs.YtagokdeflnkplaaDoor
set_option linter.unusedSimpArgs false
namespace Go.Proofs.YtagokdeflnkplaaDoor
open Go.Proofs.YtagokdeflnkplaaDoor.Am Go.Lib
variable {G : GInv}
def rowR (L : List Run) : Nat → List A := fun i => [.int .i64 (L.getD i (0, 0)).1, .int .i64 (L.getD i (0, 0)).2]
def runsA (L : List Run) : A := .sl L.length 2 (rowR L)
end Go.Proofs.YtagokdeflnkplaaDoor

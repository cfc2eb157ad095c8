/-
  Lines of commands, commands of lines; the walk of verb.Parse.
-/
import Derived.Test.YtagokdeflnkplaaDoorVerb1
import Derived.Test.YtagokdeflnkplaaDoorIns
set_option linter.unusedSimpArgs false
namespace Go.Proofs.YtagokdeflnkplaaDoor
open Go.Proofs.YtagokdeflnkplaaDoor.Am Go.Lib
variable {G : GInv}
def sum3 (n0 n1 n2 i : Nat) : Nat := [0, n0, n0 + n1, n0 + n1 + n2].getD i 0
set_option maxRecDepth 100000 in
set_option maxHeartbeats 4000000 in
theorem concat3_c (n0 n1 n2 : Nat) (r0 r1 r2 : Nat → List A) (L : List (List UInt8)) (hL : L.length = n0 + n1 + n2) (h1 : 1 ≤ L.length) (h2 : L.length ≤ 100000)
    (g0 : ∀ j, j < n0 → r0 j = [.str (L.getD (0 + j) [])]) (g1 : ∀ j, j < n1 → r1 j = [.str (L.getD (n0 + j) [])]) (g2 : ∀ j, j < n2 → r2 j = [.str (L.getD (n0 + n1 + j) [])]) :
    ACalls Tryd.prog G 92 [.sl 3 1 (fun i => takeL 1 (List.drop (i * 1) [A.sl n0 1 r0, A.sl n1 1 r1, A.sl n2 1 r2]))] (strsA L) := by
  have hg := grow_c (G := G) (sum3 n0 n1 n2 3) (by show 1 ≤ n0 + n1 + n2; omega) (by show n0 + n1 + n2 ≤ 1000000; omega)
  have s0 : sum3 n0 n1 n2 0 = 0 := rfl
  have s1 : sum3 n0 n1 n2 1 = n0 := rfl
  have s2 : sum3 n0 n1 n2 2 = n0 + n1 := rfl
  have s3 : sum3 n0 n1 n2 3 = n0 + n1 + n2 := rfl
  refine ACalls.of_WA ttok Tryd.func92 rfl rfl _ rfl ?_
  conv => whnf
  repeat' (first | refine WA_seq ?_ | (refine WA_region ttok ?_; conv => whnf) | (refine WA_draw ttok mixed ?_; conv => whnf) | (refine WA_cond ?_; conv => whnf) | refine WA_block ?_ | (refine WA_skip ?_; conv => whnf) | (refine WA_exit ?_; conv => whnf) | (refine WA_ret ?_; conv => whnf) | (refine And.intro (fun h => ?_) (fun h => ?_) <;> (try simp only [brsA] at h) <;> conv => whnf) | (refine WR_fit ?_ ?_; (focus (first | exact wr_i64 (by omega) | exact wr_u64 (by omega) | exact wr_u8 (by omega) | exact wr_i32 (by omega) | exact wr_u32 (by omega))); conv => whnf) | (refine WR_wrap ?_; conv => whnf) | (refine And.intro (a := indepB _ _ = true) ?_ ?_; (focus kernel_rfl); conv => whnf) | (refine And.intro rfl ?_; conv => whnf) | (refine And.intro ?_ ?_; (focus (first | omega | decide | (dsimp only; omega) | (simp at *; omega))); conv => whnf))
  refine WA_loopI (fun i : Nat => i ≤ 3) (fun i => [(11, .int .i64 (i : Int)), (3, .int .i64 (sum3 n0 n1 n2 i : Int)), (5, .junk)]) (fun _ => []) (fun i => 3 - i) 0 (by omega) ?_ ?_
  · conv => whnf
    repeat (first | exact rfl | exact trivial | exact Or.inl (fun _ _ => rfl) | exact (fun _ => rfl) | exact (fun _ _ => rfl) | exact Or.inl (fun _ hi => absurd hi (Nat.not_lt_zero _)) | (refine And.intro rfl ?_; conv => whnf) | (refine And.intro (Or.inl (fun _ _ => rfl)) ?_; conv => whnf) | (refine And.intro (fun _ => rfl) ?_; conv => whnf) | (refine And.intro (fun _ _ => rfl) ?_; conv => whnf) | (refine And.intro ?_ ?_; rotate_left; conv => whnf))
  · rintro i hi
    have hi4 : i = 0 ∨ i = 1 ∨ i = 2 ∨ i = 3 := by omega
    rcases hi4 with rfl | rfl | rfl | rfl
    · conv => whnf
      repeat' (first | refine WA_seq ?_ | (refine WA_region ttok ?_; conv => whnf) | (refine WA_draw ttok mixed ?_; conv => whnf) | (refine WA_cond ?_; conv => whnf) | refine WA_block ?_ | (refine WA_skip ?_; conv => whnf) | (refine WA_exit ?_; conv => whnf) | (refine WA_ret ?_; conv => whnf) | (refine And.intro (fun h => ?_) (fun h => ?_) <;> (try simp only [brsA] at h) <;> conv => whnf) | (refine WR_fit ?_ ?_; (focus (first | exact wr_i64 (by omega) | exact wr_u64 (by omega) | exact wr_u8 (by omega) | exact wr_i32 (by omega) | exact wr_u32 (by omega))); conv => whnf) | (refine WR_wrap ?_; conv => whnf) | (refine And.intro (a := indepB _ _ = true) ?_ ?_; (focus kernel_rfl); conv => whnf) | (refine And.intro rfl ?_; conv => whnf) | (refine And.intro ?_ ?_; (focus (first | omega | decide | (dsimp only; omega) | (simp at *; omega))); conv => whnf))
      all_goals first | contradiction | (exfalso; omega) | skip
      refine ⟨1, (by decide), (by decide), ?_⟩
      conv => whnf
      repeat (first | exact rfl | exact trivial | exact Or.inl (fun _ _ => rfl) | exact (fun _ => rfl) | exact (fun _ _ => rfl) | exact Or.inl (fun _ hi => absurd hi (Nat.not_lt_zero _)) | (refine And.intro rfl ?_; conv => whnf) | (refine And.intro (Or.inl (fun _ _ => rfl)) ?_; conv => whnf) | (refine And.intro (fun _ => rfl) ?_; conv => whnf) | (refine And.intro (fun _ _ => rfl) ?_; conv => whnf) | (refine And.intro ?_ ?_; rotate_left; conv => whnf))
      rw [s0, s1]; omega
    · conv => whnf
      repeat' (first | refine WA_seq ?_ | (refine WA_region ttok ?_; conv => whnf) | (refine WA_draw ttok mixed ?_; conv => whnf) | (refine WA_cond ?_; conv => whnf) | refine WA_block ?_ | (refine WA_skip ?_; conv => whnf) | (refine WA_exit ?_; conv => whnf) | (refine WA_ret ?_; conv => whnf) | (refine And.intro (fun h => ?_) (fun h => ?_) <;> (try simp only [brsA] at h) <;> conv => whnf) | (refine WR_fit ?_ ?_; (focus (first | exact wr_i64 (by omega) | exact wr_u64 (by omega) | exact wr_u8 (by omega) | exact wr_i32 (by omega) | exact wr_u32 (by omega))); conv => whnf) | (refine WR_wrap ?_; conv => whnf) | (refine And.intro (a := indepB _ _ = true) ?_ ?_; (focus kernel_rfl); conv => whnf) | (refine And.intro rfl ?_; conv => whnf) | (refine And.intro ?_ ?_; (focus (first | omega | decide | (dsimp only; omega) | (simp at *; omega))); conv => whnf))
      all_goals first | contradiction | (exfalso; omega) | skip
      refine ⟨2, (by decide), (by decide), ?_⟩
      conv => whnf
      repeat (first | exact rfl | exact trivial | exact Or.inl (fun _ _ => rfl) | exact (fun _ => rfl) | exact (fun _ _ => rfl) | exact Or.inl (fun _ hi => absurd hi (Nat.not_lt_zero _)) | (refine And.intro rfl ?_; conv => whnf) | (refine And.intro (Or.inl (fun _ _ => rfl)) ?_; conv => whnf) | (refine And.intro (fun _ => rfl) ?_; conv => whnf) | (refine And.intro (fun _ _ => rfl) ?_; conv => whnf) | (refine And.intro ?_ ?_; rotate_left; conv => whnf))
    · conv => whnf
      repeat' (first | refine WA_seq ?_ | (refine WA_region ttok ?_; conv => whnf) | (refine WA_draw ttok mixed ?_; conv => whnf) | (refine WA_cond ?_; conv => whnf) | refine WA_block ?_ | (refine WA_skip ?_; conv => whnf) | (refine WA_exit ?_; conv => whnf) | (refine WA_ret ?_; conv => whnf) | (refine And.intro (fun h => ?_) (fun h => ?_) <;> (try simp only [brsA] at h) <;> conv => whnf) | (refine WR_fit ?_ ?_; (focus (first | exact wr_i64 (by omega) | exact wr_u64 (by omega) | exact wr_u8 (by omega) | exact wr_i32 (by omega) | exact wr_u32 (by omega))); conv => whnf) | (refine WR_wrap ?_; conv => whnf) | (refine And.intro (a := indepB _ _ = true) ?_ ?_; (focus kernel_rfl); conv => whnf) | (refine And.intro rfl ?_; conv => whnf) | (refine And.intro ?_ ?_; (focus (first | omega | decide | (dsimp only; omega) | (simp at *; omega))); conv => whnf))
      all_goals first | contradiction | (exfalso; omega) | skip
      refine ⟨3, (by decide), (by decide), ?_⟩
      conv => whnf
      repeat (first | exact rfl | exact trivial | exact Or.inl (fun _ _ => rfl) | exact (fun _ => rfl) | exact (fun _ _ => rfl) | exact Or.inl (fun _ hi => absurd hi (Nat.not_lt_zero _)) | (refine And.intro rfl ?_; conv => whnf) | (refine And.intro (Or.inl (fun _ _ => rfl)) ?_; conv => whnf) | (refine And.intro (fun _ => rfl) ?_; conv => whnf) | (refine And.intro (fun _ _ => rfl) ?_; conv => whnf) | (refine And.intro ?_ ?_; rotate_left; conv => whnf))
    · conv => whnf
      repeat' (first | refine WA_seq ?_ | (refine WA_region ttok ?_; conv => whnf) | (refine WA_draw ttok mixed ?_; conv => whnf) | (refine WA_cond ?_; conv => whnf) | refine WA_block ?_ | (refine WA_skip ?_; conv => whnf) | (refine WA_exit ?_; conv => whnf) | (refine WA_ret ?_; conv => whnf) | (refine And.intro (fun h => ?_) (fun h => ?_) <;> (try simp only [brsA] at h) <;> conv => whnf) | (refine Or.inr (Or.inr (Or.inr ?_)); (conv => whnf); refine Exists.intro _ (Exists.intro _ (And.intro (hg) ?_)); conv => whnf) | (refine Or.inr ?_; (conv => whnf); refine Exists.intro _ (Exists.intro _ (And.intro (hg) ?_)); conv => whnf) | (refine Exists.intro _ (And.intro (hg) ?_); conv => whnf) | (refine WR_fit ?_ ?_; (focus (first | exact wr_i64 (by omega) | exact wr_u64 (by omega) | exact wr_u8 (by omega) | exact wr_i32 (by omega) | exact wr_u32 (by omega))); conv => whnf) | (refine WR_wrap ?_; conv => whnf) | (refine And.intro (a := indepB _ _ = true) ?_ ?_; (focus kernel_rfl); conv => whnf) | (refine And.intro rfl ?_; conv => whnf) | (refine And.intro ?_ ?_; (focus (first | omega | decide | (dsimp only; omega) | (simp at *; omega))); conv => whnf))
      all_goals first | contradiction | (exfalso; omega) | skip
      refine WA_loopI (fun i : Nat => i ≤ 3) (fun i => [(27, .int .i64 (i : Int)), (8, .junk), (24, .junk), (6, .own 0)]) (fun i => [.row 9 1 (sum3 n0 n1 n2 i) (wordsR L)]) (fun i => 3 - i) 0 (by omega) ?_ ?_
      · conv => whnf
        repeat (first | exact rfl | exact trivial | exact Or.inl (fun _ _ => rfl) | exact (fun _ => rfl) | exact (fun _ _ => rfl) | exact Or.inl (fun _ hi => absurd hi (Nat.not_lt_zero _)) | (refine And.intro rfl ?_; conv => whnf) | (refine And.intro (Or.inl (fun _ _ => rfl)) ?_; conv => whnf) | (refine And.intro (fun _ => rfl) ?_; conv => whnf) | (refine And.intro (fun _ _ => rfl) ?_; conv => whnf) | (refine And.intro ?_ ?_; rotate_left; conv => whnf))
      rintro i hi
      have hi4 : i = 0 ∨ i = 1 ∨ i = 2 ∨ i = 3 := by omega
      rcases hi4 with rfl | rfl | rfl | rfl
      · conv => whnf
        repeat' (first | refine WA_seq ?_ | (refine WA_region ttok ?_; conv => whnf) | (refine WA_draw ttok mixed ?_; conv => whnf) | (refine WA_cond ?_; conv => whnf) | refine WA_block ?_ | (refine WA_skip ?_; conv => whnf) | (refine WA_exit ?_; conv => whnf) | (refine WA_ret ?_; conv => whnf) | (refine And.intro (fun h => ?_) (fun h => ?_) <;> (try simp only [brsA] at h) <;> conv => whnf) | (refine WR_fit ?_ ?_; (focus (first | exact wr_i64 (by omega) | exact wr_u64 (by omega) | exact wr_u8 (by omega) | exact wr_i32 (by omega) | exact wr_u32 (by omega))); conv => whnf) | (refine WR_wrap ?_; conv => whnf) | (refine And.intro (a := indepB _ _ = true) ?_ ?_; (focus kernel_rfl); conv => whnf) | (refine And.intro rfl ?_; conv => whnf) | (refine And.intro ?_ ?_; (focus (first | omega | decide | (dsimp only; omega) | (simp at *; omega))); conv => whnf))
        all_goals first | contradiction | (exfalso; omega) | skip
        all_goals first | (focus (rw [s0]; omega)) | skip
        refine ⟨1, (by decide), (by decide), ?_⟩
        conv => whnf
        repeat (first | exact rfl | exact trivial | exact Or.inl (fun _ _ => rfl) | exact (fun _ => rfl) | exact (fun _ _ => rfl) | exact Or.inl (fun _ hi => absurd hi (Nat.not_lt_zero _)) | (refine And.intro rfl ?_; conv => whnf) | (refine And.intro (Or.inl (fun _ _ => rfl)) ?_; conv => whnf) | (refine And.intro (fun _ => rfl) ?_; conv => whnf) | (refine And.intro (fun _ _ => rfl) ?_; conv => whnf) | (refine And.intro ?_ ?_; rotate_left; conv => whnf))
        all_goals first | exact Or.inl fun j hj => rowCat_many (wordsR L) r0 (sum3 n0 n1 n2 0) n0 (fun t ht => g0 t ht) j hj | (rw [s0, s1]; omega)
      · conv => whnf
        repeat' (first | refine WA_seq ?_ | (refine WA_region ttok ?_; conv => whnf) | (refine WA_draw ttok mixed ?_; conv => whnf) | (refine WA_cond ?_; conv => whnf) | refine WA_block ?_ | (refine WA_skip ?_; conv => whnf) | (refine WA_exit ?_; conv => whnf) | (refine WA_ret ?_; conv => whnf) | (refine And.intro (fun h => ?_) (fun h => ?_) <;> (try simp only [brsA] at h) <;> conv => whnf) | (refine WR_fit ?_ ?_; (focus (first | exact wr_i64 (by omega) | exact wr_u64 (by omega) | exact wr_u8 (by omega) | exact wr_i32 (by omega) | exact wr_u32 (by omega))); conv => whnf) | (refine WR_wrap ?_; conv => whnf) | (refine And.intro (a := indepB _ _ = true) ?_ ?_; (focus kernel_rfl); conv => whnf) | (refine And.intro rfl ?_; conv => whnf) | (refine And.intro ?_ ?_; (focus (first | omega | decide | (dsimp only; omega) | (simp at *; omega))); conv => whnf))
        all_goals first | contradiction | (exfalso; omega) | skip
        all_goals first | (focus (rw [s1]; omega)) | skip
        refine ⟨2, (by decide), (by decide), ?_⟩
        conv => whnf
        repeat (first | exact rfl | exact trivial | exact Or.inl (fun _ _ => rfl) | exact (fun _ => rfl) | exact (fun _ _ => rfl) | exact Or.inl (fun _ hi => absurd hi (Nat.not_lt_zero _)) | (refine And.intro rfl ?_; conv => whnf) | (refine And.intro (Or.inl (fun _ _ => rfl)) ?_; conv => whnf) | (refine And.intro (fun _ => rfl) ?_; conv => whnf) | (refine And.intro (fun _ _ => rfl) ?_; conv => whnf) | (refine And.intro ?_ ?_; rotate_left; conv => whnf))
        all_goals first | exact Or.inl fun j hj => rowCat_many (wordsR L) r1 (sum3 n0 n1 n2 1) n1 (fun t ht => g1 t ht) j hj | (rw [s1, s2]; omega)
      · conv => whnf
        repeat' (first | refine WA_seq ?_ | (refine WA_region ttok ?_; conv => whnf) | (refine WA_draw ttok mixed ?_; conv => whnf) | (refine WA_cond ?_; conv => whnf) | refine WA_block ?_ | (refine WA_skip ?_; conv => whnf) | (refine WA_exit ?_; conv => whnf) | (refine WA_ret ?_; conv => whnf) | (refine And.intro (fun h => ?_) (fun h => ?_) <;> (try simp only [brsA] at h) <;> conv => whnf) | (refine WR_fit ?_ ?_; (focus (first | exact wr_i64 (by omega) | exact wr_u64 (by omega) | exact wr_u8 (by omega) | exact wr_i32 (by omega) | exact wr_u32 (by omega))); conv => whnf) | (refine WR_wrap ?_; conv => whnf) | (refine And.intro (a := indepB _ _ = true) ?_ ?_; (focus kernel_rfl); conv => whnf) | (refine And.intro rfl ?_; conv => whnf) | (refine And.intro ?_ ?_; (focus (first | omega | decide | (dsimp only; omega) | (simp at *; omega))); conv => whnf))
        all_goals first | contradiction | (exfalso; omega) | skip
        all_goals first | (focus (rw [s2]; omega)) | skip
        refine ⟨3, (by decide), (by decide), ?_⟩
        conv => whnf
        repeat (first | exact rfl | exact trivial | exact Or.inl (fun _ _ => rfl) | exact (fun _ => rfl) | exact (fun _ _ => rfl) | exact Or.inl (fun _ hi => absurd hi (Nat.not_lt_zero _)) | (refine And.intro rfl ?_; conv => whnf) | (refine And.intro (Or.inl (fun _ _ => rfl)) ?_; conv => whnf) | (refine And.intro (fun _ => rfl) ?_; conv => whnf) | (refine And.intro (fun _ _ => rfl) ?_; conv => whnf) | (refine And.intro ?_ ?_; rotate_left; conv => whnf))
        all_goals first | exact Or.inl fun j hj => rowCat_many (wordsR L) r2 (sum3 n0 n1 n2 2) n2 (fun t ht => g2 t ht) j hj | (rw [s2, s3]; omega)
      · conv => whnf
        repeat' (first | refine WA_seq ?_ | (refine WA_region ttok ?_; conv => whnf) | (refine WA_draw ttok mixed ?_; conv => whnf) | (refine WA_cond ?_; conv => whnf) | refine WA_block ?_ | (refine WA_skip ?_; conv => whnf) | (refine WA_exit ?_; conv => whnf) | (refine WA_ret ?_; conv => whnf) | (refine And.intro (fun h => ?_) (fun h => ?_) <;> (try simp only [brsA] at h) <;> conv => whnf) | (refine WR_fit ?_ ?_; (focus (first | exact wr_i64 (by omega) | exact wr_u64 (by omega) | exact wr_u8 (by omega) | exact wr_i32 (by omega) | exact wr_u32 (by omega))); conv => whnf) | (refine WR_wrap ?_; conv => whnf) | (refine And.intro (a := indepB _ _ = true) ?_ ?_; (focus kernel_rfl); conv => whnf) | (refine And.intro rfl ?_; conv => whnf) | (refine And.intro ?_ ?_; (focus (first | omega | decide | (dsimp only; omega) | (simp at *; omega))); conv => whnf))
        all_goals first | contradiction | (exfalso; omega) | skip
        first | exact ⟨by rw [s3]; omega, Or.inl fun _ _ => rfl⟩ | exact ⟨by rw [hL]; exact s3, Or.inl fun _ _ => rfl⟩ | exact Or.inl fun _ _ => rfl | (refine ⟨?_, ?_⟩ <;> trace_state)
end Go.Proofs.YtagokdeflnkplaaDoor
set_option linter.unusedSimpArgs false
namespace Go.Proofs.YtagokdeflnkplaaDoor
open Go.Proofs.YtagokdeflnkplaaDoor.Am Go.Lib
/-! ### Lines of commands, commands of lines: plain laws -/
def flagW (k : Int) (b : Bool) : List UInt8 := if b = true then yesW k else noW k
/-- The flag's word among the numbers' words. -/
def insF (k : Int) (f : List UInt8) (l : List (List UInt8)) : List (List UInt8) := if k = 1 then l.take 1 ++ f :: l.drop 1 else if f ≠ [] then f :: l else l
def lineW (c : Cm) : List (List UInt8) := nameL c.k :: insF c.k (flagW c.k (c.ow || c.bo)) ((allL c).map Lib.itoa)
def shapeV (k : Int) (l : List (List UInt8)) : Prop :=
  if k = 1 then 4 ≤ l.length ∧ l.length % 3 = 1 ∧ l.length ≤ 301 ∧ (l.getD 1 [] = noW 1 ∨ l.getD 1 [] = yesW 1) else
  if k = 4 ∨ k = 5 then l.length = 3 ∧ (l.getD 0 [] = noW k ∨ l.getD 0 [] = yesW k) else (l.length : Int) = manyN k
instance (k : Int) (l : List (List UInt8)) : Decidable (shapeV k l) := by unfold shapeV; infer_instance
def numsW (k : Int) (l : List (List UInt8)) : List (List UInt8) := if k = 1 then l.getD 0 [] :: l.drop 2 else if k = 4 ∨ k = 5 then l.drop 1 else l
def wordW (k : Int) (l : List (List UInt8)) : List UInt8 := if k = 1 then l.getD 1 [] else if k = 4 ∨ k = 5 then l.getD 0 [] else []
def yesB (k : Int) (l : List (List UInt8)) : Bool := decide (yesW k ≠ [] ∧ wordW k l = yesW k)
/-- The command that a line is, and what is told. -/
def parseWV (w : List (List UInt8)) : Cm × Int :=
  if kindL (w.getD 0 []) = 0 ∨ ¬ shapeV (kindL (w.getD 0 [])) (w.drop 1) then (cm0, 2) else
  if errL (numsW (kindL (w.getD 0 [])) (w.drop 1)) ≠ 0 then (cm0, errL (numsW (kindL (w.getD 0 [])) (w.drop 1))) else
  (madeC (kindL (w.getD 0 [])) (yesB (kindL (w.getD 0 [])) (w.drop 1)) (numL (numsW (kindL (w.getD 0 [])) (w.drop 1))), 0)
def okLine (s : List UInt8) : Prop := s.length ≤ 4096 ∧ s ≠ [] ∧ allW (cutL 32 s)
instance (s : List UInt8) : Decidable (okLine s) := inferInstanceAs (Decidable (_ ∧ _))
def parseV (s : List UInt8) : Cm × Int := if okLine s then parseWV (cutL 32 s) else (cm0, 2)
/-- As many numbers as a command has. -/
def cntN (k : Int) (n : Nat) : Prop := (k = 1 → ∃ j, n = 3 * j + 3 ∧ j ≤ 99) ∧ (k ≠ 1 → (n : Int) = manyN k)
def flg (k : Int) : Bool := decide (k = 1 ∨ k = 4 ∨ k = 5)
theorem noflag {k : Int} (h1 : k ≠ 1) (h4 : ¬ (k = 4 ∨ k = 5)) : noW k = [] ∧ yesW k = [] := by
  unfold noW yesW
  rw [if_neg h1, if_neg h4, if_neg h1, if_neg h4]; exact ⟨rfl, rfl⟩
theorem flg_no {k : Int} (h1 : k ≠ 1) (h4 : ¬ (k = 4 ∨ k = 5)) : flg k = false := decide_eq_false (by omega)
theorem ins_bwd (k : Int) (l : List (List UInt8)) (hs : shapeV k l) : insF k (flagW k (yesB k l)) (numsW k l) = l ∧ cntN k (numsW k l).length ∧ yesB k l = (flg k && yesB k l) := by
  by_cases h1 : k = 1
  · subst h1
    unfold shapeV at hs
    rw [if_pos rfl] at hs
    match l, hs with
    | x :: f :: r, ⟨q1, q2, q3, q4⟩ =>
      have q4 : f = noW 1 ∨ f = yesW 1 := q4
      have ey : yesB 1 (x :: f :: r) = decide (f = yesW 1) := by
        show decide (yesW 1 ≠ [] ∧ f = yesW 1) = _
        exact decide_eq_decide.2 ⟨fun q => q.2, fun q => ⟨by decide, q⟩⟩
      refine ⟨?_, ⟨fun _ => ⟨(r.length - 2) / 3, ?_, ?_⟩, fun q => absurd rfl q⟩, rfl⟩
      · have e2 : numsW 1 (x :: f :: r) = x :: r := rfl
        have e1 : insF 1 (flagW 1 (yesB 1 (x :: f :: r))) (x :: r) = x :: flagW 1 (yesB 1 (x :: f :: r)) :: r := by unfold insF; rw [if_pos rfl]; rfl
        rw [e2, e1, ey]
        rcases q4 with q | q <;> subst q <;> rfl
      · show (x :: r).length = _
        simp at q1 q2 q3 ⊢; omega
      · simp at q1 q2 q3; omega
  · by_cases h4 : k = 4 ∨ k = 5
    · unfold shapeV at hs
      rw [if_neg h1, if_pos h4] at hs
      match l, hs with
      | f :: r, ⟨q1, q4⟩ =>
        have q4 : f = noW k ∨ f = yesW k := q4
        have ey : yesB k (f :: r) = decide (f = yesW k) := by
          unfold yesB wordW
          rw [if_neg h1, if_pos h4]
          exact decide_eq_decide.2 ⟨fun q => q.2, fun q => ⟨by rcases h4 with h4 | h4 <;> subst h4 <;> decide, q⟩⟩
        have e2 : numsW k (f :: r) = r := by unfold numsW; rw [if_neg h1, if_pos h4]; rfl
        have ef : flagW k (yesB k (f :: r)) = f := by
          rw [ey]
          rcases q4 with q | q
          · subst q; rcases h4 with h4 | h4 <;> subst h4 <;> rfl
          · subst q; rw [decide_eq_true rfl]; rfl
        have fn : f ≠ [] := by rcases q4 with q | q <;> subst q <;> rcases h4 with h4 | h4 <;> subst h4 <;> decide
        refine ⟨?_, ⟨fun q => absurd q h1, fun _ => ?_⟩, ?_⟩
        · rw [e2, ef]; unfold insF; rw [if_neg h1, if_pos fn]
        · rw [e2]
          unfold manyN
          rw [if_neg (by omega), if_pos (by omega)]
          simp at q1; omega
        · rw [show flg k = true from decide_eq_true (by omega)]; rfl
    · unfold shapeV at hs
      rw [if_neg h1, if_neg h4] at hs
      obtain ⟨a, c⟩ := noflag h1 h4
      have e2 : numsW k l = l := by unfold numsW; rw [if_neg h1, if_neg h4]
      have hf : flagW k (yesB k l) = [] := by unfold flagW; rw [a, c]; simp
      refine ⟨?_, ⟨fun q => absurd q h1, fun _ => by rw [e2]; exact hs⟩, ?_⟩
      · rw [e2, hf]; unfold insF; rw [if_neg h1]; simp
      · rw [flg_no h1 h4]; exact decide_eq_false fun q => q.1 c
end Go.Proofs.YtagokdeflnkplaaDoor
set_option linter.unusedSimpArgs false
namespace Go.Proofs.YtagokdeflnkplaaDoor
open Go.Proofs.YtagokdeflnkplaaDoor.Am Go.Lib
variable {G : GInv}
theorem drop_get {α : Type} (l : List α) (d : α) (i j : Nat) : (l.drop i).getD j d = l.getD (i + j) d := by
  rw [List.getD_eq_getElem?_getD, List.getElem?_drop, List.getD_eq_getElem?_getD]
set_option maxRecDepth 100000 in
set_option maxHeartbeats 4000000 in
theorem split_n (k : Int) (l : List (List UInt8)) (hl : l.length ≤ 100000) (h1 : k ≠ 1) (h4 : ¬ (k = 4 ∨ k = 5)) : ACalls Tryd.prog G 60 [.int .i64 k, strsA l] (.tup [.str [], strsA l, .sb (decide ((l.length : Int) = manyN k))]) := by
  have hf := vflag_c (G := G) k
  have hm := vmany_c (G := G) k
  rw [(noflag h1 h4).1, (noflag h1 h4).2] at hf
  refine ACalls.of_WA ttok Tryd.func60 rfl rfl _ rfl ?_
  conv => whnf
  repeat' (first | refine WA_seq ?_ | (refine WA_region ttok ?_; conv => whnf) | (refine WA_draw ttok mixed ?_; conv => whnf) | (refine WA_cond ?_; conv => whnf) | refine WA_block ?_ | (refine WA_skip ?_; conv => whnf) | (refine WA_exit ?_; conv => whnf) | (refine WA_ret ?_; conv => whnf) | (refine And.intro (fun h => ?_) (fun h => ?_) <;> (try simp only [brsA] at h) <;> conv => whnf) | (refine Or.inl ?_; (conv => whnf); refine Exists.intro _ (And.intro (hf) ?_); conv => whnf) | (refine Or.inr (Or.inr (Or.inl ?_)); (conv => whnf); refine Exists.intro _ (And.intro (hf) ?_); conv => whnf) | (refine Exists.intro _ (And.intro (hf) ?_); conv => whnf) | (refine Or.inl ?_; (conv => whnf); refine Exists.intro _ (And.intro (hm) ?_); conv => whnf) | (refine Or.inr (Or.inr (Or.inl ?_)); (conv => whnf); refine Exists.intro _ (And.intro (hm) ?_); conv => whnf) | (refine Exists.intro _ (And.intro (hm) ?_); conv => whnf) | (refine WR_fit ?_ ?_; (focus (first | exact wr_i64 (by omega) | exact wr_u64 (by omega) | exact wr_u8 (by omega) | exact wr_i32 (by omega) | exact wr_u32 (by omega))); conv => whnf) | (refine WR_wrap ?_; conv => whnf) | (refine And.intro (a := indepB _ _ = true) ?_ ?_; (focus kernel_rfl); conv => whnf) | (refine And.intro rfl ?_; conv => whnf) | (refine And.intro ?_ ?_; (focus (first | omega | decide | (dsimp only; omega) | (simp at *; omega))); conv => whnf))
  all_goals first | contradiction | (exfalso; omega) | skip
  refine ⟨Or.inl fun _ _ => rfl, ?_⟩
  show ((l.length : Int) == manyN k) = decide ((l.length : Int) = manyN k)
  rw [Bool.eq_iff_iff]; simp
set_option maxRecDepth 100000 in
set_option maxHeartbeats 4000000 in
theorem split_f (k : Int) (l : List (List UInt8)) (_hl : l.length ≤ 100000) (h4 : k = 4 ∨ k = 5) (hn : l.length = 3) : ACalls Tryd.prog G 60 [.int .i64 k, strsA l] (.tup [.str (l.getD 0 []), strsA (l.drop 1), .sb (decide (l.getD 0 [] = noW k ∨ l.getD 0 [] = yesW k))]) := by
  have hf := vflag_c (G := G) k
  have hm := vmany_c (G := G) k
  have h0 : noW k ≠ [] := by rcases h4 with h4 | h4 <;> subst h4 <;> decide
  rw [show manyN k = 2 by rcases h4 with h4 | h4 <;> subst h4 <;> rfl] at hm
  generalize noW k = no at *
  generalize yesW k = yes at *
  refine ACalls.of_WA ttok Tryd.func60 rfl rfl _ rfl ?_
  conv => whnf
  repeat' (first | refine WA_seq ?_ | (refine WA_region ttok ?_; conv => whnf) | (refine WA_draw ttok mixed ?_; conv => whnf) | (refine WA_cond ?_; conv => whnf) | refine WA_block ?_ | (refine WA_skip ?_; conv => whnf) | (refine WA_exit ?_; conv => whnf) | (refine WA_ret ?_; conv => whnf) | (refine And.intro (fun h => ?_) (fun h => ?_) <;> (try simp only [brsA] at h) <;> conv => whnf) | (refine Or.inl ?_; (conv => whnf); refine Exists.intro _ (And.intro (hf) ?_); conv => whnf) | (refine Or.inr (Or.inr (Or.inl ?_)); (conv => whnf); refine Exists.intro _ (And.intro (hf) ?_); conv => whnf) | (refine Exists.intro _ (And.intro (hf) ?_); conv => whnf) | (refine Or.inl ?_; (conv => whnf); refine Exists.intro _ (And.intro (hm) ?_); conv => whnf) | (refine Or.inr (Or.inr (Or.inl ?_)); (conv => whnf); refine Exists.intro _ (And.intro (hm) ?_); conv => whnf) | (refine Exists.intro _ (And.intro (hm) ?_); conv => whnf) | (refine WR_fit ?_ ?_; (focus (first | exact wr_i64 (by omega) | exact wr_u64 (by omega) | exact wr_u8 (by omega) | exact wr_i32 (by omega) | exact wr_u32 (by omega))); conv => whnf) | (refine WR_wrap ?_; conv => whnf) | (refine And.intro (a := indepB _ _ = true) ?_ ?_; (focus kernel_rfl); conv => whnf) | (refine And.intro rfl ?_; conv => whnf) | (refine And.intro ?_ ?_; (focus (first | omega | decide | (dsimp only; omega) | (simp at *; omega))); conv => whnf))
  all_goals first | contradiction | (exfalso; omega) | skip
  · refine ⟨by rw [List.length_drop]; rfl, Or.inl fun i _ => ?_, ?_⟩
    · show [A.str (l.getD (1 + i) [])] = [A.str ((l.drop 1).getD i [])]
      rw [drop_get]
    · exact (decide_eq_true (Or.inl (by assumption))).symm
  · refine ⟨by rw [List.length_drop]; rfl, Or.inl fun i _ => ?_, ?_⟩
    · show [A.str (l.getD (1 + i) [])] = [A.str ((l.drop 1).getD i [])]
      rw [drop_get]
    · rename_i h
      have h : ¬ l.getD 0 [] = no := h
      show (l.getD 0 [] == yes) = decide (l.getD 0 [] = no ∨ l.getD 0 [] = yes)
      rw [Bool.eq_iff_iff, decide_eq_true_iff, beq_iff_eq]
      exact ⟨Or.inr, fun q => q.resolve_left h⟩
set_option maxRecDepth 100000 in
set_option maxHeartbeats 4000000 in
theorem split_fb (k : Int) (l : List (List UInt8)) (hl : l.length ≤ 100000) (h4 : k = 4 ∨ k = 5) (hn : l.length ≠ 3) : ACalls Tryd.prog G 60 [.int .i64 k, strsA l] (.tup [.junk, .junk, .sb false]) := by
  have hf := vflag_c (G := G) k
  have hm := vmany_c (G := G) k
  have h0 : noW k ≠ [] := by rcases h4 with h4 | h4 <;> subst h4 <;> decide
  rw [show manyN k = 2 by rcases h4 with h4 | h4 <;> subst h4 <;> rfl] at hm
  generalize noW k = no at *
  generalize yesW k = yes at *
  refine ACalls.of_WA ttok Tryd.func60 rfl rfl _ rfl ?_
  conv => whnf
  repeat' (first | refine WA_seq ?_ | (refine WA_region ttok ?_; conv => whnf) | (refine WA_draw ttok mixed ?_; conv => whnf) | (refine WA_cond ?_; conv => whnf) | refine WA_block ?_ | (refine WA_skip ?_; conv => whnf) | (refine WA_exit ?_; conv => whnf) | (refine WA_ret ?_; conv => whnf) | (refine And.intro (fun h => ?_) (fun h => ?_) <;> (try simp only [brsA] at h) <;> conv => whnf) | (refine Or.inl ?_; (conv => whnf); refine Exists.intro _ (And.intro (hf) ?_); conv => whnf) | (refine Or.inr (Or.inr (Or.inl ?_)); (conv => whnf); refine Exists.intro _ (And.intro (hf) ?_); conv => whnf) | (refine Exists.intro _ (And.intro (hf) ?_); conv => whnf) | (refine Or.inl ?_; (conv => whnf); refine Exists.intro _ (And.intro (hm) ?_); conv => whnf) | (refine Or.inr (Or.inr (Or.inl ?_)); (conv => whnf); refine Exists.intro _ (And.intro (hm) ?_); conv => whnf) | (refine Exists.intro _ (And.intro (hm) ?_); conv => whnf) | (refine WR_fit ?_ ?_; (focus (first | exact wr_i64 (by omega) | exact wr_u64 (by omega) | exact wr_u8 (by omega) | exact wr_i32 (by omega) | exact wr_u32 (by omega))); conv => whnf) | (refine WR_wrap ?_; conv => whnf) | (refine And.intro (a := indepB _ _ = true) ?_ ?_; (focus kernel_rfl); conv => whnf) | (refine And.intro rfl ?_; conv => whnf) | (refine And.intro ?_ ?_; (focus (first | omega | decide | (dsimp only; omega) | (simp at *; omega))); conv => whnf))
  all_goals first | contradiction | (exfalso; omega) | skip
set_option maxRecDepth 100000 in
set_option maxHeartbeats 4000000 in
theorem split_lb (l : List (List UInt8)) (hl : l.length ≤ 100000) (hn : ¬ (4 ≤ l.length ∧ l.length % 3 = 1 ∧ l.length ≤ 301)) : ACalls Tryd.prog G 60 [.int .i64 1, strsA l] (.tup [.junk, .junk, .sb false]) := by
  have hf := vflag_c (G := G) 1
  have ht : (l.length : Int).tmod 3 = ((l.length % 3 : Nat) : Int) := rfl
  refine ACalls.of_WA ttok Tryd.func60 rfl rfl _ rfl ?_
  conv => whnf
  repeat' (first | (exact absurd (show 4 ≤ l.length ∧ l.length % 3 = 1 ∧ l.length ≤ 301 from ⟨by omega, by omega, by omega⟩) hn) | refine WA_seq ?_ | (refine WA_region ttok ?_; conv => whnf) | (refine WA_draw ttok mixed ?_; conv => whnf) | (refine WA_cond ?_; conv => whnf) | refine WA_block ?_ | (refine WA_skip ?_; conv => whnf) | (refine WA_exit ?_; conv => whnf) | (refine WA_ret ?_; conv => whnf) | (refine And.intro (fun h => ?_) (fun h => ?_) <;> (try simp only [brsA] at h) <;> conv => whnf) | (refine Or.inl ?_; (conv => whnf); refine Exists.intro _ (And.intro (hf) ?_); conv => whnf) | (refine Or.inr (Or.inr (Or.inl ?_)); (conv => whnf); refine Exists.intro _ (And.intro (hf) ?_); conv => whnf) | (refine Exists.intro _ (And.intro (hf) ?_); conv => whnf) | (refine WR_fit ?_ ?_; (focus (first | exact wr_i64 (by omega) | exact wr_u64 (by omega) | exact wr_u8 (by omega) | exact wr_i32 (by omega) | exact wr_u32 (by omega))); conv => whnf) | (refine WR_wrap ?_; conv => whnf) | (refine And.intro (a := indepB _ _ = true) ?_ ?_; (focus kernel_rfl); conv => whnf) | (refine And.intro rfl ?_; conv => whnf) | (refine And.intro ?_ ?_; (focus (first | omega | decide | (dsimp only; omega) | (simp at *; omega))); conv => whnf))
  all_goals first | contradiction | (exfalso; omega) | skip
set_option maxRecDepth 100000 in
set_option maxHeartbeats 4000000 in
theorem split_l (l : List (List UInt8)) (h1 : 4 ≤ l.length) (h2 : l.length % 3 = 1) (h3 : l.length ≤ 301) : ACalls Tryd.prog G 60 [.int .i64 1, strsA l] (.tup [.str (l.getD 1 []), strsA (l.getD 0 [] :: l.drop 2), .sb (decide (l.getD 1 [] = noW 1 ∨ l.getD 1 [] = yesW 1))]) := by
  have hf := vflag_c (G := G) 1
  have ht : (l.length : Int).tmod 3 = ((l.length % 3 : Nat) : Int) := rfl
  have hc := concat3_c (G := G) (Int.toNat 2 - Int.toNat 1) (Int.toNat 1 - 0) (l.length - Int.toNat 2) (fun i => rowStr l (Int.toNat 1 + i)) (fun i => rowStr l (0 + i)) (fun i => rowStr l (Int.toNat 2 + i)) (l.getD 1 [] :: l.getD 0 [] :: l.drop 2) (by
      rw [show Int.toNat 2 - Int.toNat 1 = 1 from rfl, show Int.toNat 1 - 0 = 1 from rfl, show Int.toNat 2 = 2 from rfl]
      simp only [List.length_cons, List.length_drop]; omega) (by simp) (by simp; omega)
    (fun j hj => by
      have hj : j < 1 := hj
      obtain rfl : j = 0 := by omega
      rfl)
    (fun j hj => by
      have hj : j < 1 := hj
      obtain rfl : j = 0 := by omega
      rfl)
    (fun j hj => by
      show [A.str (l.getD (2 + j) [])] = [A.str ((l.getD 1 [] :: l.getD 0 [] :: l.drop 2).getD (1 + 1 + j) [])]
      rw [show 1 + 1 + j = j + 1 + 1 by omega, List.getD_cons_succ, List.getD_cons_succ, drop_get, show j + 1 + 1 = 2 + j by omega])
  refine ACalls.of_WA ttok Tryd.func60 rfl rfl _ rfl ?_
  conv => whnf
  repeat' (first | refine WA_seq ?_ | (refine WA_region ttok ?_; conv => whnf) | (refine WA_draw ttok mixed ?_; conv => whnf) | (refine WA_cond ?_; conv => whnf) | refine WA_block ?_ | (refine WA_skip ?_; conv => whnf) | (refine WA_exit ?_; conv => whnf) | (refine WA_ret ?_; conv => whnf) | (refine And.intro (fun h => ?_) (fun h => ?_) <;> (try simp only [brsA] at h) <;> conv => whnf) | (refine Or.inl ?_; (conv => whnf); refine Exists.intro _ (And.intro (hf) ?_); conv => whnf) | (refine Or.inr (Or.inr (Or.inl ?_)); (conv => whnf); refine Exists.intro _ (And.intro (hf) ?_); conv => whnf) | (refine Exists.intro _ (And.intro (hf) ?_); conv => whnf) | (refine Or.inl ?_; (conv => whnf); refine Exists.intro _ (And.intro (hc) ?_); conv => whnf) | (refine Or.inr (Or.inr (Or.inl ?_)); (conv => whnf); refine Exists.intro _ (And.intro (hc) ?_); conv => whnf) | (refine Exists.intro _ (And.intro (hc) ?_); conv => whnf) | (refine WR_fit ?_ ?_; (focus (first | exact wr_i64 (by omega) | exact wr_u64 (by omega) | exact wr_u8 (by omega) | exact wr_i32 (by omega) | exact wr_u32 (by omega))); conv => whnf) | (refine WR_wrap ?_; conv => whnf) | (refine And.intro (a := indepB _ _ = true) ?_ ?_; (focus kernel_rfl); conv => whnf) | (refine And.intro rfl ?_; conv => whnf) | (refine And.intro ?_ ?_; (focus (first | omega | decide | (dsimp only; omega) | (simp at *; omega))); conv => whnf))
  all_goals first | contradiction | (exfalso; omega) | skip
  all_goals refine ⟨Or.inl fun i _ => ?_, ?_⟩
  all_goals first | (show [A.str ((l.getD 1 [] :: l.getD 0 [] :: l.drop 2).getD (1 + i) [])] = [A.str ((l.getD 0 [] :: l.drop 2).getD i [])]; rw [Nat.add_comm 1 i]; rfl) | skip
  · rename_i h
    exact (decide_eq_true (Or.inl (show l.getD 1 [] = noW 1 from h))).symm
  · rename_i h
    have h : ¬ l.getD 1 [] = noW 1 := h
    show (l.getD 1 [] == yesW 1) = decide (l.getD 1 [] = noW 1 ∨ l.getD 1 [] = yesW 1)
    rw [Bool.eq_iff_iff, decide_eq_true_iff, beq_iff_eq]
    exact ⟨Or.inr, fun q => q.resolve_left h⟩
end Go.Proofs.YtagokdeflnkplaaDoor
set_option linter.unusedSimpArgs false
namespace Go.Proofs.YtagokdeflnkplaaDoor
open Go.Proofs.YtagokdeflnkplaaDoor.Am Go.Lib
variable {G : GInv}
theorem resJ {P : Program} {f : FuncId} {xs : List A} {x y : A} {b : Bool} (h : ACalls P G f xs (.tup [x, y, .sb b])) : ACalls P G f xs (.tup [.junk, .junk, .sb b]) := by
  refine ⟨h.1, fun im w vs h1 h2 h3 h4 => ?_⟩
  refine Calls_mono (h.2 im w vs h1 h2 h3 h4) ?_
  rintro e w' ⟨v, e1, e2, e3⟩
  refine ⟨v, e1, ?_, e3⟩
  cases e2 with
  | tup _ us hl hr =>
    refine .tup _ us hl fun j hj hj' => ?_
    match j, hj with
    | 0, _ => exact .junk _
    | 1, _ => exact .junk _
    | 2, hj => exact hr 2 (by simp) hj'
theorem split_ok (k : Int) (l : List (List UInt8)) (hl : l.length ≤ 100000) (hs : shapeV k l) : ACalls Tryd.prog G 60 [.int .i64 k, strsA l] (.tup [.str (wordW k l), strsA (numsW k l), .sb true]) := by
  unfold shapeV at hs
  unfold wordW numsW
  by_cases h1 : k = 1
  · subst h1
    rw [if_pos rfl] at hs ⊢
    rw [if_pos rfl]
    have := split_l (G := G) l hs.1 hs.2.1 hs.2.2.1
    rwa [decide_eq_true hs.2.2.2] at this
  · rw [if_neg h1] at hs ⊢
    rw [if_neg h1]
    by_cases h4 : k = 4 ∨ k = 5
    · rw [if_pos h4] at hs ⊢
      rw [if_pos h4]
      have := split_f (G := G) k l hl h4 hs.1
      rwa [decide_eq_true hs.2] at this
    · rw [if_neg h4] at hs ⊢
      rw [if_neg h4]
      have := split_n (G := G) k l hl h1 h4
      rwa [decide_eq_true hs] at this
theorem split_bad (k : Int) (l : List (List UInt8)) (hl : l.length ≤ 100000) (hs : ¬ shapeV k l) : ACalls Tryd.prog G 60 [.int .i64 k, strsA l] (.tup [.junk, .junk, .sb false]) := by
  unfold shapeV at hs
  by_cases h1 : k = 1
  · subst h1
    rw [if_pos rfl] at hs
    by_cases hc : 4 ≤ l.length ∧ l.length % 3 = 1 ∧ l.length ≤ 301
    · have := split_l (G := G) l hc.1 hc.2.1 hc.2.2
      rw [decide_eq_false (fun q => hs ⟨hc.1, hc.2.1, hc.2.2, q⟩)] at this
      exact resJ this
    · exact split_lb l hl hc
  · rw [if_neg h1] at hs
    by_cases h4 : k = 4 ∨ k = 5
    · rw [if_pos h4] at hs
      by_cases h3 : l.length = 3
      · have := split_f (G := G) k l hl h4 h3
        rw [decide_eq_false (fun q => hs ⟨h3, q⟩)] at this
        exact resJ this
      · exact split_fb k l hl h4 h3
    · rw [if_neg h4] at hs
      have := split_n (G := G) k l hl h1 h4
      rw [decide_eq_false hs] at this
      exact resJ this
/-- Numbers of words, as many as there may be. -/
theorem fitN_num {k : Int} {l : List (List UInt8)} (hs : shapeV k l) : fitN k (numL (numsW k l)).length := by
  have hc := (ins_bwd k l hs).2.1
  have hn : (numL (numsW k l)).length = (numsW k l).length := by unfold numL; simp
  unfold fitN
  rw [hn]
  split
  · rename_i h
    obtain ⟨j, h1, h2⟩ := hc.1 h
    exact ⟨j, h1, by omega⟩
  · rename_i h; exact hc.2 h
end Go.Proofs.YtagokdeflnkplaaDoor
set_option linter.unusedSimpArgs false
namespace Go.Proofs.YtagokdeflnkplaaDoor
open Go.Proofs.YtagokdeflnkplaaDoor.Am Go.Lib
variable {G : GInv}
def resP (p : Cm × Int) : A := .tup [.agg (cmA p.1), .int .i64 p.2]
theorem parseV_no {s : List UInt8} (h : ¬ okLine s) : parseV s = (cm0, 2) := if_neg h
set_option maxRecDepth 100000 in
set_option maxHeartbeats 4000000 in
theorem vparse_no (hM : HasMax G) (s : List UInt8) (hs : s.length ≤ 100000) (h : ¬ okLine s) : ACalls Tryd.prog G 32 [.str s] (resP (cm0, 2)) := by
  unfold resP
  by_cases h1 : 4096 < s.length
  · have hw := words_long (G := G) s h1
    refine ACalls.of_WA ttok Tryd.func32 rfl rfl _ rfl ?_
    conv => whnf
    repeat' (first | refine WA_seq ?_ | (refine WA_region ttok ?_; conv => whnf) | (refine WA_draw ttok mixed ?_; conv => whnf) | (refine WA_cond ?_; conv => whnf) | refine WA_block ?_ | (refine WA_skip ?_; conv => whnf) | (refine WA_exit ?_; conv => whnf) | (refine WA_ret ?_; conv => whnf) | (refine And.intro (fun h => ?_) (fun h => ?_) <;> (try simp only [brsA] at h) <;> conv => whnf) | (refine Or.inl ?_; (conv => whnf); refine Exists.intro _ (And.intro (hw) ?_); conv => whnf) | (refine Or.inr (Or.inr (Or.inl ?_)); (conv => whnf); refine Exists.intro _ (And.intro (hw) ?_); conv => whnf) | (refine Exists.intro _ (And.intro (hw) ?_); conv => whnf) | (refine WR_fit ?_ ?_; (focus (first | exact wr_i64 (by omega) | exact wr_u64 (by omega) | exact wr_u8 (by omega) | exact wr_i32 (by omega) | exact wr_u32 (by omega))); conv => whnf) | (refine WR_wrap ?_; conv => whnf) | (refine And.intro (a := indepB _ _ = true) ?_ ?_; (focus kernel_rfl); conv => whnf) | (refine And.intro rfl ?_; conv => whnf) | (refine And.intro ?_ ?_; (focus (first | omega | decide | (dsimp only; omega) | (simp at *; omega))); conv => whnf))
    all_goals first | contradiction | (exfalso; omega) | skip
  · by_cases h0 : s = []
    · subst h0
      have hw := words_empty (G := G)
      refine ACalls.of_WA ttok Tryd.func32 rfl rfl _ rfl ?_
      conv => whnf
      repeat' (first | refine WA_seq ?_ | (refine WA_region ttok ?_; conv => whnf) | (refine WA_draw ttok mixed ?_; conv => whnf) | (refine WA_cond ?_; conv => whnf) | refine WA_block ?_ | (refine WA_skip ?_; conv => whnf) | (refine WA_exit ?_; conv => whnf) | (refine WA_ret ?_; conv => whnf) | (refine And.intro (fun h => ?_) (fun h => ?_) <;> (try simp only [brsA] at h) <;> conv => whnf) | (refine Or.inl ?_; (conv => whnf); refine Exists.intro _ (And.intro (hw) ?_); conv => whnf) | (refine Or.inr (Or.inr (Or.inl ?_)); (conv => whnf); refine Exists.intro _ (And.intro (hw) ?_); conv => whnf) | (refine Exists.intro _ (And.intro (hw) ?_); conv => whnf) | (refine WR_fit ?_ ?_; (focus (first | exact wr_i64 (by omega) | exact wr_u64 (by omega) | exact wr_u8 (by omega) | exact wr_i32 (by omega) | exact wr_u32 (by omega))); conv => whnf) | (refine WR_wrap ?_; conv => whnf) | (refine And.intro (a := indepB _ _ = true) ?_ ?_; (focus kernel_rfl); conv => whnf) | (refine And.intro rfl ?_; conv => whnf) | (refine And.intro ?_ ?_; (focus (first | omega | decide | (dsimp only; omega) | (simp at *; omega))); conv => whnf))
      all_goals first | contradiction | (exfalso; omega) | skip
    · have hb := words_bad hM s (by omega) h0 (fun q => h ⟨by omega, h0, q⟩)
      refine ACalls.of_WA ttok Tryd.func32 rfl rfl _ rfl ?_
      conv => whnf
      repeat' (first | refine WA_seq ?_ | (refine WA_region ttok ?_; conv => whnf) | (refine WA_draw ttok mixed ?_; conv => whnf) | (refine WA_cond ?_; conv => whnf) | refine WA_block ?_ | (refine WA_skip ?_; conv => whnf) | (refine WA_exit ?_; conv => whnf) | (refine WA_ret ?_; conv => whnf) | (refine And.intro (fun h => ?_) (fun h => ?_) <;> (try simp only [brsA] at h) <;> conv => whnf) | (refine Or.inl ?_; (conv => whnf); refine Exists.intro _ (And.intro (hb) ?_); conv => whnf) | (refine Or.inr (Or.inr (Or.inl ?_)); (conv => whnf); refine Exists.intro _ (And.intro (hb) ?_); conv => whnf) | (refine Exists.intro _ (And.intro (hb) ?_); conv => whnf) | (refine WR_fit ?_ ?_; (focus (first | exact wr_i64 (by omega) | exact wr_u64 (by omega) | exact wr_u8 (by omega) | exact wr_i32 (by omega) | exact wr_u32 (by omega))); conv => whnf) | (refine WR_wrap ?_; conv => whnf) | (refine And.intro (a := indepB _ _ = true) ?_ ?_; (focus kernel_rfl); conv => whnf) | (refine And.intro rfl ?_; conv => whnf) | (refine And.intro ?_ ?_; (focus (first | omega | decide | (dsimp only; omega) | (simp at *; omega))); conv => whnf))
      all_goals first | contradiction | (exfalso; omega) | skip
set_option maxRecDepth 100000 in
set_option maxHeartbeats 4000000 in
theorem vparse_yes (hT : HasTab G) (hM : HasMax G) (s : List UInt8) (h : okLine s) : ACalls Tryd.prog G 32 [.str s] (resP (parseWV (cutL 32 s))) := by
  obtain ⟨h1, h0, hw⟩ := h
  have hws := words_ok hM s h1 h0 hw
  have hcl := cutL_len 32 s
  have hgl := cutL_get_len 32 s
  have hne := cutL_ne 32 s
  have hln := List.length_pos_iff.2 hne
  generalize cutL 32 s = w at *
  have hk := vkind_c (G := G) (w.getD 0 [])
  have hg0 : w.getD (Int.toNat 0) [] = w.getD 0 [] := rfl
  have hdr : ∀ (k : Int) (r : A), ACalls Tryd.prog G 60 [.int .i64 k, strsA (w.drop 1)] r → ACalls Tryd.prog G 60 [.int .i64 k, .sl (w.length - Int.toNat 1) 1 (fun i => rowStr w (Int.toNat 1 + i))] r := fun k r q => by
    have e : strsA (w.drop 1) = .sl (w.length - Int.toNat 1) 1 (fun i => rowStr w (Int.toNat 1 + i)) := by
      unfold strsA
      rw [List.length_drop]
      have : rowStr (w.drop 1) = fun i => rowStr w (Int.toNat 1 + i) := by
        funext i
        show [A.str ((w.drop 1).getD i [])] = [A.str (w.getD (1 + i) [])]
        rw [drop_get]
      rw [this]; rfl
    rwa [e] at q
  have hdl : (w.drop 1).length ≤ 100000 := by rw [List.length_drop]; omega
  unfold parseWV resP
  generalize hK : kindL (w.getD 0 []) = k at *
  by_cases hs : shapeV k (w.drop 1)
  · have hsp := hdr k _ (split_ok (G := G) k (w.drop 1) hdl hs)
    by_cases hk0 : k = 0
    · rw [if_pos (Or.inl hk0)]
      refine ACalls.of_WA ttok Tryd.func32 rfl rfl _ rfl ?_
      conv => whnf
      repeat' (first | refine WA_seq ?_ | (refine WA_region ttok ?_; conv => whnf) | (refine WA_draw ttok mixed ?_; conv => whnf) | (refine WA_cond ?_; conv => whnf) | refine WA_block ?_ | (refine WA_skip ?_; conv => whnf) | (refine WA_exit ?_; conv => whnf) | (refine WA_ret ?_; conv => whnf) | (refine And.intro (fun h => ?_) (fun h => ?_) <;> (try simp only [brsA] at h) <;> conv => whnf) | (refine Or.inl ?_; (conv => whnf); refine Exists.intro _ (And.intro (hws) ?_); conv => whnf) | (refine Or.inr (Or.inr (Or.inl ?_)); (conv => whnf); refine Exists.intro _ (And.intro (hws) ?_); conv => whnf) | (refine Exists.intro _ (And.intro (hws) ?_); conv => whnf) | (refine Or.inl ?_; (conv => whnf); refine Exists.intro _ (And.intro (hk) ?_); conv => whnf) | (refine Or.inr (Or.inr (Or.inl ?_)); (conv => whnf); refine Exists.intro _ (And.intro (hk) ?_); conv => whnf) | (refine Exists.intro _ (And.intro (hk) ?_); conv => whnf) | (refine Or.inl ?_; (conv => whnf); refine Exists.intro _ (And.intro (hsp) ?_); conv => whnf) | (refine Or.inr (Or.inr (Or.inl ?_)); (conv => whnf); refine Exists.intro _ (And.intro (hsp) ?_); conv => whnf) | (refine Exists.intro _ (And.intro (hsp) ?_); conv => whnf) | (refine WR_fit ?_ ?_; (focus (first | exact wr_i64 (by omega) | exact wr_u64 (by omega) | exact wr_u8 (by omega) | exact wr_i32 (by omega) | exact wr_u32 (by omega))); conv => whnf) | (refine WR_wrap ?_; conv => whnf) | (refine And.intro (a := indepB _ _ = true) ?_ ?_; (focus kernel_rfl); conv => whnf) | (refine And.intro rfl ?_; conv => whnf) | (refine And.intro ?_ ?_; (focus (first | omega | decide | (dsimp only; omega) | (simp at *; omega))); conv => whnf))
      all_goals first | contradiction | (exfalso; omega) | skip
    · rw [if_neg (fun q => q.elim hk0 fun z => z hs)]
      have hgn : ∀ i, ((numsW k (w.drop 1)).getD i []).length ≤ 100000 := by
        have key : ∀ i, ((w.drop 1).getD i []).length ≤ 100000 := fun i => by rw [drop_get]; have := hgl (1 + i); omega
        intro i
        unfold numsW
        split
        · match i with
          | 0 => exact key 0
          | i + 1 =>
            rw [List.getD_cons_succ, drop_get]; exact key _
        · split
          · rw [drop_get]; exact key _
          · exact key i
      have hnl : (numsW k (w.drop 1)).length ≤ 100000 := by
        unfold numsW
        split
        · simp; omega
        · split <;> simp <;> omega
      have hfl := vflag_c (G := G) k
      by_cases he : errL (numsW k (w.drop 1)) = 0
      · rw [if_neg (fun q => q he)]
        have hn := numbers_ok hT _ hnl hgn he
        have hm := made_c (G := G) k (yesB k (w.drop 1)) _ (fitN_num hs)
        generalize madeC k (yesB k (w.drop 1)) (numL (numsW k (w.drop 1))) = M at *
        generalize numL (numsW k (w.drop 1)) = NN at *
        generalize numsW k (w.drop 1) = ND at *
        have hB : yesB k (w.drop 1) = decide (yesW k ≠ [] ∧ wordW k (w.drop 1) = yesW k) := rfl
        generalize yesB k (w.drop 1) = B at *
        generalize wordW k (w.drop 1) = W at *
        have hmS : ¬ yesW k = [] → ACalls Tryd.prog G 63 [.int .i64 k, .sb (W == yesW k), intsA NN] (.agg (cmA M)) := fun q => by
          have e : (W == yesW k) = B := by
            rw [hB, Bool.eq_iff_iff, decide_eq_true_iff, beq_iff_eq]
            exact ⟨fun z => ⟨q, z⟩, fun z => z.2⟩
          rw [e]; exact hm
        have hmN : yesW k = [] → ACalls Tryd.prog G 63 [.int .i64 k, .bool false, intsA NN] (.agg (cmA M)) := fun q => by
          have e : B = false := by rw [hB]; exact decide_eq_false fun z => z.1 q
          rw [e] at hm; exact argBool hm
        clear hm
        refine ACalls.of_WA ttok Tryd.func32 rfl rfl _ rfl ?_
        conv => whnf
        repeat' (first | refine WA_seq ?_ | (refine WA_region ttok ?_; conv => whnf) | (refine WA_draw ttok mixed ?_; conv => whnf) | (refine WA_cond ?_; conv => whnf) | refine WA_block ?_ | (refine WA_skip ?_; conv => whnf) | (refine WA_exit ?_; conv => whnf) | (refine WA_ret ?_; conv => whnf) | (refine And.intro (fun h => ?_) (fun h => ?_) <;> (try simp only [brsA] at h) <;> conv => whnf) | (refine Or.inl ?_; (conv => whnf); refine Exists.intro _ (And.intro (hws) ?_); conv => whnf) | (refine Or.inr (Or.inr (Or.inl ?_)); (conv => whnf); refine Exists.intro _ (And.intro (hws) ?_); conv => whnf) | (refine Exists.intro _ (And.intro (hws) ?_); conv => whnf) | (refine Or.inl ?_; (conv => whnf); refine Exists.intro _ (And.intro (hk) ?_); conv => whnf) | (refine Or.inr (Or.inr (Or.inl ?_)); (conv => whnf); refine Exists.intro _ (And.intro (hk) ?_); conv => whnf) | (refine Exists.intro _ (And.intro (hk) ?_); conv => whnf) | (refine Or.inl ?_; (conv => whnf); refine Exists.intro _ (And.intro (hsp) ?_); conv => whnf) | (refine Or.inr (Or.inr (Or.inl ?_)); (conv => whnf); refine Exists.intro _ (And.intro (hsp) ?_); conv => whnf) | (refine Exists.intro _ (And.intro (hsp) ?_); conv => whnf) | (refine Or.inl ?_; (conv => whnf); refine Exists.intro _ (And.intro (hn) ?_); conv => whnf) | (refine Or.inr (Or.inr (Or.inl ?_)); (conv => whnf); refine Exists.intro _ (And.intro (hn) ?_); conv => whnf) | (refine Exists.intro _ (And.intro (hn) ?_); conv => whnf) | (refine Or.inl ?_; (conv => whnf); refine Exists.intro _ (And.intro (hfl) ?_); conv => whnf) | (refine Or.inr (Or.inr (Or.inl ?_)); (conv => whnf); refine Exists.intro _ (And.intro (hfl) ?_); conv => whnf) | (refine Exists.intro _ (And.intro (hfl) ?_); conv => whnf) | (refine Or.inl ?_; (conv => whnf); refine Exists.intro _ (And.intro (hmS (by assumption)) ?_); conv => whnf) | (refine Or.inr (Or.inr (Or.inl ?_)); (conv => whnf); refine Exists.intro _ (And.intro (hmS (by assumption)) ?_); conv => whnf) | (refine Exists.intro _ (And.intro (hmS (by assumption)) ?_); conv => whnf) | (refine Or.inl ?_; (conv => whnf); refine Exists.intro _ (And.intro (hmN (by assumption)) ?_); conv => whnf) | (refine Or.inr (Or.inr (Or.inl ?_)); (conv => whnf); refine Exists.intro _ (And.intro (hmN (by assumption)) ?_); conv => whnf) | (refine Exists.intro _ (And.intro (hmN (by assumption)) ?_); conv => whnf) | (refine WR_fit ?_ ?_; (focus (first | exact wr_i64 (by omega) | exact wr_u64 (by omega) | exact wr_u8 (by omega) | exact wr_i32 (by omega) | exact wr_u32 (by omega))); conv => whnf) | (refine WR_wrap ?_; conv => whnf) | (refine And.intro (a := indepB _ _ = true) ?_ ?_; (focus kernel_rfl); conv => whnf) | (refine And.intro rfl ?_; conv => whnf) | (refine And.intro ?_ ?_; (focus (first | omega | decide | (dsimp only; omega) | (simp at *; omega))); conv => whnf))
        all_goals first | contradiction | (exfalso; omega) | skip
        all_goals exact ⟨Or.inl fun _ _ => rfl, rfl, Or.inl fun _ _ => rfl, rfl, rfl, rfl, rfl, rfl, rfl, rfl, rfl, rfl, rfl⟩
      · rw [if_pos he]
        have hn := numbers_bad hT _ hnl hgn he
        generalize errL (numsW k (w.drop 1)) = EE at *
        refine ACalls.of_WA ttok Tryd.func32 rfl rfl _ rfl ?_
        conv => whnf
        repeat' (first | refine WA_seq ?_ | (refine WA_region ttok ?_; conv => whnf) | (refine WA_draw ttok mixed ?_; conv => whnf) | (refine WA_cond ?_; conv => whnf) | refine WA_block ?_ | (refine WA_skip ?_; conv => whnf) | (refine WA_exit ?_; conv => whnf) | (refine WA_ret ?_; conv => whnf) | (refine And.intro (fun h => ?_) (fun h => ?_) <;> (try simp only [brsA] at h) <;> conv => whnf) | (refine Or.inl ?_; (conv => whnf); refine Exists.intro _ (And.intro (hws) ?_); conv => whnf) | (refine Or.inr (Or.inr (Or.inl ?_)); (conv => whnf); refine Exists.intro _ (And.intro (hws) ?_); conv => whnf) | (refine Exists.intro _ (And.intro (hws) ?_); conv => whnf) | (refine Or.inl ?_; (conv => whnf); refine Exists.intro _ (And.intro (hk) ?_); conv => whnf) | (refine Or.inr (Or.inr (Or.inl ?_)); (conv => whnf); refine Exists.intro _ (And.intro (hk) ?_); conv => whnf) | (refine Exists.intro _ (And.intro (hk) ?_); conv => whnf) | (refine Or.inl ?_; (conv => whnf); refine Exists.intro _ (And.intro (hsp) ?_); conv => whnf) | (refine Or.inr (Or.inr (Or.inl ?_)); (conv => whnf); refine Exists.intro _ (And.intro (hsp) ?_); conv => whnf) | (refine Exists.intro _ (And.intro (hsp) ?_); conv => whnf) | (refine Or.inl ?_; (conv => whnf); refine Exists.intro _ (And.intro (hn) ?_); conv => whnf) | (refine Or.inr (Or.inr (Or.inl ?_)); (conv => whnf); refine Exists.intro _ (And.intro (hn) ?_); conv => whnf) | (refine Exists.intro _ (And.intro (hn) ?_); conv => whnf) | (refine WR_fit ?_ ?_; (focus (first | exact wr_i64 (by omega) | exact wr_u64 (by omega) | exact wr_u8 (by omega) | exact wr_i32 (by omega) | exact wr_u32 (by omega))); conv => whnf) | (refine WR_wrap ?_; conv => whnf) | (refine And.intro (a := indepB _ _ = true) ?_ ?_; (focus kernel_rfl); conv => whnf) | (refine And.intro rfl ?_; conv => whnf) | (refine And.intro ?_ ?_; (focus (first | omega | decide | (dsimp only; omega) | (simp at *; omega))); conv => whnf))
        all_goals first | contradiction | (exfalso; omega) | skip
  · rw [if_pos (Or.inr hs)]
    have hsp := hdr k _ (split_bad (G := G) k (w.drop 1) hdl hs)
    refine ACalls.of_WA ttok Tryd.func32 rfl rfl _ rfl ?_
    conv => whnf
    repeat' (first | refine WA_seq ?_ | (refine WA_region ttok ?_; conv => whnf) | (refine WA_draw ttok mixed ?_; conv => whnf) | (refine WA_cond ?_; conv => whnf) | refine WA_block ?_ | (refine WA_skip ?_; conv => whnf) | (refine WA_exit ?_; conv => whnf) | (refine WA_ret ?_; conv => whnf) | (refine And.intro (fun h => ?_) (fun h => ?_) <;> (try simp only [brsA] at h) <;> conv => whnf) | (refine Or.inl ?_; (conv => whnf); refine Exists.intro _ (And.intro (hws) ?_); conv => whnf) | (refine Or.inr (Or.inr (Or.inl ?_)); (conv => whnf); refine Exists.intro _ (And.intro (hws) ?_); conv => whnf) | (refine Exists.intro _ (And.intro (hws) ?_); conv => whnf) | (refine Or.inl ?_; (conv => whnf); refine Exists.intro _ (And.intro (hk) ?_); conv => whnf) | (refine Or.inr (Or.inr (Or.inl ?_)); (conv => whnf); refine Exists.intro _ (And.intro (hk) ?_); conv => whnf) | (refine Exists.intro _ (And.intro (hk) ?_); conv => whnf) | (refine Or.inl ?_; (conv => whnf); refine Exists.intro _ (And.intro (hsp) ?_); conv => whnf) | (refine Or.inr (Or.inr (Or.inl ?_)); (conv => whnf); refine Exists.intro _ (And.intro (hsp) ?_); conv => whnf) | (refine Exists.intro _ (And.intro (hsp) ?_); conv => whnf) | (refine WR_fit ?_ ?_; (focus (first | exact wr_i64 (by omega) | exact wr_u64 (by omega) | exact wr_u8 (by omega) | exact wr_i32 (by omega) | exact wr_u32 (by omega))); conv => whnf) | (refine WR_wrap ?_; conv => whnf) | (refine And.intro (a := indepB _ _ = true) ?_ ?_; (focus kernel_rfl); conv => whnf) | (refine And.intro rfl ?_; conv => whnf) | (refine And.intro ?_ ?_; (focus (first | omega | decide | (dsimp only; omega) | (simp at *; omega))); conv => whnf))
    all_goals first | contradiction | (exfalso; omega) | skip
end Go.Proofs.YtagokdeflnkplaaDoor

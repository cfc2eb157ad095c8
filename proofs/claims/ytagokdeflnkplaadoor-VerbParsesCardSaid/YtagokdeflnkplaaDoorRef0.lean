/-
  The walk of the reference's Parse at lines that are no command.
-/
import Derived.Test.YtagokdeflnkplaaDoorRefW
set_option linter.unusedSimpArgs false
namespace Go.Proofs.YtagokdeflnkplaaDoor
open Go.Proofs.YtagokdeflnkplaaDoor.Am Go.Lib
variable {G : GInv}
set_option maxRecDepth 100000 in
set_option maxHeartbeats 16000000 in
theorem rvp_bad (s : List UInt8) (h : okLine s) (hbad : kindL ((cutL 32 s).getD 0 []) = 0 ∨ ¬ shapeV (kindL ((cutL 32 s).getD 0 [])) ((cutL 32 s).drop 1)) : ACalls Tryd.prog G 33 [.str s] (resP (cm0, 2)) := by
  obtain ⟨h1, h0, hw⟩ := h
  have hws := rwords_ok (G := G) s (by omega) h0 hw true (decide_eq_true h1).symm
  rw [if_pos rfl] at hws
  have hcl := cutL_len 32 s
  have hgl := cutL_get_len 32 s
  have hne := cutL_ne 32 s
  have hln := List.length_pos_iff.2 hne
  generalize cutL 32 s = w at *
  have hlw : (w.length : Int) - 1 = ((w.length - 1 : Nat) : Int) := by omega
  have htm : ((w.length : Int) - 1).tmod 3 = (((w.length - 1) % 3 : Nat) : Int) := by rw [hlw]; rfl
  have hK : 0 ≤ kindL (w.getD 0 []) ∧ kindL (w.getD 0 []) ≤ 13 := by
    rcases kindL_or (w.getD 0 []) with q | q
    · omega
    · omega
  unfold resP
  refine ACalls.of_WA ttok Tryd.func33 rfl rfl _ rfl ?_
  conv => whnf
  repeat' (first | refine WA_seq ?_ | (refine WA_region ttok ?_; conv => whnf) | (refine WA_draw ttok mixed ?_; conv => whnf) | (refine WA_cond ?_; conv => whnf) | refine WA_block ?_ | (refine WA_skip ?_; conv => whnf) | (refine WA_exit ?_; conv => whnf) | (refine WA_ret ?_; conv => whnf) | (refine And.intro (fun h => ?_) (fun h => ?_) <;> (try simp only [brsA] at h) <;> conv => whnf) | (refine Or.inl ?_; (conv => whnf); refine Exists.intro _ (And.intro (hws) ?_); conv => whnf) | (refine Or.inr (Or.inr (Or.inl ?_)); (conv => whnf); refine Exists.intro _ (And.intro (hws) ?_); conv => whnf) | (refine Exists.intro _ (And.intro (hws) ?_); conv => whnf) | (refine WR_fit ?_ ?_; (focus (first | exact wr_i64 (by omega) | exact wr_u64 (by omega) | exact wr_u8 (by omega) | exact wr_i32 (by omega) | exact wr_u32 (by omega))); conv => whnf) | (refine WR_wrap ?_; conv => whnf) | (refine And.intro (a := indepB _ _ = true) ?_ ?_; (focus kernel_rfl); conv => whnf) | (refine And.intro rfl ?_; conv => whnf) | (refine And.intro ?_ ?_; (focus (first | omega | decide | (dsimp only; omega) | (simp at *; omega))); conv => whnf))
  all_goals first | contradiction | (exfalso; omega) | skip
  refine WA_loopI (fun i : Nat => i ≤ 13) (fun i => [(7, .int .i64 ((i : Int) + 1))]) (fun i => [.box 56 (cmA cm0), .box 56 (cmA ⟨kndI (w.getD 0 []) i, 0, [], [], false, 0, 0, 0, false, (0, 0), (0, 0)⟩)]) (fun i => 13 - i) 0 (by omega) ?_ ?_
  · conv => whnf
    repeat (first | exact rfl | exact trivial | exact Or.inl (fun _ _ => rfl) | exact (fun _ => rfl) | exact (fun _ _ => rfl) | exact Or.inl (fun _ hi => absurd hi (Nat.not_lt_zero _)) | (refine And.intro rfl ?_; conv => whnf) | (refine And.intro (Or.inl (fun _ _ => rfl)) ?_; conv => whnf) | (refine And.intro (fun _ => rfl) ?_; conv => whnf) | (refine And.intro (fun _ _ => rfl) ?_; conv => whnf) | (refine And.intro ?_ ?_; rotate_left; conv => whnf))
    unfold kndI
    exact (if_neg (by omega)).symm
  intro i hi
  by_cases hi3 : i < 13
  · have hnm := rvname_c (G := G) ((i : Int) + 1)
    conv => whnf
    repeat' (first | refine WA_seq ?_ | (refine WA_region ttok ?_; conv => whnf) | (refine WA_draw ttok mixed ?_; conv => whnf) | (refine WA_cond ?_; conv => whnf) | refine WA_block ?_ | (refine WA_skip ?_; conv => whnf) | (refine WA_exit ?_; conv => whnf) | (refine WA_ret ?_; conv => whnf) | (refine And.intro (fun h => ?_) (fun h => ?_) <;> (try simp only [brsA] at h) <;> conv => whnf) | (refine Or.inl ?_; (conv => whnf); refine Exists.intro _ (And.intro (hnm) ?_); conv => whnf) | (refine Or.inr (Or.inr (Or.inl ?_)); (conv => whnf); refine Exists.intro _ (And.intro (hnm) ?_); conv => whnf) | (refine Exists.intro _ (And.intro (hnm) ?_); conv => whnf) | (refine WR_fit ?_ ?_; (focus (first | exact wr_i64 (by omega) | exact wr_u64 (by omega) | exact wr_u8 (by omega) | exact wr_i32 (by omega) | exact wr_u32 (by omega))); conv => whnf) | (refine WR_wrap ?_; conv => whnf) | (refine And.intro (a := indepB _ _ = true) ?_ ?_; (focus kernel_rfl); conv => whnf) | (refine And.intro rfl ?_; conv => whnf) | (refine And.intro ?_ ?_; (focus (first | omega | decide | (dsimp only; omega) | (simp at *; omega))); conv => whnf))
    all_goals first | contradiction | (exfalso; omega) | skip
    · refine ⟨i + 1, (by show i + 1 ≤ 13; omega), (by show 13 - (i + 1) < 13 - i; omega), ?_⟩
      conv => whnf
      repeat (first | exact rfl | exact trivial | exact Or.inl (fun _ _ => rfl) | exact (fun _ => rfl) | exact (fun _ _ => rfl) | exact Or.inl (fun _ hi => absurd hi (Nat.not_lt_zero _)) | (refine And.intro rfl ?_; conv => whnf) | (refine And.intro (Or.inl (fun _ _ => rfl)) ?_; conv => whnf) | (refine And.intro (fun _ => rfl) ?_; conv => whnf) | (refine And.intro (fun _ _ => rfl) ?_; conv => whnf) | (refine And.intro ?_ ?_; rotate_left; conv => whnf))
      exact (kndI_yes hi3 (by assumption)).symm
    · refine ⟨i + 1, (by show i + 1 ≤ 13; omega), (by show 13 - (i + 1) < 13 - i; omega), ?_⟩
      conv => whnf
      repeat (first | exact rfl | exact trivial | exact Or.inl (fun _ _ => rfl) | exact (fun _ => rfl) | exact (fun _ _ => rfl) | exact Or.inl (fun _ hi => absurd hi (Nat.not_lt_zero _)) | (refine And.intro rfl ?_; conv => whnf) | (refine And.intro (Or.inl (fun _ _ => rfl)) ?_; conv => whnf) | (refine And.intro (fun _ => rfl) ?_; conv => whnf) | (refine And.intro (fun _ _ => rfl) ?_; conv => whnf) | (refine And.intro ?_ ?_; rotate_left; conv => whnf))
      exact (kndI_no hi3 (by assumption)).symm
  obtain rfl : i = 13 := by omega
  rw [kndI_13]
  generalize kindL (w.getD 0 []) = K at *
  have hK0 : 0 ≤ K ∧ K < 14 := ⟨hK.1, by omega⟩
  conv => whnf
  repeat' (first | refine WA_seq ?_ | (refine WA_region ttok ?_; conv => whnf) | (refine WA_draw ttok mixed ?_; conv => whnf) | (refine WA_cond ?_; conv => whnf) | refine WA_block ?_ | (refine WA_skip ?_; conv => whnf) | (refine WA_exit ?_; conv => whnf) | (refine WA_ret ?_; conv => whnf) | (refine And.intro (fun h => ?_) (fun h => ?_) <;> (try simp only [brsA] at h) <;> conv => whnf) | (refine WR_fit ?_ ?_; (focus (first | exact wr_i64 (by omega) | exact wr_u64 (by omega) | exact wr_u8 (by omega) | exact wr_i32 (by omega) | exact wr_u32 (by omega))); conv => whnf) | (refine WR_wrap ?_; conv => whnf) | (refine And.intro (a := indepB _ _ = true) ?_ ?_; (focus kernel_rfl); conv => whnf) | (refine And.intro rfl ?_; conv => whnf) | (refine And.intro ?_ ?_; (focus (first | omega | decide | (dsimp only; omega) | (simp at *; omega))); conv => whnf))
  all_goals first | contradiction | (exfalso; omega) | skip
  rw [tbl_at K hK0]
  obtain ⟨n8, hn8⟩ : ∃ n8, n8 = tblL.getD K.toNat 0 := ⟨_, rfl⟩
  have hv := tbl_val K hK0
  rw [← hn8] at hv ⊢
  clear hn8
  conv => whnf
  have g2 : w.getD (Int.toNat 2) [] = (w.drop 1).getD 1 [] := by rw [drop_get]; rfl
  have g1 : w.getD (Int.toNat 1) [] = (w.drop 1).getD 0 [] := by rw [drop_get]; rfl
  have hdl : (w.drop 1).length = w.length - 1 := by rw [List.length_drop]
  by_cases k0 : K = 0
  · subst k0
    repeat' (first | (exact absurd (rfl : (0 : Int) = 0) (by assumption)) | refine WA_seq ?_ | (refine WA_region ttok ?_; conv => whnf) | (refine WA_draw ttok mixed ?_; conv => whnf) | (refine WA_cond ?_; conv => whnf) | refine WA_block ?_ | (refine WA_skip ?_; conv => whnf) | (refine WA_exit ?_; conv => whnf) | (refine WA_ret ?_; conv => whnf) | (refine And.intro (fun h => ?_) (fun h => ?_) <;> (try simp only [brsA] at h) <;> conv => whnf) | (refine WR_fit ?_ ?_; (focus (first | exact wr_i64 (by omega) | exact wr_u64 (by omega) | exact wr_u8 (by omega) | exact wr_i32 (by omega) | exact wr_u32 (by omega))); conv => whnf) | (refine WR_wrap ?_; conv => whnf) | (refine And.intro (a := indepB _ _ = true) ?_ ?_; (focus kernel_rfl); conv => whnf) | (refine And.intro rfl ?_; conv => whnf) | (refine And.intro ?_ ?_; (focus (first | omega | decide | (dsimp only; omega) | (simp at *; omega))); conv => whnf))
    all_goals first | contradiction | (exfalso; omega) | skip
  have hbad := hbad.resolve_left k0
  unfold shapeV at hbad
  by_cases k1 : K = 1
  · subst k1
    rw [if_pos rfl] at hbad
    rw [if_pos rfl] at hv
    subst hv
    rw [hdl, ← g2] at hbad
    by_cases hc : 4 ≤ w.length - 1 ∧ (w.length - 1) % 3 = 1 ∧ w.length - 1 ≤ 301
    · have hno : w.getD (Int.toNat 2) [] ≠ noW 1 := fun q => hbad ⟨hc.1, hc.2.1, hc.2.2, Or.inl q⟩
      have hye : w.getD (Int.toNat 2) [] ≠ yesW 1 := fun q => hbad ⟨hc.1, hc.2.1, hc.2.2, Or.inr q⟩
      have h4 : (4 : Int) ≤ (w.length : Int) - 1 := by omega
      have h3 : ((w.length : Int) - 1).tmod 3 = 1 := by rw [htm]; omega
      have h301 : (w.length : Int) - 1 ≤ 301 := by omega
      clear hbad hc htm hlw
      repeat' (first | (exact absurd (show (1 : Int) = 0 by assumption) (by decide)) | (exact absurd (show (0 : Int) ≤ -1 by assumption) (by decide)) | (exact absurd (show (-1 : Int) < 0 by decide) (by assumption)) | (exact absurd (rfl : (1 : Int) = 1) (by assumption)) | (exact absurd h4 (by assumption)) | (exact absurd h3 (by assumption)) | (exact absurd h301 (by assumption)) | (exact absurd (show w.getD (Int.toNat 2) [] = noW 1 by assumption) hno) | (exact absurd (show w.getD (Int.toNat 2) [] = yesW 1 by assumption) hye) | refine WA_seq ?_ | (refine WA_region ttok ?_; conv => whnf) | (refine WA_draw ttok mixed ?_; conv => whnf) | (refine WA_cond ?_; conv => whnf) | refine WA_block ?_ | (refine WA_skip ?_; conv => whnf) | (refine WA_exit ?_; conv => whnf) | (refine WA_ret ?_; conv => whnf) | (refine And.intro (fun h => ?_) (fun h => ?_) <;> (try simp only [brsA] at h) <;> conv => whnf) | (refine WR_fit ?_ ?_; (focus (first | exact wr_i64 (by omega) | exact wr_u64 (by omega) | exact wr_u8 (by omega) | exact wr_i32 (by omega) | exact wr_u32 (by omega))); conv => whnf) | (refine WR_wrap ?_; conv => whnf) | (refine And.intro (a := indepB _ _ = true) ?_ ?_; (focus kernel_rfl); conv => whnf) | (refine And.intro rfl ?_; conv => whnf) | (refine And.intro ?_ ?_; (focus (first | omega | decide | (dsimp only; omega) | (simp at *; omega))); conv => whnf))
      all_goals first | contradiction | (exfalso; omega) | skip
      all_goals trace_state
    · have hcI : ¬ ((4 : Int) ≤ (w.length : Int) - 1 ∧ ((w.length : Int) - 1).tmod 3 = 1 ∧ (w.length : Int) - 1 ≤ 301) := fun q => hc (by rw [htm] at q; omega)
      clear hbad hc htm hlw
      repeat' (first | (exact absurd (show (1 : Int) = 0 by assumption) (by decide)) | (exact absurd (show (0 : Int) ≤ -1 by assumption) (by decide)) | (exact absurd (show (-1 : Int) < 0 by decide) (by assumption)) | (exact absurd (rfl : (1 : Int) = 1) (by assumption)) | (exact absurd (show (4 : Int) ≤ (w.length : Int) - 1 ∧ ((w.length : Int) - 1).tmod 3 = 1 ∧ (w.length : Int) - 1 ≤ 301 from ⟨by assumption, by assumption, by assumption⟩) hcI) | refine WA_seq ?_ | (refine WA_region ttok ?_; conv => whnf) | (refine WA_draw ttok mixed ?_; conv => whnf) | (refine WA_cond ?_; conv => whnf) | refine WA_block ?_ | (refine WA_skip ?_; conv => whnf) | (refine WA_exit ?_; conv => whnf) | (refine WA_ret ?_; conv => whnf) | (refine And.intro (fun h => ?_) (fun h => ?_) <;> (try simp only [brsA] at h) <;> conv => whnf) | (refine WR_fit ?_ ?_; (focus (first | exact wr_i64 (by omega) | exact wr_u64 (by omega) | exact wr_u8 (by omega) | exact wr_i32 (by omega) | exact wr_u32 (by omega))); conv => whnf) | (refine WR_wrap ?_; conv => whnf) | (refine And.intro (a := indepB _ _ = true) ?_ ?_; (focus kernel_rfl); conv => whnf) | (refine And.intro rfl ?_; conv => whnf) | (refine And.intro ?_ ?_; (focus (first | omega | decide | (dsimp only; omega) | (simp at *; omega))); conv => whnf))
      all_goals first | contradiction | (exfalso; omega) | skip
      all_goals trace_state
  rw [if_neg k1] at hbad hv
  by_cases k4 : K = 4 ∨ K = 5
  · rw [if_pos k4] at hbad hv
    subst hv
    rw [hdl, ← g1] at hbad
    have hnoW : noW K = [110, 111] ∧ yesW K = [111, 110, 108, 121] := by rcases k4 with e | e <;> subst e <;> exact ⟨rfl, rfl⟩
    rw [hnoW.1, hnoW.2] at hbad
    by_cases hc : w.length - 1 = 3
    · have hno : w.getD (Int.toNat 1) [] ≠ [110, 111] := fun q => hbad ⟨hc, Or.inl q⟩
      have hye : w.getD (Int.toNat 1) [] ≠ [111, 110, 108, 121] := fun q => hbad ⟨hc, Or.inr q⟩
      have he : (w.length : Int) - 1 = 3 := by omega
      have h4c : ¬ (4 : Int) ≤ (w.length : Int) - 1 := by omega
      clear hbad htm hlw
      repeat' (first | (exact absurd (show K = 0 by assumption) k0) | (exact absurd (show K = 1 by assumption) k1) | (exact absurd (Or.inl (show K = 4 by assumption)) (show ¬ (K = 4 ∨ K = 5) from fun q => q.elim (by assumption) (by assumption))) | (exact absurd he (by assumption)) | (exact absurd (show (4 : Int) ≤ (w.length : Int) - 1 by assumption) h4c) | (exact absurd (show (3 : Int) < 0 by assumption) (by decide)) | (exact absurd (show (0 : Int) ≤ 3 by decide) (by assumption)) | (exact absurd k4 (fun q => q.elim (by assumption) (by assumption))) | (exact absurd (show w.getD (Int.toNat 1) [] = [110, 111] by assumption) hno) | (exact absurd (show w.getD (Int.toNat 1) [] = [111, 110, 108, 121] by assumption) hye) | refine WA_seq ?_ | (refine WA_region ttok ?_; conv => whnf) | (refine WA_draw ttok mixed ?_; conv => whnf) | (refine WA_cond ?_; conv => whnf) | refine WA_block ?_ | (refine WA_skip ?_; conv => whnf) | (refine WA_exit ?_; conv => whnf) | (refine WA_ret ?_; conv => whnf) | (refine And.intro (fun h => ?_) (fun h => ?_) <;> (try simp only [brsA] at h) <;> conv => whnf) | (refine WR_fit ?_ ?_; (focus (first | exact wr_i64 (by omega) | exact wr_u64 (by omega) | exact wr_u8 (by omega) | exact wr_i32 (by omega) | exact wr_u32 (by omega))); conv => whnf) | (refine WR_wrap ?_; conv => whnf) | (refine And.intro (a := indepB _ _ = true) ?_ ?_; (focus kernel_rfl); conv => whnf) | (refine And.intro rfl ?_; conv => whnf) | (refine And.intro ?_ ?_; (focus (first | omega | decide | (dsimp only; omega) | (simp at *; omega))); conv => whnf))
      all_goals first | contradiction | (exfalso; omega) | skip
      all_goals trace_state
    · have he : ¬ (w.length : Int) - 1 = 3 := by omega
      clear hbad
      repeat' (first | (exact absurd (show K = 0 by assumption) k0) | (exact absurd (show (w.length : Int) - 1 = 3 by assumption) he) | (exact absurd (show (0 : Int) ≤ 3 by decide) (by assumption)) | refine WA_seq ?_ | (refine WA_region ttok ?_; conv => whnf) | (refine WA_draw ttok mixed ?_; conv => whnf) | (refine WA_cond ?_; conv => whnf) | refine WA_block ?_ | (refine WA_skip ?_; conv => whnf) | (refine WA_exit ?_; conv => whnf) | (refine WA_ret ?_; conv => whnf) | (refine And.intro (fun h => ?_) (fun h => ?_) <;> (try simp only [brsA] at h) <;> conv => whnf) | (refine WR_fit ?_ ?_; (focus (first | exact wr_i64 (by omega) | exact wr_u64 (by omega) | exact wr_u8 (by omega) | exact wr_i32 (by omega) | exact wr_u32 (by omega))); conv => whnf) | (refine WR_wrap ?_; conv => whnf) | (refine And.intro (a := indepB _ _ = true) ?_ ?_; (focus kernel_rfl); conv => whnf) | (refine And.intro rfl ?_; conv => whnf) | (refine And.intro ?_ ?_; (focus (first | omega | decide | (dsimp only; omega) | (simp at *; omega))); conv => whnf))
      all_goals first | contradiction | (exfalso; omega) | skip
      all_goals trace_state
  rw [if_neg k4] at hbad hv
  rw [hdl] at hbad
  rw [← hv] at hbad
  have hn0 : 0 ≤ n8 := by rw [hv]; unfold manyN; repeat' split <;> omega
  have he : ¬ (w.length : Int) - 1 = n8 := fun q => hbad (by omega)
  clear hbad hv
  repeat' (first | (exact absurd (show K = 0 by assumption) k0) | (exact absurd hn0 (by assumption)) | (exact absurd (show (w.length : Int) - 1 = n8 by assumption) he) | refine WA_seq ?_ | (refine WA_region ttok ?_; conv => whnf) | (refine WA_draw ttok mixed ?_; conv => whnf) | (refine WA_cond ?_; conv => whnf) | refine WA_block ?_ | (refine WA_skip ?_; conv => whnf) | (refine WA_exit ?_; conv => whnf) | (refine WA_ret ?_; conv => whnf) | (refine And.intro (fun h => ?_) (fun h => ?_) <;> (try simp only [brsA] at h) <;> conv => whnf) | (refine WR_fit ?_ ?_; (focus (first | exact wr_i64 (by omega) | exact wr_u64 (by omega) | exact wr_u8 (by omega) | exact wr_i32 (by omega) | exact wr_u32 (by omega))); conv => whnf) | (refine WR_wrap ?_; conv => whnf) | (refine And.intro (a := indepB _ _ = true) ?_ ?_; (focus kernel_rfl); conv => whnf) | (refine And.intro rfl ?_; conv => whnf) | (refine And.intro ?_ ?_; (focus (first | omega | decide | (dsimp only; omega) | (simp at *; omega))); conv => whnf))
  all_goals first | contradiction | (exfalso; omega) | skip
  all_goals trace_state
end Go.Proofs.YtagokdeflnkplaaDoor

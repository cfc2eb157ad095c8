/-
  The walk of the reference's Parse at bans.
-/
import Derived.Test.YtagokdeflnkplaaDoorRefW
set_option linter.unusedSimpArgs false
namespace Go.Proofs.YtagokdeflnkplaaDoor
open Go.Proofs.YtagokdeflnkplaaDoor.Am Go.Lib
variable {G : GInv}
set_option maxRecDepth 100000 in
set_option maxHeartbeats 16000000 in
theorem rvp_4 (s : List UInt8) (h : okLine s) (k4 : kindL ((cutL 32 s).getD 0 []) = 4 ∨ kindL ((cutL 32 s).getD 0 []) = 5) (hl : (cutL 32 s).length = 4) (hf : (cutL 32 s).getD 1 [] = [110, 111] ∨ (cutL 32 s).getD 1 [] = [111, 110, 108, 121]) : ACalls Tryd.prog G 33 [.str s] (resP (if errL ((cutL 32 s).drop 2) = 0 then (madeC (kindL ((cutL 32 s).getD 0 [])) ((cutL 32 s).getD 1 [] == [111, 110, 108, 121]) (numL ((cutL 32 s).drop 2)), 0) else (cm0, errL ((cutL 32 s).drop 2)))) := by
  obtain ⟨h1, h0, hw⟩ := h
  have hws := rwords_ok (G := G) s (by omega) h0 hw true (decide_eq_true h1).symm
  rw [if_pos rfl] at hws
  have hcl := cutL_len 32 s
  have hgl := cutL_get_len 32 s
  have hne := cutL_ne 32 s
  have hln := List.length_pos_iff.2 hne
  generalize cutL 32 s = w at *
  have hlw : (w.length : Int) - 1 = ((w.length - 1 : Nat) : Int) := by omega
  have htm : ((w.length : Int) - 1).tmod 3 = (((w.length - 1) % 3 : Nat) : Int) := by rw [hlw]; rfl
  have hK : 0 ≤ kindL (w.getD 0 []) ∧ kindL (w.getD 0 []) ≤ 13 := by
    rcases kindL_or (w.getD 0 []) with q | q
    · omega
    · omega
  unfold resP
  refine ACalls.of_WA ttok Tryd.func33 rfl rfl _ rfl ?_
  conv => whnf
  repeat' (first | refine WA_seq ?_ | (refine WA_region ttok ?_; conv => whnf) | (refine WA_draw ttok mixed ?_; conv => whnf) | (refine WA_cond ?_; conv => whnf) | refine WA_block ?_ | (refine WA_skip ?_; conv => whnf) | (refine WA_exit ?_; conv => whnf) | (refine WA_ret ?_; conv => whnf) | (refine And.intro (fun h => ?_) (fun h => ?_) <;> (try simp only [brsA] at h) <;> conv => whnf) | (refine Or.inl ?_; (conv => whnf); refine Exists.intro _ (And.intro (hws) ?_); conv => whnf) | (refine Or.inr (Or.inr (Or.inl ?_)); (conv => whnf); refine Exists.intro _ (And.intro (hws) ?_); conv => whnf) | (refine Exists.intro _ (And.intro (hws) ?_); conv => whnf) | (refine WR_fit ?_ ?_; (focus (first | exact wr_i64 (by omega) | exact wr_u64 (by omega) | exact wr_u8 (by omega) | exact wr_i32 (by omega) | exact wr_u32 (by omega))); conv => whnf) | (refine WR_wrap ?_; conv => whnf) | (refine And.intro (a := indepB _ _ = true) ?_ ?_; (focus kernel_rfl); conv => whnf) | (refine And.intro rfl ?_; conv => whnf) | (refine And.intro ?_ ?_; (focus (first | omega | decide | (dsimp only; omega) | (simp at *; omega))); conv => whnf))
  all_goals first | contradiction | (exfalso; omega) | skip
  refine WA_loopI (fun i : Nat => i ≤ 13) (fun i => [(7, .int .i64 ((i : Int) + 1))]) (fun i => [.box 56 (cmA cm0), .box 56 (cmA ⟨kndI (w.getD 0 []) i, 0, [], [], false, 0, 0, 0, false, (0, 0), (0, 0)⟩)]) (fun i => 13 - i) 0 (by omega) ?_ ?_
  · conv => whnf
    repeat (first | exact rfl | exact trivial | exact Or.inl (fun _ _ => rfl) | exact (fun _ => rfl) | exact (fun _ _ => rfl) | exact Or.inl (fun _ hi => absurd hi (Nat.not_lt_zero _)) | (refine And.intro rfl ?_; conv => whnf) | (refine And.intro (Or.inl (fun _ _ => rfl)) ?_; conv => whnf) | (refine And.intro (fun _ => rfl) ?_; conv => whnf) | (refine And.intro (fun _ _ => rfl) ?_; conv => whnf) | (refine And.intro ?_ ?_; rotate_left; conv => whnf))
    unfold kndI
    exact (if_neg (by omega)).symm
  intro i hi
  by_cases hi3 : i < 13
  · have hnm := rvname_c (G := G) ((i : Int) + 1)
    conv => whnf
    repeat' (first | refine WA_seq ?_ | (refine WA_region ttok ?_; conv => whnf) | (refine WA_draw ttok mixed ?_; conv => whnf) | (refine WA_cond ?_; conv => whnf) | refine WA_block ?_ | (refine WA_skip ?_; conv => whnf) | (refine WA_exit ?_; conv => whnf) | (refine WA_ret ?_; conv => whnf) | (refine And.intro (fun h => ?_) (fun h => ?_) <;> (try simp only [brsA] at h) <;> conv => whnf) | (refine Or.inl ?_; (conv => whnf); refine Exists.intro _ (And.intro (hnm) ?_); conv => whnf) | (refine Or.inr (Or.inr (Or.inl ?_)); (conv => whnf); refine Exists.intro _ (And.intro (hnm) ?_); conv => whnf) | (refine Exists.intro _ (And.intro (hnm) ?_); conv => whnf) | (refine WR_fit ?_ ?_; (focus (first | exact wr_i64 (by omega) | exact wr_u64 (by omega) | exact wr_u8 (by omega) | exact wr_i32 (by omega) | exact wr_u32 (by omega))); conv => whnf) | (refine WR_wrap ?_; conv => whnf) | (refine And.intro (a := indepB _ _ = true) ?_ ?_; (focus kernel_rfl); conv => whnf) | (refine And.intro rfl ?_; conv => whnf) | (refine And.intro ?_ ?_; (focus (first | omega | decide | (dsimp only; omega) | (simp at *; omega))); conv => whnf))
    all_goals first | contradiction | (exfalso; omega) | skip
    · refine ⟨i + 1, (by show i + 1 ≤ 13; omega), (by show 13 - (i + 1) < 13 - i; omega), ?_⟩
      conv => whnf
      repeat (first | exact rfl | exact trivial | exact Or.inl (fun _ _ => rfl) | exact (fun _ => rfl) | exact (fun _ _ => rfl) | exact Or.inl (fun _ hi => absurd hi (Nat.not_lt_zero _)) | (refine And.intro rfl ?_; conv => whnf) | (refine And.intro (Or.inl (fun _ _ => rfl)) ?_; conv => whnf) | (refine And.intro (fun _ => rfl) ?_; conv => whnf) | (refine And.intro (fun _ _ => rfl) ?_; conv => whnf) | (refine And.intro ?_ ?_; rotate_left; conv => whnf))
      exact (kndI_yes hi3 (by assumption)).symm
    · refine ⟨i + 1, (by show i + 1 ≤ 13; omega), (by show 13 - (i + 1) < 13 - i; omega), ?_⟩
      conv => whnf
      repeat (first | exact rfl | exact trivial | exact Or.inl (fun _ _ => rfl) | exact (fun _ => rfl) | exact (fun _ _ => rfl) | exact Or.inl (fun _ hi => absurd hi (Nat.not_lt_zero _)) | (refine And.intro rfl ?_; conv => whnf) | (refine And.intro (Or.inl (fun _ _ => rfl)) ?_; conv => whnf) | (refine And.intro (fun _ => rfl) ?_; conv => whnf) | (refine And.intro (fun _ _ => rfl) ?_; conv => whnf) | (refine And.intro ?_ ?_; rotate_left; conv => whnf))
      exact (kndI_no hi3 (by assumption)).symm
  obtain rfl : i = 13 := by omega
  rw [kndI_13]
  generalize kindL (w.getD 0 []) = K at *
  have hK0 : 0 ≤ K ∧ K < 14 := ⟨hK.1, by omega⟩
  conv => whnf
  repeat' (first | refine WA_seq ?_ | (refine WA_region ttok ?_; conv => whnf) | (refine WA_draw ttok mixed ?_; conv => whnf) | (refine WA_cond ?_; conv => whnf) | refine WA_block ?_ | (refine WA_skip ?_; conv => whnf) | (refine WA_exit ?_; conv => whnf) | (refine WA_ret ?_; conv => whnf) | (refine And.intro (fun h => ?_) (fun h => ?_) <;> (try simp only [brsA] at h) <;> conv => whnf) | (refine WR_fit ?_ ?_; (focus (first | exact wr_i64 (by omega) | exact wr_u64 (by omega) | exact wr_u8 (by omega) | exact wr_i32 (by omega) | exact wr_u32 (by omega))); conv => whnf) | (refine WR_wrap ?_; conv => whnf) | (refine And.intro (a := indepB _ _ = true) ?_ ?_; (focus kernel_rfl); conv => whnf) | (refine And.intro rfl ?_; conv => whnf) | (refine And.intro ?_ ?_; (focus (first | omega | decide | (dsimp only; omega) | (simp at *; omega))); conv => whnf))
  all_goals first | contradiction | (exfalso; omega) | skip
  rw [tbl_at K hK0]
  obtain ⟨n8, hn8⟩ : ∃ n8, n8 = tblL.getD K.toNat 0 := ⟨_, rfl⟩
  have hv := tbl_val K hK0
  rw [← hn8] at hv ⊢
  clear hn8
  conv => whnf
  have k0 : K ≠ 0 := by omega
  have k1 : K ≠ 1 := by omega
  rw [if_neg k1, if_pos k4] at hv
  subst hv
  have hgd : ∀ i, 2 ≤ i → (w.drop 2).getD (i - 2) [] = w.getD i [] := fun i hi => by rw [drop_get]; congr 1; omega
  have hdl : (w.drop 2).length = w.length - 2 := by rw [List.length_drop]
  generalize w.drop 2 = ws at *
  have hnl : (numL ws).length = 2 := by unfold numL; simp; omega
  have he : (w.length : Int) - 1 = 3 := by omega
  have hf1 : w.getD (Int.toNat 1) [] = [110, 111] ∨ w.getD (Int.toNat 1) [] = [111, 110, 108, 121] := hf
  have h4c : ¬ (4 : Int) ≤ (w.length : Int) - 1 := by omega
  clear htm hlw h0 hw hws hne hf
  repeat' (first | (exact absurd (show K = 0 by assumption) k0) | (exact absurd (show K = 1 by assumption) k1) | (exact absurd (Or.inl (show K = 4 by assumption)) (show ¬ (K = 4 ∨ K = 5) from fun q => q.elim (by assumption) (by assumption))) | (exact absurd he (by assumption)) | (exact absurd (show 4 ≤ (w.length : Int) - 1 by assumption) h4c) | (exact absurd hf1 (fun q => q.elim (by assumption) (by assumption))) | refine WA_seq ?_ | (refine WA_region ttok ?_; conv => whnf) | (refine WA_draw ttok mixed ?_; conv => whnf) | (refine WA_cond ?_; conv => whnf) | refine WA_block ?_ | (refine WA_skip ?_; conv => whnf) | (refine WA_exit ?_; conv => whnf) | (refine WA_ret ?_; conv => whnf) | (refine And.intro (fun h => ?_) (fun h => ?_) <;> (try simp only [brsA] at h) <;> conv => whnf) | (refine WR_fit ?_ ?_; (focus (first | exact wr_i64 (by omega) | exact wr_u64 (by omega) | exact wr_u8 (by omega) | exact wr_i32 (by omega) | exact wr_u32 (by omega))); conv => whnf) | (refine WR_wrap ?_; conv => whnf) | (refine And.intro (a := indepB _ _ = true) ?_ ?_; (focus kernel_rfl); conv => whnf) | (refine And.intro rfl ?_; conv => whnf) | (refine And.intro ?_ ?_; (focus (first | omega | decide | (dsimp only; omega) | (simp at *; omega))); conv => whnf))
  all_goals first | contradiction | (exfalso; omega) | skip
  clear h4c
  all_goals
    refine WA_ren [0, 1, 3] rfl ?_
    conv => whnf
    refine WA_loopI (fun i : Nat => 1 ≤ i ∧ i ≤ w.length ∧ errL (ws.drop (i - 2)) = errL ws) (fun i => [(12, .int .i64 (i : Int)), (11, .own 2), (13, .junk), (14, .junk), (132, .junk)]) (fun i => [.box 56 (cmA cm0), .box 56 (cmA ⟨K, 0, [], [], false, 0, 0, 0, (w.getD 1 [] == [111, 110, 108, 121]), (0, 0), (0, 0)⟩), .row 3 1 (i - 2) (fun j => [.int .i64 ((numL ws).getD j 0)])]) (fun i => w.length - i) 1 ⟨by omega, by omega, rfl⟩ ?_ ?_
    · conv => whnf
      repeat (first | exact rfl | exact trivial | exact Or.inl (fun _ _ => rfl) | exact (fun _ => rfl) | exact (fun _ _ => rfl) | exact Or.inl (fun _ hi => absurd hi (Nat.not_lt_zero _)) | (refine And.intro rfl ?_; conv => whnf) | (refine And.intro (Or.inl (fun _ _ => rfl)) ?_; conv => whnf) | (refine And.intro (fun _ => rfl) ?_; conv => whnf) | (refine And.intro (fun _ _ => rfl) ?_; conv => whnf) | (refine And.intro ?_ ?_; rotate_left; conv => whnf))
      all_goals trace_state
    rintro i ⟨hi1, hi2, hE⟩
    by_cases hil : i < w.length
    · by_cases hif : i = 1
      · subst hif
        have hlI : ((1 : Nat) : Int) < (w.length : Int) := by omega
        clear hgd hgl hnl
        conv => whnf
        repeat' (first | (exact absurd hlI (by assumption)) | (exact absurd (rfl : ((1 : Nat) : Int) = 1) (by assumption)) | refine WA_seq ?_ | (refine WA_region ttok ?_; conv => whnf) | (refine WA_draw ttok mixed ?_; conv => whnf) | (refine WA_cond ?_; conv => whnf) | refine WA_block ?_ | (refine WA_skip ?_; conv => whnf) | (refine WA_exit ?_; conv => whnf) | (refine WA_ret ?_; conv => whnf) | (refine And.intro (fun h => ?_) (fun h => ?_) <;> (try simp only [brsA] at h) <;> conv => whnf) | (refine WR_fit ?_ ?_; (focus (first | exact wr_i64 (by omega) | exact wr_u64 (by omega) | exact wr_u8 (by omega) | exact wr_i32 (by omega) | exact wr_u32 (by omega))); conv => whnf) | (refine WR_wrap ?_; conv => whnf) | (refine And.intro (a := indepB _ _ = true) ?_ ?_; (focus kernel_rfl); conv => whnf) | (refine And.intro rfl ?_; conv => whnf) | (refine And.intro ?_ ?_; (focus (first | omega | decide | (dsimp only; omega) | (simp at *; omega))); conv => whnf))
        all_goals first | contradiction | (exfalso; omega) | skip
        all_goals
          refine ⟨2, ⟨by omega, by omega, hE⟩, (by show w.length - 2 < w.length - 1; omega), ?_⟩
          conv => whnf
          repeat (first | exact rfl | exact trivial | exact Or.inl (fun _ _ => rfl) | exact (fun _ => rfl) | exact (fun _ _ => rfl) | exact Or.inl (fun _ hi => absurd hi (Nat.not_lt_zero _)) | (refine And.intro rfl ?_; conv => whnf) | (refine And.intro (Or.inl (fun _ _ => rfl)) ?_; conv => whnf) | (refine And.intro (fun _ => rfl) ?_; conv => whnf) | (refine And.intro (fun _ _ => rfl) ?_; conv => whnf) | (refine And.intro ?_ ?_; rotate_left; conv => whnf))
          all_goals trace_state
      · have ei : ((i : Nat) : Int).toNat = i := Int.toNat_natCast i
        have hp := rparse_c (G := G) (w.getD (i : Int).toNat []) (by have := hgl (i : Int).toNat; omega)
        have hd := errL_drop ws (i := i - 2) (by omega)
        have hng := numL_get ws (i := i - 2) (by omega)
        rw [hgd i (by omega)] at hd hng
        rw [show i - 2 + 1 = i + 1 - 2 by omega] at hd
        rw [hE] at hd
        rw [← ei] at hd hng
        have hlI : ((i : Nat) : Int) < (w.length : Int) := by omega
        have hb : i ≤ 4097 := by omega
        clear hgd hgl hE hnl k0 k1 k4
        by_cases hz : (parseN (w.getD (i : Int).toNat [])).2 = 0
        · rw [if_neg (fun q => q hz)] at hd
          rw [hz] at hp
          conv => whnf
          repeat' (first | (exact absurd trivial (by assumption)) | (exact absurd hlI (by assumption)) | (exact absurd (show (i : Int) = 1 by assumption) (by omega)) | refine WA_seq ?_ | (refine WA_region ttok ?_; conv => whnf) | (refine WA_draw ttok mixed ?_; conv => whnf) | (refine WA_cond ?_; conv => whnf) | refine WA_block ?_ | (refine WA_skip ?_; conv => whnf) | (refine WA_exit ?_; conv => whnf) | (refine WA_ret ?_; conv => whnf) | (refine And.intro (fun h => ?_) (fun h => ?_) <;> (try simp only [brsA] at h) <;> conv => whnf) | (refine Or.inl ?_; (conv => whnf); refine Exists.intro _ (And.intro (hp) ?_); conv => whnf) | (refine Or.inr (Or.inr (Or.inl ?_)); (conv => whnf); refine Exists.intro _ (And.intro (hp) ?_); conv => whnf) | (refine Exists.intro _ (And.intro (hp) ?_); conv => whnf) | (refine WR_fit ?_ ?_; (focus (first | exact wr_i64 (by omega) | exact wr_u64 (by omega) | exact wr_u8 (by omega) | exact wr_i32 (by omega) | exact wr_u32 (by omega))); conv => whnf) | (refine WR_wrap ?_; conv => whnf) | (refine And.intro (a := indepB _ _ = true) ?_ ?_; (focus kernel_rfl); conv => whnf) | (refine And.intro rfl ?_; conv => whnf) | (refine And.intro ?_ ?_; (focus (first | omega | decide | (dsimp only; omega) | (simp at *; omega))); conv => whnf))
          all_goals first | contradiction | (exfalso; omega) | skip
          refine ⟨i + 1, ⟨by omega, by omega, by rw [show i + 1 - 2 = (i : Int).toNat + 1 - 2 by omega]; exact hd.symm⟩, (by show w.length - (i + 1) < w.length - i; omega), ?_⟩
          conv => whnf
          repeat (first | exact rfl | exact trivial | exact Or.inl (fun _ _ => rfl) | exact (fun _ => rfl) | exact (fun _ _ => rfl) | exact Or.inl (fun _ hi => absurd hi (Nat.not_lt_zero _)) | (refine And.intro rfl ?_; conv => whnf) | (refine And.intro (Or.inl (fun _ _ => rfl)) ?_; conv => whnf) | (refine And.intro (fun _ => rfl) ?_; conv => whnf) | (refine And.intro (fun _ _ => rfl) ?_; conv => whnf) | (refine And.intro ?_ ?_; rotate_left; conv => whnf))
          all_goals first
            | omega
            | exact Or.inl fun j hj => rowCat_one (fun j => [A.int IntKind.i64 ((numL ws).getD j 0)]) _ (i - 2) (by show [A.int IntKind.i64 _] = [A.int IntKind.i64 _]; rw [show i - 2 = (i : Int).toNat - 2 by omega, hng]) j hj
            | trace_state
        · rw [if_pos hz] at hd
          rw [hd, if_neg hz]
          have hz0 := hz
          generalize (parseN (w.getD (i : Int).toNat [])).2 = p2 at *
          generalize (parseN (w.getD (i : Int).toNat [])).1 = p1 at *
          conv => whnf
          repeat' (first | (exact absurd hlI (by assumption)) | (exact absurd (show (i : Int) = 1 by assumption) (by omega)) | (exact absurd (show p2 = 0 by assumption) hz0) | refine WA_seq ?_ | (refine WA_region ttok ?_; conv => whnf) | (refine WA_draw ttok mixed ?_; conv => whnf) | (refine WA_cond ?_; conv => whnf) | refine WA_block ?_ | (refine WA_skip ?_; conv => whnf) | (refine WA_exit ?_; conv => whnf) | (refine WA_ret ?_; conv => whnf) | (refine And.intro (fun h => ?_) (fun h => ?_) <;> (try simp only [brsA] at h) <;> conv => whnf) | (refine Or.inl ?_; (conv => whnf); refine Exists.intro _ (And.intro (hp) ?_); conv => whnf) | (refine Or.inr (Or.inr (Or.inl ?_)); (conv => whnf); refine Exists.intro _ (And.intro (hp) ?_); conv => whnf) | (refine Exists.intro _ (And.intro (hp) ?_); conv => whnf) | (refine WR_fit ?_ ?_; (focus (first | exact wr_i64 (by omega) | exact wr_u64 (by omega) | exact wr_u8 (by omega) | exact wr_i32 (by omega) | exact wr_u32 (by omega))); conv => whnf) | (refine WR_wrap ?_; conv => whnf) | (refine And.intro (a := indepB _ _ = true) ?_ ?_; (focus kernel_rfl); conv => whnf) | (refine And.intro rfl ?_; conv => whnf) | (refine And.intro ?_ ?_; (focus (first | omega | decide | (dsimp only; omega) | (simp at *; omega))); conv => whnf))
          all_goals first | contradiction | (exfalso; omega) | skip
          all_goals trace_state
    · have he0 : errL ws = 0 := by rw [← hE, List.drop_eq_nil_of_le (by omega)]; rfl
      rw [if_pos he0]
      unfold madeC
      rw [if_neg k1, if_pos k4]
      have hi4 : i = 4 := by omega
      subst hi4
      have hlI : ¬ ((4 : Nat) : Int) < (w.length : Int) := by omega
      clear hgd hgl hE
      conv => whnf
      repeat' (first | (exact absurd (show ((4 : Nat) : Int) < (w.length : Int) by assumption) hlI) | (exact absurd (show K = 1 by assumption) k1) | (exact absurd k4 (fun q => q.elim (by assumption) (by assumption))) | (exact absurd k4 (show ¬ (K = 4 ∨ K = 5) by omega)) | refine WA_seq ?_ | (refine WA_region ttok ?_; conv => whnf) | (refine WA_draw ttok mixed ?_; conv => whnf) | (refine WA_cond ?_; conv => whnf) | refine WA_block ?_ | (refine WA_skip ?_; conv => whnf) | (refine WA_exit ?_; conv => whnf) | (refine WA_ret ?_; conv => whnf) | (refine And.intro (fun h => ?_) (fun h => ?_) <;> (try simp only [brsA] at h) <;> conv => whnf) | (refine WR_fit ?_ ?_; (focus (first | exact wr_i64 (by omega) | exact wr_u64 (by omega) | exact wr_u8 (by omega) | exact wr_i32 (by omega) | exact wr_u32 (by omega))); conv => whnf) | (refine WR_wrap ?_; conv => whnf) | (refine And.intro (a := indepB _ _ = true) ?_ ?_; (focus kernel_rfl); conv => whnf) | (refine And.intro rfl ?_; conv => whnf) | (refine And.intro ?_ ?_; (focus (first | omega | decide | (dsimp only; omega) | (simp at *; omega))); conv => whnf))
      all_goals first | contradiction | (exfalso; omega) | exact ⟨Or.inl fun _ _ => rfl, rfl, Or.inl fun _ _ => rfl, rfl, rfl, rfl, rfl, rfl, rfl, rfl, rfl, rfl, rfl⟩ | skip
      all_goals trace_state
end Go.Proofs.YtagokdeflnkplaaDoor

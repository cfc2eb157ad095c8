/-
  The walk of the reference's Parse at roads.
-/
import Derived.Test.YtagokdeflnkplaaDoorRefW
set_option linter.unusedSimpArgs false
namespace Go.Proofs.YtagokdeflnkplaaDoor
open Go.Proofs.YtagokdeflnkplaaDoor.Am Go.Lib
variable {G : GInv}
def cntF (i : Nat) : Nat := if i ≤ 2 then i - 1 else i - 2
theorem cntF_next {i : Nat} (h1 : 1 ≤ i) (h : i ≠ 2) : cntF i + 1 = cntF (i + 1) := by
  unfold cntF
  by_cases q : i ≤ 2
  · rw [if_pos q, if_pos (by omega)]; omega
  · rw [if_neg q, if_neg (by omega)]; omega
/-- The numbers' words of a road's line. -/
def nw1 (w : List (List UInt8)) : List (List UInt8) := w.getD 1 [] :: w.drop 3
theorem nw1_get {w : List (List UInt8)} {i : Nat} (h1 : 1 ≤ i) (h : i ≠ 2) : (nw1 w).getD (cntF i) [] = w.getD i [] := by
  unfold cntF nw1
  by_cases q : i ≤ 2
  · obtain rfl : i = 1 := by omega
    rfl
  · rw [if_neg q]
    obtain ⟨j, rfl⟩ : ∃ j, i = j + 3 := ⟨i - 3, by omega⟩
    rw [show j + 3 - 2 = j + 1 by omega, List.getD_cons_succ, drop_get, Nat.add_comm 3 j]
set_option maxRecDepth 100000 in
set_option maxHeartbeats 16000000 in
theorem rvp_1 (s : List UInt8) (h : okLine s) (k1 : kindL ((cutL 32 s).getD 0 []) = 1) (hl : 5 ≤ (cutL 32 s).length ∧ ((cutL 32 s).length - 1) % 3 = 1 ∧ (cutL 32 s).length ≤ 302) (hf : (cutL 32 s).getD 2 [] = [98, 111, 116, 104] ∨ (cutL 32 s).getD 2 [] = [111, 110, 101]) : ACalls Tryd.prog G 33 [.str s] (resP (if errL (nw1 (cutL 32 s)) = 0 then (madeC 1 ((cutL 32 s).getD 2 [] == [111, 110, 101]) (numL (nw1 (cutL 32 s))), 0) else (cm0, errL (nw1 (cutL 32 s))))) := by
  obtain ⟨h1, h0, hw⟩ := h
  have hws := rwords_ok (G := G) s (by omega) h0 hw true (decide_eq_true h1).symm
  rw [if_pos rfl] at hws
  have hcl := cutL_len 32 s
  have hgl := cutL_get_len 32 s
  have hne := cutL_ne 32 s
  have hln := List.length_pos_iff.2 hne
  generalize cutL 32 s = w at *
  have hlw : (w.length : Int) - 1 = ((w.length - 1 : Nat) : Int) := by omega
  have htm : ((w.length : Int) - 1).tmod 3 = (((w.length - 1) % 3 : Nat) : Int) := by rw [hlw]; rfl
  have hK : 0 ≤ kindL (w.getD 0 []) ∧ kindL (w.getD 0 []) ≤ 13 := by
    rcases kindL_or (w.getD 0 []) with q | q
    · omega
    · omega
  unfold resP
  refine ACalls.of_WA ttok Tryd.func33 rfl rfl _ rfl ?_
  conv => whnf
  repeat' (first | refine WA_seq ?_ | (refine WA_region ttok ?_; conv => whnf) | (refine WA_draw ttok mixed ?_; conv => whnf) | (refine WA_cond ?_; conv => whnf) | refine WA_block ?_ | (refine WA_skip ?_; conv => whnf) | (refine WA_exit ?_; conv => whnf) | (refine WA_ret ?_; conv => whnf) | (refine And.intro (fun h => ?_) (fun h => ?_) <;> (try simp only [brsA] at h) <;> conv => whnf) | (refine Or.inl ?_; (conv => whnf); refine Exists.intro _ (And.intro (hws) ?_); conv => whnf) | (refine Or.inr (Or.inr (Or.inl ?_)); (conv => whnf); refine Exists.intro _ (And.intro (hws) ?_); conv => whnf) | (refine Exists.intro _ (And.intro (hws) ?_); conv => whnf) | (refine WR_fit ?_ ?_; (focus (first | exact wr_i64 (by omega) | exact wr_u64 (by omega) | exact wr_u8 (by omega) | exact wr_i32 (by omega) | exact wr_u32 (by omega))); conv => whnf) | (refine WR_wrap ?_; conv => whnf) | (refine And.intro (a := indepB _ _ = true) ?_ ?_; (focus kernel_rfl); conv => whnf) | (refine And.intro rfl ?_; conv => whnf) | (refine And.intro ?_ ?_; (focus (first | omega | decide | (dsimp only; omega) | (simp at *; omega))); conv => whnf))
  all_goals first | contradiction | (exfalso; omega) | skip
  refine WA_loopI (fun i : Nat => i ≤ 13) (fun i => [(7, .int .i64 ((i : Int) + 1))]) (fun i => [.box 56 (cmA cm0), .box 56 [.int .i64 (kndI (w.getD 0 []) i), .int .i64 0, .nils, .nils, .bool false, .int .i64 0, .int .i64 0, .int .i64 0, .bool false, .int .i64 0, .int .i64 0, .int .i64 0, .int .i64 0]]) (fun i => 13 - i) 0 (by omega) ?_ ?_
  · conv => whnf
    repeat (first | exact rfl | exact trivial | exact Or.inl (fun _ _ => rfl) | exact (fun _ => rfl) | exact (fun _ _ => rfl) | exact Or.inl (fun _ hi => absurd hi (Nat.not_lt_zero _)) | (refine And.intro rfl ?_; conv => whnf) | (refine And.intro (Or.inl (fun _ _ => rfl)) ?_; conv => whnf) | (refine And.intro (fun _ => rfl) ?_; conv => whnf) | (refine And.intro (fun _ _ => rfl) ?_; conv => whnf) | (refine And.intro ?_ ?_; rotate_left; conv => whnf))
    unfold kndI
    exact (if_neg (by omega)).symm
  intro i hi
  by_cases hi3 : i < 13
  · have hnm := rvname_c (G := G) ((i : Int) + 1)
    conv => whnf
    repeat' (first | refine WA_seq ?_ | (refine WA_region ttok ?_; conv => whnf) | (refine WA_draw ttok mixed ?_; conv => whnf) | (refine WA_cond ?_; conv => whnf) | refine WA_block ?_ | (refine WA_skip ?_; conv => whnf) | (refine WA_exit ?_; conv => whnf) | (refine WA_ret ?_; conv => whnf) | (refine And.intro (fun h => ?_) (fun h => ?_) <;> (try simp only [brsA] at h) <;> conv => whnf) | (refine Or.inl ?_; (conv => whnf); refine Exists.intro _ (And.intro (hnm) ?_); conv => whnf) | (refine Or.inr (Or.inr (Or.inl ?_)); (conv => whnf); refine Exists.intro _ (And.intro (hnm) ?_); conv => whnf) | (refine Exists.intro _ (And.intro (hnm) ?_); conv => whnf) | (refine WR_fit ?_ ?_; (focus (first | exact wr_i64 (by omega) | exact wr_u64 (by omega) | exact wr_u8 (by omega) | exact wr_i32 (by omega) | exact wr_u32 (by omega))); conv => whnf) | (refine WR_wrap ?_; conv => whnf) | (refine And.intro (a := indepB _ _ = true) ?_ ?_; (focus kernel_rfl); conv => whnf) | (refine And.intro rfl ?_; conv => whnf) | (refine And.intro ?_ ?_; (focus (first | omega | decide | (dsimp only; omega) | (simp at *; omega))); conv => whnf))
    all_goals first | contradiction | (exfalso; omega) | skip
    · refine ⟨i + 1, (by show i + 1 ≤ 13; omega), (by show 13 - (i + 1) < 13 - i; omega), ?_⟩
      conv => whnf
      repeat (first | exact rfl | exact trivial | exact Or.inl (fun _ _ => rfl) | exact (fun _ => rfl) | exact (fun _ _ => rfl) | exact Or.inl (fun _ hi => absurd hi (Nat.not_lt_zero _)) | (refine And.intro rfl ?_; conv => whnf) | (refine And.intro (Or.inl (fun _ _ => rfl)) ?_; conv => whnf) | (refine And.intro (fun _ => rfl) ?_; conv => whnf) | (refine And.intro (fun _ _ => rfl) ?_; conv => whnf) | (refine And.intro ?_ ?_; rotate_left; conv => whnf))
      exact (kndI_yes hi3 (by assumption)).symm
    · refine ⟨i + 1, (by show i + 1 ≤ 13; omega), (by show 13 - (i + 1) < 13 - i; omega), ?_⟩
      conv => whnf
      repeat (first | exact rfl | exact trivial | exact Or.inl (fun _ _ => rfl) | exact (fun _ => rfl) | exact (fun _ _ => rfl) | exact Or.inl (fun _ hi => absurd hi (Nat.not_lt_zero _)) | (refine And.intro rfl ?_; conv => whnf) | (refine And.intro (Or.inl (fun _ _ => rfl)) ?_; conv => whnf) | (refine And.intro (fun _ => rfl) ?_; conv => whnf) | (refine And.intro (fun _ _ => rfl) ?_; conv => whnf) | (refine And.intro ?_ ?_; rotate_left; conv => whnf))
      exact (kndI_no hi3 (by assumption)).symm
  obtain rfl : i = 13 := by omega
  rw [kndI_13]
  generalize kindL (w.getD 0 []) = K at *
  have hK0 : 0 ≤ K ∧ K < 14 := ⟨hK.1, by omega⟩
  conv => whnf
  repeat' (first | refine WA_seq ?_ | (refine WA_region ttok ?_; conv => whnf) | (refine WA_draw ttok mixed ?_; conv => whnf) | (refine WA_cond ?_; conv => whnf) | refine WA_block ?_ | (refine WA_skip ?_; conv => whnf) | (refine WA_exit ?_; conv => whnf) | (refine WA_ret ?_; conv => whnf) | (refine And.intro (fun h => ?_) (fun h => ?_) <;> (try simp only [brsA] at h) <;> conv => whnf) | (refine WR_fit ?_ ?_; (focus (first | exact wr_i64 (by omega) | exact wr_u64 (by omega) | exact wr_u8 (by omega) | exact wr_i32 (by omega) | exact wr_u32 (by omega))); conv => whnf) | (refine WR_wrap ?_; conv => whnf) | (refine And.intro (a := indepB _ _ = true) ?_ ?_; (focus kernel_rfl); conv => whnf) | (refine And.intro rfl ?_; conv => whnf) | (refine And.intro ?_ ?_; (focus (first | omega | decide | (dsimp only; omega) | (simp at *; omega))); conv => whnf))
  all_goals first | contradiction | (exfalso; omega) | skip
  rw [tbl_at K hK0]
  obtain ⟨n8, hn8⟩ : ∃ n8, n8 = tblL.getD K.toNat 0 := ⟨_, rfl⟩
  have hv := tbl_val K hK0
  rw [← hn8] at hv ⊢
  clear hn8
  conv => whnf
  subst k1
  rw [if_pos rfl] at hv
  subst hv
  obtain ⟨m, hm, hm99⟩ : ∃ m, w.length = 3 * m + 5 ∧ m ≤ 99 := ⟨(w.length - 5) / 3, by omega, by omega⟩
  have h4 : (4 : Int) ≤ (w.length : Int) - 1 := by omega
  have h3 : ((w.length : Int) - 1).tmod 3 = 1 := by rw [htm]; omega
  have h301 : (w.length : Int) - 1 ≤ 301 := by omega
  have hf2 : w.getD (Int.toNat 2) [] = [98, 111, 116, 104] ∨ w.getD (Int.toNat 2) [] = [111, 110, 101] := hf
  have hgd : ∀ i, 1 ≤ i → i ≠ 2 → (nw1 w).getD (cntF i) [] = w.getD i [] := fun i a b => nw1_get a b
  have hwl : (nw1 w).length = 3 * m + 3 := by unfold nw1; rw [List.length_cons, List.length_drop]; omega
  generalize nw1 w = ws at *
  have hnl : (numL ws).length = 3 * m + 3 := by unfold numL; rw [List.length_map]; exact hwl
  have hmade : madeC 1 (w.getD 2 [] == [111, 110, 101]) (numL ws) = ⟨1, (numL ws).getD 0 0, rdPts (numL ws), rdWs (numL ws), (w.getD 2 [] == [111, 110, 101]), 0, 0, 0, false, (0, 0), (0, 0)⟩ := by
    unfold madeC; rw [if_pos rfl]
  rw [hmade]
  clear htm hlw h0 hw hws hne hf hl hmade
  repeat' (first | (exact absurd (show (1 : Int) = 0 by assumption) (by decide)) | (exact absurd (show (0 : Int) ≤ -1 by assumption) (by decide)) | (exact absurd (show (-1 : Int) < 0 by decide) (by assumption)) | (exact absurd (rfl : (1 : Int) = 1) (by assumption)) | (exact absurd (show (1 : Int) = 4 by assumption) (by decide)) | (exact absurd (show (1 : Int) = 5 by assumption) (by decide)) | (exact absurd h4 (by assumption)) | (exact absurd h3 (by assumption)) | (exact absurd h301 (by assumption)) | (exact absurd hf2 (fun q => q.elim (by assumption) (by assumption))) | refine WA_seq ?_ | (refine WA_region ttok ?_; conv => whnf) | (refine WA_draw ttok mixed ?_; conv => whnf) | (refine WA_cond ?_; conv => whnf) | refine WA_block ?_ | (refine WA_skip ?_; conv => whnf) | (refine WA_exit ?_; conv => whnf) | (refine WA_ret ?_; conv => whnf) | (refine And.intro (fun h => ?_) (fun h => ?_) <;> (try simp only [brsA] at h) <;> conv => whnf) | (refine WR_fit ?_ ?_; (focus (first | exact wr_i64 (by omega) | exact wr_u64 (by omega) | exact wr_u8 (by omega) | exact wr_i32 (by omega) | exact wr_u32 (by omega))); conv => whnf) | (refine WR_wrap ?_; conv => whnf) | (refine And.intro (a := indepB _ _ = true) ?_ ?_; (focus kernel_rfl); conv => whnf) | (refine And.intro rfl ?_; conv => whnf) | (refine And.intro ?_ ?_; (focus (first | omega | decide | (dsimp only; omega) | (simp at *; omega))); conv => whnf))
  all_goals first | contradiction | (exfalso; omega) | skip
  all_goals clear h4 h3 h301 hf2
  all_goals
    refine WA_ren [0, 1, 3] rfl ?_
    conv => whnf
    refine WA_loopI (fun i : Nat => 1 ≤ i ∧ i ≤ w.length ∧ errL (ws.drop (cntF i)) = errL ws) (fun i => [(12, .int .i64 (i : Int)), (11, .own 2), (13, .junk), (14, .junk), (132, .junk)]) (fun i => [.box 56 (cmA cm0), .box 56 [.int .i64 (1), .int .i64 0, .nils, .nils, .sb (w.getD 2 [] == [111, 110, 101]), .int .i64 0, .int .i64 0, .int .i64 0, .bool false, .int .i64 0, .int .i64 0, .int .i64 0, .int .i64 0], .row 3 1 (cntF i) (fun j => [.int .i64 ((numL ws).getD j 0)])]) (fun i => w.length - i) 1 ⟨by omega, by omega, rfl⟩ ?_ ?_
    · conv => whnf
      repeat (first | exact rfl | exact trivial | exact Or.inl (fun _ _ => rfl) | exact (fun _ => rfl) | exact (fun _ _ => rfl) | exact Or.inl (fun _ hi => absurd hi (Nat.not_lt_zero _)) | (refine And.intro rfl ?_; conv => whnf) | (refine And.intro (Or.inl (fun _ _ => rfl)) ?_; conv => whnf) | (refine And.intro (fun _ => rfl) ?_; conv => whnf) | (refine And.intro (fun _ _ => rfl) ?_; conv => whnf) | (refine And.intro ?_ ?_; rotate_left; conv => whnf))
      all_goals trace_state
    rintro i ⟨hi1, hi2, hE⟩
    by_cases hil : i < w.length
    · by_cases hif : i = 2
      · subst hif
        have hlI : ((2 : Nat) : Int) < (w.length : Int) := by omega
        clear hgd hgl hnl
        conv => whnf
        repeat' (first | (exact absurd hlI (by assumption)) | (exact absurd (rfl : ((2 : Nat) : Int) = 2) (by assumption)) | refine WA_seq ?_ | (refine WA_region ttok ?_; conv => whnf) | (refine WA_draw ttok mixed ?_; conv => whnf) | (refine WA_cond ?_; conv => whnf) | refine WA_block ?_ | (refine WA_skip ?_; conv => whnf) | (refine WA_exit ?_; conv => whnf) | (refine WA_ret ?_; conv => whnf) | (refine And.intro (fun h => ?_) (fun h => ?_) <;> (try simp only [brsA] at h) <;> conv => whnf) | (refine WR_fit ?_ ?_; (focus (first | exact wr_i64 (by omega) | exact wr_u64 (by omega) | exact wr_u8 (by omega) | exact wr_i32 (by omega) | exact wr_u32 (by omega))); conv => whnf) | (refine WR_wrap ?_; conv => whnf) | (refine And.intro (a := indepB _ _ = true) ?_ ?_; (focus kernel_rfl); conv => whnf) | (refine And.intro rfl ?_; conv => whnf) | (refine And.intro ?_ ?_; (focus (first | omega | decide | (dsimp only; omega) | (simp at *; omega))); conv => whnf))
        all_goals first | contradiction | (exfalso; omega) | skip
        all_goals
          refine ⟨3, ⟨by omega, by omega, hE⟩, (by show w.length - 3 < w.length - 2; omega), ?_⟩
          conv => whnf
          repeat (first | exact rfl | exact trivial | exact Or.inl (fun _ _ => rfl) | exact (fun _ => rfl) | exact (fun _ _ => rfl) | exact Or.inl (fun _ hi => absurd hi (Nat.not_lt_zero _)) | (refine And.intro rfl ?_; conv => whnf) | (refine And.intro (Or.inl (fun _ _ => rfl)) ?_; conv => whnf) | (refine And.intro (fun _ => rfl) ?_; conv => whnf) | (refine And.intro (fun _ _ => rfl) ?_; conv => whnf) | (refine And.intro ?_ ?_; rotate_left; conv => whnf))
          all_goals trace_state
      · have ei : ((i : Nat) : Int).toNat = i := Int.toNat_natCast i
        have hcl2 : cntF i < ws.length := by unfold cntF; split <;> omega
        have hp := rparse_c (G := G) (w.getD (i : Int).toNat []) (by have := hgl (i : Int).toNat; omega)
        have hd := errL_drop ws (i := cntF i) hcl2
        have hng := numL_get ws (i := cntF i) hcl2
        rw [hgd i hi1 hif] at hd hng
        have hnx := cntF_next hi1 hif
        rw [hnx] at hd
        rw [hE] at hd
        rw [hwl] at hcl2
        have hlI : ((i : Nat) : Int) < (w.length : Int) := by omega
        have hb : i ≤ 4097 := by omega
        clear hgd hgl hE hnl
        generalize cntF i = ci at *
        rw [← ei] at hd hng
        by_cases hz : (parseN (w.getD (i : Int).toNat [])).2 = 0
        · rw [if_neg (fun q => q hz)] at hd
          rw [hz] at hp
          conv => whnf
          repeat' (first | (exact absurd trivial (by assumption)) | (exact absurd hlI (by assumption)) | (exact absurd (show (i : Int) = 2 by assumption) (by omega)) | refine WA_seq ?_ | (refine WA_region ttok ?_; conv => whnf) | (refine WA_draw ttok mixed ?_; conv => whnf) | (refine WA_cond ?_; conv => whnf) | refine WA_block ?_ | (refine WA_skip ?_; conv => whnf) | (refine WA_exit ?_; conv => whnf) | (refine WA_ret ?_; conv => whnf) | (refine And.intro (fun h => ?_) (fun h => ?_) <;> (try simp only [brsA] at h) <;> conv => whnf) | (refine Or.inl ?_; (conv => whnf); refine Exists.intro _ (And.intro (hp) ?_); conv => whnf) | (refine Or.inr (Or.inr (Or.inl ?_)); (conv => whnf); refine Exists.intro _ (And.intro (hp) ?_); conv => whnf) | (refine Exists.intro _ (And.intro (hp) ?_); conv => whnf) | (refine WR_fit ?_ ?_; (focus (first | exact wr_i64 (by omega) | exact wr_u64 (by omega) | exact wr_u8 (by omega) | exact wr_i32 (by omega) | exact wr_u32 (by omega))); conv => whnf) | (refine WR_wrap ?_; conv => whnf) | (refine And.intro (a := indepB _ _ = true) ?_ ?_; (focus kernel_rfl); conv => whnf) | (refine And.intro rfl ?_; conv => whnf) | (refine And.intro ?_ ?_; (focus (first | omega | decide | (dsimp only; omega) | (simp at *; omega))); conv => whnf))
          all_goals first | contradiction | (exfalso; omega) | skip
          refine ⟨i + 1, ⟨by omega, by omega, by rw [hd, ei]⟩, (by show w.length - (i + 1) < w.length - i; omega), ?_⟩
          conv => whnf
          repeat (first | exact rfl | exact trivial | exact Or.inl (fun _ _ => rfl) | exact (fun _ => rfl) | exact (fun _ _ => rfl) | exact Or.inl (fun _ hi => absurd hi (Nat.not_lt_zero _)) | (refine And.intro rfl ?_; conv => whnf) | (refine And.intro (Or.inl (fun _ _ => rfl)) ?_; conv => whnf) | (refine And.intro (fun _ => rfl) ?_; conv => whnf) | (refine And.intro (fun _ _ => rfl) ?_; conv => whnf) | (refine And.intro ?_ ?_; rotate_left; conv => whnf))
          all_goals first
            | exact hnx
            | omega
            | exact Or.inl fun j hj => rowCat_one (fun j => [A.int IntKind.i64 ((numL ws).getD j 0)]) _ ci (by show [A.int IntKind.i64 _] = [A.int IntKind.i64 _]; rw [hng]) j hj
            | trace_state
        · rw [if_pos hz] at hd
          rw [hd, if_neg hz]
          have hz0 := hz
          generalize (parseN (w.getD (i : Int).toNat [])).2 = p2 at *
          generalize (parseN (w.getD (i : Int).toNat [])).1 = p1 at *
          conv => whnf
          repeat' (first | (exact absurd hlI (by assumption)) | (exact absurd (show (i : Int) = 2 by assumption) (by omega)) | (exact absurd (show p2 = 0 by assumption) hz0) | refine WA_seq ?_ | (refine WA_region ttok ?_; conv => whnf) | (refine WA_draw ttok mixed ?_; conv => whnf) | (refine WA_cond ?_; conv => whnf) | refine WA_block ?_ | (refine WA_skip ?_; conv => whnf) | (refine WA_exit ?_; conv => whnf) | (refine WA_ret ?_; conv => whnf) | (refine And.intro (fun h => ?_) (fun h => ?_) <;> (try simp only [brsA] at h) <;> conv => whnf) | (refine Or.inl ?_; (conv => whnf); refine Exists.intro _ (And.intro (hp) ?_); conv => whnf) | (refine Or.inr (Or.inr (Or.inl ?_)); (conv => whnf); refine Exists.intro _ (And.intro (hp) ?_); conv => whnf) | (refine Exists.intro _ (And.intro (hp) ?_); conv => whnf) | (refine WR_fit ?_ ?_; (focus (first | exact wr_i64 (by omega) | exact wr_u64 (by omega) | exact wr_u8 (by omega) | exact wr_i32 (by omega) | exact wr_u32 (by omega))); conv => whnf) | (refine WR_wrap ?_; conv => whnf) | (refine And.intro (a := indepB _ _ = true) ?_ ?_; (focus kernel_rfl); conv => whnf) | (refine And.intro rfl ?_; conv => whnf) | (refine And.intro ?_ ?_; (focus (first | omega | decide | (dsimp only; omega) | (simp at *; omega))); conv => whnf))
          all_goals first | contradiction | (exfalso; omega) | skip
          all_goals trace_state
    · have hie : i = w.length := by omega
      subst hie
      have hcL : cntF w.length = 3 * m + 3 := by unfold cntF; rw [if_neg (by omega)]; omega
      have he0 : errL ws = 0 := by rw [← hE, List.drop_eq_nil_of_le (by omega)]; rfl
      rw [if_pos he0, hcL]
      have hlI : ¬ ((w.length : Nat) : Int) < (w.length : Int) := by omega
      clear hgd hgl hE
      have hPl := rdPts_len (numL ws)
      have hWl := rdWs_len (numL ws)
      have hP : ∀ i, i < m + 1 → (rdPts (numL ws)).getD i (0, 0) = ((numL ws).getD (3 * i + 1) 0, (numL ws).getD (3 * i + 2) 0) := fun i h => rdPts_get _ i (by omega)
      have hW : ∀ i, 1 ≤ i → i < m + 1 → (rdWs (numL ws)).getD (i - 1) 0 = (numL ws).getD (3 * i) 0 := fun i h1 h => by
        rw [rdWs_get _ (i - 1) (by omega)]; congr 1; omega
      rw [hnl] at hPl hWl
      generalize rdPts (numL ws) = P at *
      generalize rdWs (numL ws) = W at *
      have hPl : P.length = m + 1 := by omega
      have hWl : W.length = m := by omega
      generalize numL ws = ns at *
      conv => whnf
      repeat' (first | (exact absurd (show ((w.length : Nat) : Int) < (w.length : Int) by assumption) hlI) | refine WA_seq ?_ | (refine WA_region ttok ?_; conv => whnf) | (refine WA_draw ttok mixed ?_; conv => whnf) | (refine WA_cond ?_; conv => whnf) | refine WA_block ?_ | (refine WA_skip ?_; conv => whnf) | (refine WA_exit ?_; conv => whnf) | (refine WA_ret ?_; conv => whnf) | (refine And.intro (fun h => ?_) (fun h => ?_) <;> (try simp only [brsA] at h) <;> conv => whnf) | (refine WR_fit ?_ ?_; (focus (first | exact wr_i64 (by omega) | exact wr_u64 (by omega) | exact wr_u8 (by omega) | exact wr_i32 (by omega) | exact wr_u32 (by omega))); conv => whnf) | (refine WR_wrap ?_; conv => whnf) | (refine And.intro (a := indepB _ _ = true) ?_ ?_; (focus kernel_rfl); conv => whnf) | (refine And.intro rfl ?_; conv => whnf) | (refine And.intro ?_ ?_; (focus (first | omega | decide | (dsimp only; omega) | (simp at *; omega))); conv => whnf))
      all_goals first | contradiction | (exfalso; omega) | skip
      refine WA_nilB 1 2 54 2 rfl rfl ?_
      conv => whnf
      refine WA_nilB 1 3 3 1 rfl rfl ?_
      conv => whnf
      refine WA_loopI (fun t : Nat => t ≤ m + 1) (fun t => [(15, .int .i64 ((3 * t + 1 : Nat) : Int))]) (fun t => [.box 56 (cmA cm0), .box 56 [.int .i64 (1), .int .i64 (ns.getD 0 0), .own 3, .own 4, .sb (w.getD 2 [] == [111, 110, 101]), .int .i64 0, .int .i64 0, .int .i64 0, .bool false, .int .i64 0, .int .i64 0, .int .i64 0, .int .i64 0], .row 3 1 (3 * m + 3) (fun j => [.int .i64 (ns.getD j 0)]), .row 54 2 t (rowR P), .row 3 1 (t - 1) (fun j => [.int .i64 (W.getD j 0)])]) (fun t => m + 1 - t) 0 (by omega) ?_ ?_
      · conv => whnf
        repeat (first | exact rfl | exact trivial | exact Or.inl (fun _ _ => rfl) | exact (fun _ => rfl) | exact (fun _ _ => rfl) | exact Or.inl (fun _ hi => absurd hi (Nat.not_lt_zero _)) | (refine And.intro rfl ?_; conv => whnf) | (refine And.intro (Or.inl (fun _ _ => rfl)) ?_; conv => whnf) | (refine And.intro (fun _ => rfl) ?_; conv => whnf) | (refine And.intro (fun _ _ => rfl) ?_; conv => whnf) | (refine And.intro ?_ ?_; rotate_left; conv => whnf))
        all_goals trace_state
      · intro t ht
        by_cases htm : t < m + 1
        · have hPt := hP t htm
          have hlI3 : ((3 * t + 1 : Nat) : Int) + 1 < ((3 * m + 3 : Nat) : Int) := by omega
          by_cases ht0 : t = 0
          · subst ht0
            conv => whnf
            repeat' (first | (exact absurd hlI3 (by assumption)) | ((refine WA_renR (id := 39) 7 [0, 1, 2, 6, 4] rfl rfl ?_; conv => whnf)) | refine WA_seq ?_ | (refine WA_region ttok ?_; conv => whnf) | (refine WA_draw ttok mixed ?_; conv => whnf) | (refine WA_cond ?_; conv => whnf) | refine WA_block ?_ | (refine WA_skip ?_; conv => whnf) | (refine WA_exit ?_; conv => whnf) | (refine WA_ret ?_; conv => whnf) | (refine And.intro (fun h => ?_) (fun h => ?_) <;> (try simp only [brsA] at h) <;> conv => whnf) | (refine WR_fit ?_ ?_; (focus (first | exact wr_i64 (by omega) | exact wr_u64 (by omega) | exact wr_u8 (by omega) | exact wr_i32 (by omega) | exact wr_u32 (by omega))); conv => whnf) | (refine WR_wrap ?_; conv => whnf) | (refine And.intro (a := indepB _ _ = true) ?_ ?_; (focus kernel_rfl); conv => whnf) | (refine And.intro rfl ?_; conv => whnf) | (refine And.intro ?_ ?_; (focus (first | omega | decide | (dsimp only; omega) | (simp at *; omega))); conv => whnf))
            all_goals first | contradiction | (exfalso; omega) | skip
            refine ⟨1, (by show 1 ≤ m + 1; omega), (by show m + 1 - 1 < m + 1 - 0; omega), ?_⟩
            conv => whnf
            repeat (first | exact rfl | exact trivial | exact Or.inl (fun _ _ => rfl) | exact (fun _ => rfl) | exact (fun _ _ => rfl) | exact Or.inl (fun _ hi => absurd hi (Nat.not_lt_zero _)) | (refine And.intro rfl ?_; conv => whnf) | (refine And.intro (Or.inl (fun _ _ => rfl)) ?_; conv => whnf) | (refine And.intro (fun _ => rfl) ?_; conv => whnf) | (refine And.intro (fun _ _ => rfl) ?_; conv => whnf) | (refine And.intro ?_ ?_; rotate_left; conv => whnf))
            all_goals first
              | exact Or.inl fun j hj => rowCat_one (rowR P) _ 0 (by show [A.int IntKind.i64 _, A.int IntKind.i64 _] = [A.int IntKind.i64 _, A.int IntKind.i64 _]; rw [hPt]; rfl) j hj
              | trace_state
          · have hWt := hW t (by omega) htm
            conv => whnf
            repeat' (first | (exact absurd hlI3 (by assumption)) | ((refine WA_renR (id := 42) 7 [0, 1, 2, 3, 6] rfl rfl ?_; conv => whnf)) | ((refine WA_renR (id := 39) 7 [0, 1, 2, 6, 4] rfl rfl ?_; conv => whnf)) | refine WA_seq ?_ | (refine WA_region ttok ?_; conv => whnf) | (refine WA_draw ttok mixed ?_; conv => whnf) | (refine WA_cond ?_; conv => whnf) | refine WA_block ?_ | (refine WA_skip ?_; conv => whnf) | (refine WA_exit ?_; conv => whnf) | (refine WA_ret ?_; conv => whnf) | (refine And.intro (fun h => ?_) (fun h => ?_) <;> (try simp only [brsA] at h) <;> conv => whnf) | (refine WR_fit ?_ ?_; (focus (first | exact wr_i64 (by omega) | exact wr_u64 (by omega) | exact wr_u8 (by omega) | exact wr_i32 (by omega) | exact wr_u32 (by omega))); conv => whnf) | (refine WR_wrap ?_; conv => whnf) | (refine And.intro (a := indepB _ _ = true) ?_ ?_; (focus kernel_rfl); conv => whnf) | (refine And.intro rfl ?_; conv => whnf) | (refine And.intro ?_ ?_; (focus (first | omega | decide | (dsimp only; omega) | (simp at *; omega))); conv => whnf))
            all_goals first | contradiction | (exfalso; omega) | skip
            refine ⟨t + 1, (by show t + 1 ≤ m + 1; omega), (by show m + 1 - (t + 1) < m + 1 - t; omega), ?_⟩
            have e0 : (((3 * t + 1 : Nat) : Int) - 1).toNat = 3 * t := by omega
            have e1 : ((3 * t + 1 : Nat) : Int).toNat = 3 * t + 1 := by omega
            have e2 : (((3 * t + 1 : Nat) : Int) + 1).toNat = 3 * t + 2 := by omega
            conv => whnf
            repeat (first | exact rfl | exact trivial | exact Or.inl (fun _ _ => rfl) | exact (fun _ => rfl) | exact (fun _ _ => rfl) | exact Or.inl (fun _ hi => absurd hi (Nat.not_lt_zero _)) | (refine And.intro rfl ?_; conv => whnf) | (refine And.intro (Or.inl (fun _ _ => rfl)) ?_; conv => whnf) | (refine And.intro (fun _ => rfl) ?_; conv => whnf) | (refine And.intro (fun _ _ => rfl) ?_; conv => whnf) | (refine And.intro ?_ ?_; rotate_left; conv => whnf))
            all_goals first
              | omega
              | exact Or.inl fun j hj => rowCat_one (fun j => [A.int IntKind.i64 (W.getD j 0)]) _ (t - 1) (by show [A.int IntKind.i64 _] = [A.int IntKind.i64 _]; rw [hWt, e0]) j hj
              | exact Or.inl fun j hj => rowCat_one (rowR P) _ t (by show [A.int IntKind.i64 _, A.int IntKind.i64 _] = [A.int IntKind.i64 _, A.int IntKind.i64 _]; rw [hPt, e1, e2]) j hj
              | trace_state
        · obtain rfl : t = m + 1 := by omega
          have hlI3 : ¬ ((3 * (m + 1) + 1 : Nat) : Int) + 1 < ((3 * m + 3 : Nat) : Int) := by omega
          refine WA_freeze 3 ?_
          conv => whnf
          refine WA_freeze 4 ?_
          conv => whnf
          repeat' (first | (exact absurd (by assumption) hlI3) | refine WA_seq ?_ | (refine WA_region ttok ?_; conv => whnf) | (refine WA_draw ttok mixed ?_; conv => whnf) | (refine WA_cond ?_; conv => whnf) | refine WA_block ?_ | (refine WA_skip ?_; conv => whnf) | (refine WA_exit ?_; conv => whnf) | (refine WA_ret ?_; conv => whnf) | (refine And.intro (fun h => ?_) (fun h => ?_) <;> (try simp only [brsA] at h) <;> conv => whnf) | (refine WR_fit ?_ ?_; (focus (first | exact wr_i64 (by omega) | exact wr_u64 (by omega) | exact wr_u8 (by omega) | exact wr_i32 (by omega) | exact wr_u32 (by omega))); conv => whnf) | (refine WR_wrap ?_; conv => whnf) | (refine And.intro (a := indepB _ _ = true) ?_ ?_; (focus kernel_rfl); conv => whnf) | (refine And.intro rfl ?_; conv => whnf) | (refine And.intro ?_ ?_; (focus (first | omega | decide | (dsimp only; omega) | (simp at *; omega))); conv => whnf))
          all_goals first | contradiction | (exfalso; omega) | skip
          all_goals first
            | exact ⟨Or.inl fun _ _ => rfl, (by show m + 1 - 1 = W.length; omega), Or.inl fun _ _ => rfl, rfl, rfl, rfl, rfl, rfl, rfl, rfl, rfl, rfl, rfl⟩
            | trace_state
end Go.Proofs.YtagokdeflnkplaaDoor

/-
  The reference's Parse reads as verb.Parse; the law's walk.
-/
import Derived.Test.YtagokdeflnkplaaDoorRef0
import Derived.Test.YtagokdeflnkplaaDoorRef1
import Derived.Test.YtagokdeflnkplaaDoorRef3
import Derived.Test.YtagokdeflnkplaaDoorRef2
import Derived.Test.YtagokdeflnkplaaDoorVerb5
set_option linter.unusedSimpArgs false
namespace Go.Proofs.YtagokdeflnkplaaDoor
open Go.Proofs.YtagokdeflnkplaaDoor.Am Go.Lib
variable {G : GInv}
/-- The reference reads a line as verb.Parse does. -/
theorem rvp_c (s : List UInt8) (hs : s.length ≤ 100000) : ACalls Tryd.prog G 33 [.str s] (resP (parseV s)) := by
  by_cases h : okLine s
  · have e : parseV s = parseWV (cutL 32 s) := if_pos h
    rw [e]
    by_cases hbad : kindL ((cutL 32 s).getD 0 []) = 0 ∨ ¬ shapeV (kindL ((cutL 32 s).getD 0 [])) ((cutL 32 s).drop 1)
    · have e2 : parseWV (cutL 32 s) = (cm0, 2) := if_pos hbad
      rw [e2]
      exact rvp_bad s h hbad
    · have k0 : kindL ((cutL 32 s).getD 0 []) ≠ 0 := fun q => hbad (Or.inl q)
      have hsh : shapeV (kindL ((cutL 32 s).getD 0 [])) ((cutL 32 s).drop 1) := Classical.not_not.1 fun q => hbad (Or.inr q)
      have e2 : parseWV (cutL 32 s) = if errL (numsW (kindL ((cutL 32 s).getD 0 [])) ((cutL 32 s).drop 1)) = 0 then (madeC (kindL ((cutL 32 s).getD 0 [])) (yesB (kindL ((cutL 32 s).getD 0 [])) ((cutL 32 s).drop 1)) (numL (numsW (kindL ((cutL 32 s).getD 0 [])) ((cutL 32 s).drop 1))), 0) else (cm0, errL (numsW (kindL ((cutL 32 s).getD 0 [])) ((cutL 32 s).drop 1))) := by
        unfold parseWV
        rw [if_neg hbad]
        by_cases q : errL (numsW (kindL ((cutL 32 s).getD 0 [])) ((cutL 32 s).drop 1)) = 0
        · rw [if_neg (fun z => z q), if_pos q]
        · rw [if_pos q, if_neg q]
      rw [e2]
      have hdl : ((cutL 32 s).drop 1).length = (cutL 32 s).length - 1 := by rw [List.length_drop]
      have hg1 : ((cutL 32 s).drop 1).getD 0 [] = (cutL 32 s).getD 1 [] := by rw [drop_get]
      have hg2 : ((cutL 32 s).drop 1).getD 1 [] = (cutL 32 s).getD 2 [] := by rw [drop_get]
      have hd2 : ((cutL 32 s).drop 1).drop 1 = (cutL 32 s).drop 2 := by rw [List.drop_drop]
      have hd3 : ((cutL 32 s).drop 1).drop 2 = (cutL 32 s).drop 3 := by rw [List.drop_drop]
      by_cases k1 : kindL ((cutL 32 s).getD 0 []) = 1
      · have key := rvp_1 (G := G) s h k1
        rw [k1] at hsh ⊢
        unfold shapeV at hsh
        rw [if_pos rfl, hdl, hg2] at hsh
        have hy : yesB 1 ((cutL 32 s).drop 1) = ((cutL 32 s).getD 2 [] == [111, 110, 101]) := by
          show decide (yesW 1 ≠ [] ∧ ((cutL 32 s).drop 1).getD 1 [] = yesW 1) = _
          rw [hg2, Bool.eq_iff_iff, decide_eq_true_iff, beq_iff_eq]
          exact ⟨fun q => q.2, fun q => ⟨by decide, q⟩⟩
        have hn : numsW 1 ((cutL 32 s).drop 1) = nw1 (cutL 32 s) := by
          unfold numsW nw1
          rw [if_pos rfl, hg1, hd3]
        rw [hy, hn]
        exact key (by omega) hsh.2.2.2
      · by_cases k4 : kindL ((cutL 32 s).getD 0 []) = 4 ∨ kindL ((cutL 32 s).getD 0 []) = 5
        · have key := rvp_4 (G := G) s h k4
          unfold shapeV at hsh
          rw [if_neg k1, if_pos k4, hdl, hg1] at hsh
          have hnoW : noW (kindL ((cutL 32 s).getD 0 [])) = [110, 111] ∧ yesW (kindL ((cutL 32 s).getD 0 [])) = [111, 110, 108, 121] := by
            rcases k4 with e | e <;> rw [e] <;> exact ⟨rfl, rfl⟩
          rw [hnoW.1, hnoW.2] at hsh
          have hy : yesB (kindL ((cutL 32 s).getD 0 [])) ((cutL 32 s).drop 1) = ((cutL 32 s).getD 1 [] == [111, 110, 108, 121]) := by
            unfold yesB wordW
            rw [if_neg k1, if_pos k4, hnoW.2, hg1, Bool.eq_iff_iff, decide_eq_true_iff, beq_iff_eq]
            exact ⟨fun q => q.2, fun q => ⟨by decide, q⟩⟩
          have hn : numsW (kindL ((cutL 32 s).getD 0 [])) ((cutL 32 s).drop 1) = (cutL 32 s).drop 2 := by
            unfold numsW
            rw [if_neg k1, if_pos k4, hd2]
          rw [hy, hn]
          exact key (by omega) hsh.2
        · have key := rvp_0 (G := G) s h k0 k1 k4
          unfold shapeV at hsh
          rw [if_neg k1, if_neg k4] at hsh
          obtain ⟨a, c⟩ := noflag k1 k4
          have hy : yesB (kindL ((cutL 32 s).getD 0 [])) ((cutL 32 s).drop 1) = false := decide_eq_false fun q => q.1 c
          have hn : numsW (kindL ((cutL 32 s).getD 0 [])) ((cutL 32 s).drop 1) = (cutL 32 s).drop 1 := by
            unfold numsW
            rw [if_neg k1, if_neg k4]
          rw [hy, hn]
          exact key hsh
  · rw [parseV_no h]
    exact rvp_no s hs h
end Go.Proofs.YtagokdeflnkplaaDoor
set_option linter.unusedSimpArgs false
namespace Go.Proofs.YtagokdeflnkplaaDoor
open Go.Proofs.YtagokdeflnkplaaDoor.Am Go.Lib
variable {G : GInv}
theorem parseV_or (s : List UInt8) : (parseV s).2 = 0 ∨ (parseV s).1 = cm0 := by
  unfold parseV
  split
  · unfold parseWV
    split
    · exact Or.inr rfl
    · split
      · exact Or.inr rfl
      · exact Or.inl rfl
  · exact Or.inr rfl
theorem may_pts {c : Cm} (hm : mayV c) : c.pts.length ≤ 1000000 ∧ c.ws.length ≤ 1000000 := by
  by_cases h1 : c.k = 1
  · have := hm.2.1 h1; omega
  · have h := hm.2.2.2
    have : c.pts = [] ∧ c.ws = [] := by
      rw [h]
      unfold madeC
      rw [if_neg h1]
      repeat' split
      all_goals exact ⟨rfl, rfl⟩
    rw [this.1, this.2]; exact ⟨by simp, by simp⟩
set_option maxRecDepth 100000 in
set_option maxHeartbeats 4000000 in
theorem vlawP_c (hT : HasTab G) (hM : HasMax G) (s : List UInt8) : ACalls Tryd.prog G 8 [.str s] (.sb true) := by
  have ha := vawake_c hT hM
  by_cases hl : 5000 < s.length
  · refine ACalls.of_WA ttok Tryd.func8 rfl rfl _ rfl ?_
    conv => whnf
    repeat' (first | refine WA_seq ?_ | (refine WA_region ttok ?_; conv => whnf) | (refine WA_draw ttok mixed ?_; conv => whnf) | (refine WA_cond ?_; conv => whnf) | refine WA_block ?_ | (refine WA_skip ?_; conv => whnf) | (refine WA_exit ?_; conv => whnf) | (refine WA_ret ?_; conv => whnf) | (refine And.intro (fun h => ?_) (fun h => ?_) <;> (try simp only [brsA] at h) <;> conv => whnf) | (refine Or.inl ?_; (conv => whnf); refine Exists.intro _ (And.intro (ha) ?_); conv => whnf) | (refine Or.inr (Or.inr (Or.inl ?_)); (conv => whnf); refine Exists.intro _ (And.intro (ha) ?_); conv => whnf) | (refine Exists.intro _ (And.intro (ha) ?_); conv => whnf) | (refine WR_fit ?_ ?_; (focus (first | exact wr_i64 (by omega) | exact wr_u64 (by omega) | exact wr_u8 (by omega) | exact wr_i32 (by omega) | exact wr_u32 (by omega))); conv => whnf) | (refine WR_wrap ?_; conv => whnf) | (refine And.intro (a := indepB _ _ = true) ?_ ?_; (focus kernel_rfl); conv => whnf) | (refine And.intro rfl ?_; conv => whnf) | (refine And.intro ?_ ?_; (focus (first | omega | decide | (dsimp only; omega) | (simp at *; omega))); conv => whnf))
    all_goals first | contradiction | (exfalso; omega) | rfl | trace_state
  · have h1 := vparse_c hT hM s (by omega)
    have h2 := rvp_c (G := G) s (by omega)
    by_cases he : (parseV s).2 = 0
    · have hp : parseV s = ((parseV s).1, 0) := by rw [← he]
      obtain ⟨m1, m2, m3⟩ := read_line _ _ hp
      obtain ⟨l1, l2⟩ := may_pts m1
      rw [hp] at h1 h2
      generalize (parseV s).1 = c at *
      have h3 := vline_yes hT c m1 l1 l2
      rw [lineA_yes m3, m2] at h3
      have h4 := vmay_c (G := G) c l1 l2
      rw [decide_eq_true m1] at h4
      have h5 := rsame_c (G := G) c c l1 l2
      rw [decide_eq_true rfl] at h5
      clear m1 m2 m3 he hp
      have h1 : ACalls Tryd.prog G 32 [.str s] (.tup [.agg (cmA c), .int .i64 0]) := h1
      have h2 : ACalls Tryd.prog G 33 [.str s] (.tup [.agg (cmA c), .int .i64 0]) := h2
      refine ACalls.of_WA ttok Tryd.func8 rfl rfl _ rfl ?_
      conv => whnf
      repeat' (first | refine WA_seq ?_ | (refine WA_region ttok ?_; conv => whnf) | (refine WA_draw ttok mixed ?_; conv => whnf) | (refine WA_cond ?_; conv => whnf) | refine WA_block ?_ | (refine WA_skip ?_; conv => whnf) | (refine WA_exit ?_; conv => whnf) | (refine WA_ret ?_; conv => whnf) | (refine And.intro (fun h => ?_) (fun h => ?_) <;> (try simp only [brsA] at h) <;> conv => whnf) | (refine Or.inl ?_; (conv => whnf); refine Exists.intro _ (And.intro (h1) ?_); conv => whnf) | (refine Or.inr (Or.inr (Or.inl ?_)); (conv => whnf); refine Exists.intro _ (And.intro (h1) ?_); conv => whnf) | (refine Exists.intro _ (And.intro (h1) ?_); conv => whnf) | (refine Or.inl ?_; (conv => whnf); refine Exists.intro _ (And.intro (h2) ?_); conv => whnf) | (refine Or.inr (Or.inr (Or.inl ?_)); (conv => whnf); refine Exists.intro _ (And.intro (h2) ?_); conv => whnf) | (refine Exists.intro _ (And.intro (h2) ?_); conv => whnf) | (refine Or.inl ?_; (conv => whnf); refine Exists.intro _ (And.intro (h3) ?_); conv => whnf) | (refine Or.inr (Or.inr (Or.inl ?_)); (conv => whnf); refine Exists.intro _ (And.intro (h3) ?_); conv => whnf) | (refine Exists.intro _ (And.intro (h3) ?_); conv => whnf) | (refine Or.inl ?_; (conv => whnf); refine Exists.intro _ (And.intro (h4) ?_); conv => whnf) | (refine Or.inr (Or.inr (Or.inl ?_)); (conv => whnf); refine Exists.intro _ (And.intro (h4) ?_); conv => whnf) | (refine Exists.intro _ (And.intro (h4) ?_); conv => whnf) | (refine Or.inl ?_; (conv => whnf); refine Exists.intro _ (And.intro (h5) ?_); conv => whnf) | (refine Or.inr (Or.inr (Or.inl ?_)); (conv => whnf); refine Exists.intro _ (And.intro (h5) ?_); conv => whnf) | (refine Exists.intro _ (And.intro (h5) ?_); conv => whnf) | (refine Or.inl ?_; (conv => whnf); refine Exists.intro _ (And.intro (ha) ?_); conv => whnf) | (refine Or.inr (Or.inr (Or.inl ?_)); (conv => whnf); refine Exists.intro _ (And.intro (ha) ?_); conv => whnf) | (refine Exists.intro _ (And.intro (ha) ?_); conv => whnf) | (refine WR_fit ?_ ?_; (focus (first | exact wr_i64 (by omega) | exact wr_u64 (by omega) | exact wr_u8 (by omega) | exact wr_i32 (by omega) | exact wr_u32 (by omega))); conv => whnf) | (refine WR_wrap ?_; conv => whnf) | (refine And.intro (a := indepB _ _ = true) ?_ ?_; (focus kernel_rfl); conv => whnf) | (refine And.intro rfl ?_; conv => whnf) | (refine And.intro ?_ ?_; (focus (first | omega | decide | (dsimp only; omega) | (simp at *; omega))); conv => whnf))
      all_goals first | contradiction | (exfalso; omega) | rfl | trace_state
    · have hc := (parseV_or s).resolve_left he
      have hp : parseV s = (cm0, (parseV s).2) := by rw [← hc]
      rw [hp] at h1 h2
      generalize (parseV s).2 = e at *
      have h5 := rsame_c (G := G) cm0 cm0 (by decide) (by decide)
      rw [decide_eq_true rfl] at h5
      have h1 : ACalls Tryd.prog G 32 [.str s] (.tup [.agg (cmA cm0), .int .i64 e]) := h1
      have h2 : ACalls Tryd.prog G 33 [.str s] (.tup [.agg (cmA cm0), .int .i64 e]) := h2
      clear hp hc
      refine ACalls.of_WA ttok Tryd.func8 rfl rfl _ rfl ?_
      conv => whnf
      repeat' (first | refine WA_seq ?_ | (refine WA_region ttok ?_; conv => whnf) | (refine WA_draw ttok mixed ?_; conv => whnf) | (refine WA_cond ?_; conv => whnf) | refine WA_block ?_ | (refine WA_skip ?_; conv => whnf) | (refine WA_exit ?_; conv => whnf) | (refine WA_ret ?_; conv => whnf) | (refine And.intro (fun h => ?_) (fun h => ?_) <;> (try simp only [brsA] at h) <;> conv => whnf) | (refine Or.inl ?_; (conv => whnf); refine Exists.intro _ (And.intro (h1) ?_); conv => whnf) | (refine Or.inr (Or.inr (Or.inl ?_)); (conv => whnf); refine Exists.intro _ (And.intro (h1) ?_); conv => whnf) | (refine Exists.intro _ (And.intro (h1) ?_); conv => whnf) | (refine Or.inl ?_; (conv => whnf); refine Exists.intro _ (And.intro (h2) ?_); conv => whnf) | (refine Or.inr (Or.inr (Or.inl ?_)); (conv => whnf); refine Exists.intro _ (And.intro (h2) ?_); conv => whnf) | (refine Exists.intro _ (And.intro (h2) ?_); conv => whnf) | (refine Or.inl ?_; (conv => whnf); refine Exists.intro _ (And.intro (h5) ?_); conv => whnf) | (refine Or.inr (Or.inr (Or.inl ?_)); (conv => whnf); refine Exists.intro _ (And.intro (h5) ?_); conv => whnf) | (refine Exists.intro _ (And.intro (h5) ?_); conv => whnf) | (refine Or.inl ?_; (conv => whnf); refine Exists.intro _ (And.intro (ha) ?_); conv => whnf) | (refine Or.inr (Or.inr (Or.inl ?_)); (conv => whnf); refine Exists.intro _ (And.intro (ha) ?_); conv => whnf) | (refine Exists.intro _ (And.intro (ha) ?_); conv => whnf) | (refine WR_fit ?_ ?_; (focus (first | exact wr_i64 (by omega) | exact wr_u64 (by omega) | exact wr_u8 (by omega) | exact wr_i32 (by omega) | exact wr_u32 (by omega))); conv => whnf) | (refine WR_wrap ?_; conv => whnf) | (refine And.intro (a := indepB _ _ = true) ?_ ?_; (focus kernel_rfl); conv => whnf) | (refine And.intro rfl ?_; conv => whnf) | (refine And.intro ?_ ?_; (focus (first | omega | decide | (dsimp only; omega) | (simp at *; omega))); conv => whnf))
      all_goals first | contradiction | (exfalso; omega) | rfl | trace_state
end Go.Proofs.YtagokdeflnkplaaDoor

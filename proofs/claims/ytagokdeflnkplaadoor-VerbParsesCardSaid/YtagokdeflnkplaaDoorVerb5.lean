/-
  A command's line is read as the command; a line that is a command is the command's own; the law's example.
-/
import Derived.Test.YtagokdeflnkplaaDoorVerb3
import Derived.Test.YtagokdeflnkplaaDoorVerb4
import Derived.Test.YtagokdeflnkplaaDoorRep1
import Derived.Lib.ItoaLen
set_option linter.unusedSimpArgs false
namespace Go.Proofs.YtagokdeflnkplaaDoor
open Go.Proofs.YtagokdeflnkplaaDoor.Am Go.Lib
/-! ### A command's line is read as the command; a line that is a command is the command's own -/
theorem madeK (k : Int) (b : Bool) (n : List Int) : (madeC k b n).k = k := by
  unfold madeC
  by_cases h1 : k = 1
  · rw [if_pos h1]
  · rw [if_neg h1]
    by_cases h4 : k = 4 ∨ k = 5
    · rw [if_pos h4]
    · rw [if_neg h4]
      by_cases h9 : k = 9 ∨ k = 10
      · rw [if_pos h9]
      · rw [if_neg h9]
        by_cases h8 : k = 8
        · rw [if_pos h8]
        · rw [if_neg h8]
          by_cases h2 : k = 2 ∨ k = 6 ∨ k = 11 ∨ k = 12
          · rw [if_pos h2]
          · rw [if_neg h2]
theorem madeB (k : Int) (b : Bool) (n : List Int) : ((madeC k b n).ow || (madeC k b n).bo) = (flg k && b) := by
  unfold madeC
  by_cases h1 : k = 1
  · subst h1; rw [if_pos rfl]; cases b <;> rfl
  · rw [if_neg h1]
    by_cases h4 : k = 4 ∨ k = 5
    · rw [if_pos h4]
      rcases h4 with q | q <;> subst q <;> cases b <;> rfl
    · rw [if_neg h4, flg_no h1 h4]
      by_cases h9 : k = 9 ∨ k = 10
      · rw [if_pos h9]; rfl
      · rw [if_neg h9]
        by_cases h8 : k = 8
        · rw [if_pos h8]; rfl
        · rw [if_neg h8]
          by_cases h2 : k = 2 ∨ k = 6 ∨ k = 11 ∨ k = 12
          · rw [if_pos h2]; rfl
          · rw [if_neg h2]; rfl
theorem list1 {n : List Int} (h : n.length = 1) : [n.getD 0 0] = n := by
  match n, h with
  | [a], _ => rfl
theorem list2 {n : List Int} (h : n.length = 2) : [n.getD 0 0, n.getD 1 0] = n := by
  match n, h with
  | [a, b], _ => rfl
theorem list4 {n : List Int} (h : n.length = 4) : [n.getD 0 0, n.getD 1 0, n.getD 2 0, n.getD 3 0] = n := by
  match n, h with
  | [a, b, c, d], _ => rfl
theorem list0 {n : List Int} (h : n.length = 0) : [] = n := by
  match n, h with
  | [], _ => rfl
theorem all_road (n : List Int) (j : Nat) (h : n.length = 3 * j + 3) : (List.range (3 * (rdWs n).length + 3)).map (allR (n.getD 0 0) (rdPts n) (rdWs n)) = n := by
  have hw : (rdWs n).length = j := by rw [rdWs_len]; omega
  rw [hw]
  refine intsv_ext (by simp; omega) fun i hi => ?_
  have hi : i < 3 * j + 3 := by simpa using hi
  rw [range_getD _ _ _ _ hi]
  by_cases h0 : i = 0
  · subst h0; exact (allR_at _ _ _ 0).2.2.2
  · have hm : i % 3 = 0 ∨ i % 3 = 1 ∨ i % 3 = 2 := by omega
    rcases hm with q | q | q
    · obtain ⟨t, rfl⟩ : ∃ t, i = 3 * t + 3 := ⟨i / 3 - 1, by omega⟩
      rw [(allR_at _ _ _ t).2.2.1, rdWs_get n t (by omega)]
    · obtain ⟨t, rfl⟩ : ∃ t, i = 3 * t + 1 := ⟨i / 3, by omega⟩
      rw [(allR_at _ _ _ t).1, rdPts_get n t (by omega)]
    · obtain ⟨t, rfl⟩ : ∃ t, i = 3 * t + 2 := ⟨i / 3, by omega⟩
      rw [(allR_at _ _ _ t).2.1, rdPts_get n t (by omega)]
theorem all_made {k : Int} {b : Bool} {n : List Int} (hc : cntN k n.length) : allL (madeC k b n) = n := by
  unfold allL
  rw [madeK]
  by_cases h1 : k = 1
  · rw [if_pos h1]
    obtain ⟨j, hj, _⟩ := hc.1 h1
    have e : madeC k b n = ⟨k, n.getD 0 0, rdPts n, rdWs n, b, 0, 0, 0, false, (0, 0), (0, 0)⟩ := by unfold madeC; rw [if_pos h1]
    rw [e]
    exact all_road n j hj
  · have hm := hc.2 h1
    rw [if_neg h1]
    by_cases h4 : k = 4 ∨ k = 5
    · have e : madeC k b n = ⟨k, 0, [], [], false, 0, n.getD 0 0, n.getD 1 0, b, (0, 0), (0, 0)⟩ := by unfold madeC; rw [if_neg h1, if_pos h4]
      rw [if_pos h4, e]
      refine list2 ?_
      unfold manyN at hm; rw [if_neg (by omega), if_pos (by omega)] at hm; omega
    · rw [if_neg h4]
      by_cases h8 : k = 8
      · have e : madeC k b n = ⟨k, 0, [], [], false, 0, 0, 0, false, (n.getD 0 0, n.getD 1 0), (0, 0)⟩ := by unfold madeC; rw [if_neg h1, if_neg h4, if_neg (by omega), if_pos h8]
        rw [if_pos h8, e]
        refine list2 ?_
        unfold manyN at hm; rw [if_neg (by omega), if_pos (by omega)] at hm; omega
      · rw [if_neg h8]
        by_cases h9 : k = 9 ∨ k = 10
        · have e : madeC k b n = ⟨k, 0, [], [], false, 0, 0, 0, false, (n.getD 0 0, n.getD 1 0), (n.getD 2 0, n.getD 3 0)⟩ := by unfold madeC; rw [if_neg h1, if_neg h4, if_pos h9]
          rw [if_pos h9, e]
          refine list4 ?_
          unfold manyN at hm; rw [if_neg (by omega), if_neg (by omega), if_pos (by omega)] at hm; omega
        · rw [if_neg h9]
          by_cases h2 : k = 2 ∨ k = 6 ∨ k = 11 ∨ k = 12
          · have e : madeC k b n = ⟨k, 0, [], [], false, n.getD 0 0, 0, 0, false, (0, 0), (0, 0)⟩ := by unfold madeC; rw [if_neg h1, if_neg h4, if_neg h9, if_neg h8, if_pos h2]
            rw [if_pos h2, e]
            refine list1 ?_
            unfold manyN at hm; rw [if_pos h2] at hm; omega
          · rw [if_neg h2]
            refine list0 ?_
            unfold manyN at hm; rw [if_neg h2, if_neg (by omega), if_neg h9] at hm; omega
theorem okRd_made {k : Int} {b : Bool} {n : List Int} (hc : cntN k n.length) : okRd (madeC k b n) := by
  intro h1
  rw [madeK] at h1
  obtain ⟨j, hj, hj2⟩ := hc.1 h1
  have e : madeC k b n = ⟨k, n.getD 0 0, rdPts n, rdWs n, b, 0, 0, 0, false, (0, 0), (0, 0)⟩ := by unfold madeC; rw [if_pos h1]
  rw [e]
  show 1 ≤ (rdPts n).length ∧ (rdPts n).length ≤ 100 ∧ (rdPts n).length = (rdWs n).length + 1
  rw [rdPts_len, rdWs_len]
  omega
theorem read_line (s : List UInt8) (c : Cm) (h : parseV s = (c, 0)) : mayV c ∧ join (lineW c) [32] = s ∧ totL (lineW c) ≤ 4097 := by
  unfold parseV at h
  split at h
  · rename_i hk
    have hj := join_cutL 32 s
    have ht : totL (cutL 32 s) ≤ 4097 := by have := totL_cutL 32 s; have := hk.1; omega
    have hne := cutL_ne 32 s
    generalize cutL 32 s = w at *
    unfold parseWV at h
    split at h
    · exact absurd (congrArg Prod.snd h) (by show ¬ ((2 : Int) = 0); decide)
    · rename_i hq
      split at h
      · rename_i he
        exact absurd (congrArg Prod.snd h) he
      · rename_i he
        have he : errL (numsW (kindL (w.getD 0 [])) (w.drop 1)) = 0 := Classical.not_not.1 he
        have hs : shapeV (kindL (w.getD 0 [])) (w.drop 1) := Classical.not_not.1 fun z => hq (Or.inr z)
        have hk0 : kindL (w.getD 0 []) ≠ 0 := fun z => hq (Or.inl z)
        have hb := ins_bwd _ _ hs
        have hc : madeC (kindL (w.getD 0 [])) (yesB (kindL (w.getD 0 [])) (w.drop 1)) (numL (numsW (kindL (w.getD 0 [])) (w.drop 1))) = c := congrArg Prod.fst h
        have hn := (kindL_or (w.getD 0 [])).resolve_left hk0
        have hi := itoa_numL _ he
        have hnr : nearL (numL (numsW (kindL (w.getD 0 [])) (w.drop 1))) := near_all.2 fun n hn => by
          unfold numL at hn
          obtain ⟨x, _, rfl⟩ := List.mem_map.1 hn
          exact parseN_near x
        have hln : (numL (numsW (kindL (w.getD 0 [])) (w.drop 1))).length = (numsW (kindL (w.getD 0 [])) (w.drop 1)).length := by unfold numL; simp
        have hw0 : w.getD 0 [] :: w.drop 1 = w := by
          cases w with
          | nil => exact absurd rfl hne
          | cons x r => rfl
        generalize kindL (w.getD 0 []) = k at *
        generalize numsW k (w.drop 1) = nw at *
        have hcn : cntN k (numL nw).length := by rw [hln]; exact hb.2.1
        have ha := all_made (b := yesB k (w.drop 1)) hcn
        have hK := madeK k (yesB k (w.drop 1)) (numL nw)
        have hB := madeB k (yesB k (w.drop 1)) (numL nw)
        have hO := okRd_made (b := yesB k (w.drop 1)) hcn
        rw [hc] at ha hK hB hO
        rw [← hb.2.2] at hB
        have hL : lineW c = w := by
          unfold lineW
          rw [hK, hB, ha, hi, hb.1, hn.2]
          exact hw0
        refine ⟨⟨?_, hO, by rw [ha]; exact hnr, ?_⟩, by rw [hL]; exact hj, by rw [hL]; exact ht⟩
        · rw [hK]
          exact fun z => absurd hn.1 (nameL_ne.1 z)
        · rw [hK, hB, ha]; exact hc.symm
  · exact absurd (congrArg Prod.snd h) (by show ¬ ((2 : Int) = 0); decide)
end Go.Proofs.YtagokdeflnkplaaDoor
set_option linter.unusedSimpArgs false
namespace Go.Proofs.YtagokdeflnkplaaDoor
open Go.Proofs.YtagokdeflnkplaaDoor.Am Go.Lib
variable {G : GInv}
/-! ### The laws of commands -/
theorem vparse_c (hT : HasTab G) (hM : HasMax G) (s : List UInt8) (hs : s.length ≤ 100000) : ACalls Tryd.prog G 32 [.str s] (resP (parseV s)) := by
  by_cases h : okLine s
  · have e : parseV s = parseWV (cutL 32 s) := if_pos h
    rw [e]; exact vparse_yes hT hM s h
  · rw [parseV_no h]; exact vparse_no hM s hs h
def awS : List UInt8 := [76, 79, 65, 68, 32, 51, 32, 111, 110, 101, 32, 48, 32, 48, 32, 53, 32, 50, 32, 45, 50]
def awC : Cm := ⟨1, 3, [(0, 0), (2, -2)], [5], true, 0, 0, 0, false, (0, 0), (0, 0)⟩
theorem aw_1 : parseV awS = (awC, 0) := by decide +kernel
theorem aw_2 : parseV [83, 78, 65, 80, 32, 49] = (cm0, 2) := by decide +kernel
theorem lineA_yes {L : List (List UInt8)} (h : totL L ≤ 4097) : lineA L = .tup [.str (join L [32]), .int .i64 0] := by unfold lineA; rw [if_pos h, if_pos h]
set_option maxRecDepth 100000 in
set_option maxHeartbeats 2000000 in
theorem vawake_c (hT : HasTab G) (hM : HasMax G) : ACalls Tryd.prog G 31 [] (.sb true) := by
  have h1 := vparse_c hT hM awS (by decide)
  have h2 := vparse_c hT hM [83, 78, 65, 80, 32, 49] (by decide)
  obtain ⟨m1, m2, m3⟩ := read_line _ _ aw_1
  have h3 := vline_yes hT awC m1 (by decide) (by decide)
  rw [lineA_yes m3, m2] at h3
  rw [aw_1] at h1
  rw [aw_2] at h2
  have h1 : ACalls Tryd.prog G 32 [.str awS] (.tup [.agg (cmA awC), .int .i64 0]) := h1
  have h2 : ACalls Tryd.prog G 32 [.str [83, 78, 65, 80, 32, 49]] (.tup [.agg (cmA cm0), .int .i64 2]) := h2
  clear m1 m2 m3
  unfold awS awC at *
  refine ACalls.of_WA ttok Tryd.func31 rfl rfl _ rfl ?_
  conv => whnf
  repeat' (first | refine WA_seq ?_ | (refine WA_region ttok ?_; conv => whnf) | (refine WA_draw ttok mixed ?_; conv => whnf) | (refine WA_cond ?_; conv => whnf) | refine WA_block ?_ | (refine WA_skip ?_; conv => whnf) | (refine WA_exit ?_; conv => whnf) | (refine WA_ret ?_; conv => whnf) | (refine And.intro (fun h => ?_) (fun h => ?_) <;> (try simp only [brsA] at h) <;> conv => whnf) | (refine Or.inl ?_; (conv => whnf); refine Exists.intro _ (And.intro (h1) ?_); conv => whnf) | (refine Or.inr (Or.inr (Or.inl ?_)); (conv => whnf); refine Exists.intro _ (And.intro (h1) ?_); conv => whnf) | (refine Exists.intro _ (And.intro (h1) ?_); conv => whnf) | (refine Or.inl ?_; (conv => whnf); refine Exists.intro _ (And.intro (h2) ?_); conv => whnf) | (refine Or.inr (Or.inr (Or.inl ?_)); (conv => whnf); refine Exists.intro _ (And.intro (h2) ?_); conv => whnf) | (refine Exists.intro _ (And.intro (h2) ?_); conv => whnf) | (refine Or.inl ?_; (conv => whnf); refine Exists.intro _ (And.intro (h3) ?_); conv => whnf) | (refine Or.inr (Or.inr (Or.inl ?_)); (conv => whnf); refine Exists.intro _ (And.intro (h3) ?_); conv => whnf) | (refine Exists.intro _ (And.intro (h3) ?_); conv => whnf) | (refine WR_fit ?_ ?_; (focus (first | exact wr_i64 (by omega) | exact wr_u64 (by omega) | exact wr_u8 (by omega) | exact wr_i32 (by omega) | exact wr_u32 (by omega))); conv => whnf) | (refine WR_wrap ?_; conv => whnf) | (refine And.intro (a := indepB _ _ = true) ?_ ?_; (focus kernel_rfl); conv => whnf) | (refine And.intro rfl ?_; conv => whnf) | (refine And.intro ?_ ?_; (focus (first | omega | decide | (dsimp only; omega) | (simp at *; omega))); conv => whnf))
  all_goals first | contradiction | (exfalso; omega) | rfl | trace_state
end Go.Proofs.YtagokdeflnkplaaDoor

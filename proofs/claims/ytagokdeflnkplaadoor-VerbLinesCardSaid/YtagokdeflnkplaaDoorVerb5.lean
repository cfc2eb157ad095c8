/-
  A command's line is read as the command; a line that is a command is the command's own; the law's example.
-/
import Derived.Test.YtagokdeflnkplaaDoorVerb3
import Derived.Test.YtagokdeflnkplaaDoorVerb4
import Derived.Test.YtagokdeflnkplaaDoorRep1
import Derived.Lib.ItoaLen
set_option linter.unusedSimpArgs false
namespace Go.Proofs.YtagokdeflnkplaaDoor
open Go.Proofs.YtagokdeflnkplaaDoor.Am Go.Lib
/-! ### A command's line is read as the command; a line that is a command is the command's own -/
theorem madeK (k : Int) (b : Bool) (n : List Int) : (madeC k b n).k = k := by
  unfold madeC
  by_cases h1 : k = 1
  · rw [if_pos h1]
  · rw [if_neg h1]
    by_cases h4 : k = 4 ∨ k = 5
    · rw [if_pos h4]
    · rw [if_neg h4]
      by_cases h9 : k = 9 ∨ k = 10
      · rw [if_pos h9]
      · rw [if_neg h9]
        by_cases h8 : k = 8
        · rw [if_pos h8]
        · rw [if_neg h8]
          by_cases h2 : k = 2 ∨ k = 6 ∨ k = 11 ∨ k = 12
          · rw [if_pos h2]
          · rw [if_neg h2]
theorem madeB (k : Int) (b : Bool) (n : List Int) : ((madeC k b n).ow || (madeC k b n).bo) = (flg k && b) := by
  unfold madeC
  by_cases h1 : k = 1
  · subst h1; rw [if_pos rfl]; cases b <;> rfl
  · rw [if_neg h1]
    by_cases h4 : k = 4 ∨ k = 5
    · rw [if_pos h4]
      rcases h4 with q | q <;> subst q <;> cases b <;> rfl
    · rw [if_neg h4, flg_no h1 h4]
      by_cases h9 : k = 9 ∨ k = 10
      · rw [if_pos h9]; rfl
      · rw [if_neg h9]
        by_cases h8 : k = 8
        · rw [if_pos h8]; rfl
        · rw [if_neg h8]
          by_cases h2 : k = 2 ∨ k = 6 ∨ k = 11 ∨ k = 12
          · rw [if_pos h2]; rfl
          · rw [if_neg h2]; rfl
theorem list1 {n : List Int} (h : n.length = 1) : [n.getD 0 0] = n := by
  match n, h with
  | [a], _ => rfl
theorem list2 {n : List Int} (h : n.length = 2) : [n.getD 0 0, n.getD 1 0] = n := by
  match n, h with
  | [a, b], _ => rfl
theorem list4 {n : List Int} (h : n.length = 4) : [n.getD 0 0, n.getD 1 0, n.getD 2 0, n.getD 3 0] = n := by
  match n, h with
  | [a, b, c, d], _ => rfl
theorem list0 {n : List Int} (h : n.length = 0) : [] = n := by
  match n, h with
  | [], _ => rfl
theorem all_road (n : List Int) (j : Nat) (h : n.length = 3 * j + 3) : (List.range (3 * (rdWs n).length + 3)).map (allR (n.getD 0 0) (rdPts n) (rdWs n)) = n := by
  have hw : (rdWs n).length = j := by rw [rdWs_len]; omega
  rw [hw]
  refine intsv_ext (by simp; omega) fun i hi => ?_
  have hi : i < 3 * j + 3 := by simpa using hi
  rw [range_getD _ _ _ _ hi]
  by_cases h0 : i = 0
  · subst h0; exact (allR_at _ _ _ 0).2.2.2
  · have hm : i % 3 = 0 ∨ i % 3 = 1 ∨ i % 3 = 2 := by omega
    rcases hm with q | q | q
    · obtain ⟨t, rfl⟩ : ∃ t, i = 3 * t + 3 := ⟨i / 3 - 1, by omega⟩
      rw [(allR_at _ _ _ t).2.2.1, rdWs_get n t (by omega)]
    · obtain ⟨t, rfl⟩ : ∃ t, i = 3 * t + 1 := ⟨i / 3, by omega⟩
      rw [(allR_at _ _ _ t).1, rdPts_get n t (by omega)]
    · obtain ⟨t, rfl⟩ : ∃ t, i = 3 * t + 2 := ⟨i / 3, by omega⟩
      rw [(allR_at _ _ _ t).2.1, rdPts_get n t (by omega)]
theorem all_made {k : Int} {b : Bool} {n : List Int} (hc : cntN k n.length) : allL (madeC k b n) = n := by
  unfold allL
  rw [madeK]
  by_cases h1 : k = 1
  · rw [if_pos h1]
    obtain ⟨j, hj, _⟩ := hc.1 h1
    have e : madeC k b n = ⟨k, n.getD 0 0, rdPts n, rdWs n, b, 0, 0, 0, false, (0, 0), (0, 0)⟩ := by unfold madeC; rw [if_pos h1]
    rw [e]
    exact all_road n j hj
  · have hm := hc.2 h1
    rw [if_neg h1]
    by_cases h4 : k = 4 ∨ k = 5
    · have e : madeC k b n = ⟨k, 0, [], [], false, 0, n.getD 0 0, n.getD 1 0, b, (0, 0), (0, 0)⟩ := by unfold madeC; rw [if_neg h1, if_pos h4]
      rw [if_pos h4, e]
      refine list2 ?_
      unfold manyN at hm; rw [if_neg (by omega), if_pos (by omega)] at hm; omega
    · rw [if_neg h4]
      by_cases h8 : k = 8
      · have e : madeC k b n = ⟨k, 0, [], [], false, 0, 0, 0, false, (n.getD 0 0, n.getD 1 0), (0, 0)⟩ := by unfold madeC; rw [if_neg h1, if_neg h4, if_neg (by omega), if_pos h8]
        rw [if_pos h8, e]
        refine list2 ?_
        unfold manyN at hm; rw [if_neg (by omega), if_pos (by omega)] at hm; omega
      · rw [if_neg h8]
        by_cases h9 : k = 9 ∨ k = 10
        · have e : madeC k b n = ⟨k, 0, [], [], false, 0, 0, 0, false, (n.getD 0 0, n.getD 1 0), (n.getD 2 0, n.getD 3 0)⟩ := by unfold madeC; rw [if_neg h1, if_neg h4, if_pos h9]
          rw [if_pos h9, e]
          refine list4 ?_
          unfold manyN at hm; rw [if_neg (by omega), if_neg (by omega), if_pos (by omega)] at hm; omega
        · rw [if_neg h9]
          by_cases h2 : k = 2 ∨ k = 6 ∨ k = 11 ∨ k = 12
          · have e : madeC k b n = ⟨k, 0, [], [], false, n.getD 0 0, 0, 0, false, (0, 0), (0, 0)⟩ := by unfold madeC; rw [if_neg h1, if_neg h4, if_neg h9, if_neg h8, if_pos h2]
            rw [if_pos h2, e]
            refine list1 ?_
            unfold manyN at hm; rw [if_pos h2] at hm; omega
          · rw [if_neg h2]
            refine list0 ?_
            unfold manyN at hm; rw [if_neg h2, if_neg (by omega), if_neg h9] at hm; omega
theorem okRd_made {k : Int} {b : Bool} {n : List Int} (hc : cntN k n.length) : okRd (madeC k b n) := by
  intro h1
  rw [madeK] at h1
  obtain ⟨j, hj, hj2⟩ := hc.1 h1
  have e : madeC k b n = ⟨k, n.getD 0 0, rdPts n, rdWs n, b, 0, 0, 0, false, (0, 0), (0, 0)⟩ := by unfold madeC; rw [if_pos h1]
  rw [e]
  show 1 ≤ (rdPts n).length ∧ (rdPts n).length ≤ 100 ∧ (rdPts n).length = (rdWs n).length + 1
  rw [rdPts_len, rdWs_len]
  omega
theorem cntN_all (c : Cm) (h : okRd c) : cntN c.k (allL c).length := by
  have hf := fitN_all c h
  unfold fitN at hf
  constructor
  · intro h1
    have := h h1
    refine ⟨c.ws.length, ?_, by omega⟩
    unfold allL
    rw [if_pos h1]
    simp
  · intro h1
    rwa [if_neg h1] at hf
theorem line_all (Q : List UInt8 → Prop) (k : Int) (b : Bool) (ws : List (List UInt8)) (hn : Q (nameL k)) (hf : k = 1 ∨ k = 4 ∨ k = 5 → Q (noW k) ∧ Q (yesW k)) (hw : ∀ x ∈ ws, Q x) : ∀ x ∈ nameL k :: insF k (flagW k b) ws, Q x := by
  intro x hx
  rcases List.mem_cons.1 hx with rfl | hx
  · exact hn
  · unfold insF at hx
    have hfl : (k = 1 ∨ flagW k b ≠ []) → Q (flagW k b) := fun q => by
      have hk : k = 1 ∨ k = 4 ∨ k = 5 := by
        apply Classical.byContradiction
        intro z
        obtain ⟨a, e⟩ := noflag (k := k) (by omega) (by omega)
        rcases q with q | q
        · omega
        · apply q
          unfold flagW; rw [a, e]; simp
      have := hf hk
      unfold flagW
      split
      · exact this.2
      · exact this.1
    split at hx
    · rename_i h1
      rcases List.mem_append.1 hx with hx | hx
      · exact hw x (List.mem_of_mem_take hx)
      · rcases List.mem_cons.1 hx with rfl | hx
        · exact hfl (Or.inl h1)
        · exact hw x (List.mem_of_mem_drop hx)
    · split at hx
      · rename_i hf
        rcases List.mem_cons.1 hx with rfl | hx
        · exact hfl (Or.inr hf)
        · exact hw x hx
      · exact hw x hx
theorem line_words (c : Cm) (hm : mayV c) : ∀ x ∈ lineW c, wordP x :=
  line_all _ c.k _ _ (name_word hm.1) flag_word (nums_word (allL c))
theorem nameL_len (k : Int) : (nameL k).length ≤ 24 := by
  unfold nameL
  split
  · rename_i h
    have a := kind13 h
    rcases a with a | a | a | a | a | a | a | a | a | a | a | a | a <;> subst a <;> decide
  · simp
theorem line_lens (c : Cm) (hm : mayV c) : ∀ x ∈ lineW c, x.length ≤ 24 :=
  line_all (fun x => x.length ≤ 24) c.k _ _ (nameL_len c.k) (fun h => by rcases h with h | h | h <;> rw [h] <;> exact ⟨by decide, by decide⟩) fun x hx => by
    obtain ⟨n, hn, rfl⟩ := List.mem_map.1 hx
    have h := near_all.1 hm.2.2.1 n hn
    unfold near60 at h
    have := Lib.itoa_length_le n (by omega) (by omega)
    omega
theorem line_size (c : Cm) (hm : mayV c) : (lineW c).length ≤ 1002 := by
  have := all_len c hm.2.1
  have hl : (lineW c).length = (insF c.k (flagW c.k (c.ow || c.bo)) ((allL c).map Lib.itoa)).length + 1 := rfl
  rw [hl]
  unfold insF
  split
  · simp; omega
  · split <;> simp <;> omega
theorem take_snoc (l : List (List UInt8)) {i : Nat} (h : i < l.length) : l.take (i + 1) = l.take i ++ [l.getD i []] := by
  rw [List.take_succ_eq_append_getElem h, List.getD_eq_getElem?_getD, List.getElem?_eq_getElem h]; rfl
theorem join_take {l : List (List UInt8)} {i : Nat} (h : i < l.length) (h1 : 1 ≤ i) : join (l.take (i + 1)) [32] = join (l.take i) [32] ++ [32] ++ l.getD i [] := by
  rw [take_snoc l h, join_snoc _ _ _ (fun q => by have := congrArg List.length q; rw [List.length_take] at this; simp only [List.length_nil] at this; omega), List.append_assoc]
theorem join_one (l : List (List UInt8)) (h : 0 < l.length) : join (l.take 1) [32] = l.getD 0 [] := by
  cases l with
  | nil => exact absurd h (by simp)
  | cons x r =>
    show join [x] [32] = x
    rw [join_cons]; simp [joinTail]
theorem take_len {l : List (List UInt8)} (hl : ∀ x ∈ l, x.length ≤ 24) : ∀ i, 1 ≤ i → i ≤ l.length → (join (l.take i) [32]).length ≤ 30 * i
  | 0, h, _ => absurd h (by decide)
  | i + 1, _, h => by
    have hx : (l.getD i []).length ≤ 24 := by
      rw [List.getD_eq_getElem?_getD, List.getElem?_eq_getElem (show i < l.length by omega)]
      exact hl _ (List.getElem_mem _)
    by_cases h0 : i = 0
    · subst h0
      rw [join_one l (by omega)]; omega
    · rw [join_take (show i < l.length by omega) (by omega)]
      have ih := take_len hl i (by omega) (by omega)
      simp only [List.length_append, List.length_cons, List.length_nil]
      omega
theorem lineW_ne (c : Cm) : lineW c ≠ [] := by unfold lineW; simp
theorem line_parse (c : Cm) (hm : mayV c) : parseWV (lineW c) = (c, 0) := by
  have hk : 1 ≤ c.k ∧ c.k ≤ 13 := by
    apply Classical.byContradiction
    intro q; exact hm.1 (nameL_ne.2 q)
  have h0 : kindL ((lineW c).getD 0 []) = c.k := kindL_eq hk rfl
  have hd : (lineW c).drop 1 = insF c.k (flagW c.k (c.ow || c.bo)) ((allL c).map Lib.itoa) := rfl
  have hi := ins_fwd c.k (c.ow || c.bo) ((allL c).map Lib.itoa) (by
    have := cntN_all c hm.2.1
    rwa [List.length_map])
  have hni := numL_itoa (allL c) (near_all.1 hm.2.2.1)
  unfold parseWV
  rw [h0, hd, if_neg (fun q => q.elim (fun z => by omega) (fun z => z hi.1)), hi.2.1, hi.2.2, hni.1, hni.2, if_neg (fun q => q rfl), made_flg, ← hm.2.2.2]
theorem line_read (c : Cm) (hm : mayV c) (hl : totL (lineW c) ≤ 4097) : okLine (join (lineW c) [32]) ∧ parseV (join (lineW c) [32]) = (c, 0) := by
  have hw := line_words c hm
  have h0 := lineW_ne c
  have hc := cut_words hw h0
  have hk : okLine (join (lineW c) [32]) := ⟨(join_size _ h0).2 hl, join_nonempty hw h0, by rw [hc]; exact allW_of hw⟩
  refine ⟨hk, ?_⟩
  unfold parseV
  rw [if_pos hk, hc]
  exact line_parse c hm
theorem read_line (s : List UInt8) (c : Cm) (h : parseV s = (c, 0)) : mayV c ∧ join (lineW c) [32] = s ∧ totL (lineW c) ≤ 4097 := by
  unfold parseV at h
  split at h
  · rename_i hk
    have hj := join_cutL 32 s
    have ht : totL (cutL 32 s) ≤ 4097 := by have := totL_cutL 32 s; have := hk.1; omega
    have hne := cutL_ne 32 s
    generalize cutL 32 s = w at *
    unfold parseWV at h
    split at h
    · exact absurd (congrArg Prod.snd h) (by show ¬ ((2 : Int) = 0); decide)
    · rename_i hq
      split at h
      · rename_i he
        exact absurd (congrArg Prod.snd h) he
      · rename_i he
        have he : errL (numsW (kindL (w.getD 0 [])) (w.drop 1)) = 0 := Classical.not_not.1 he
        have hs : shapeV (kindL (w.getD 0 [])) (w.drop 1) := Classical.not_not.1 fun z => hq (Or.inr z)
        have hk0 : kindL (w.getD 0 []) ≠ 0 := fun z => hq (Or.inl z)
        have hb := ins_bwd _ _ hs
        have hc : madeC (kindL (w.getD 0 [])) (yesB (kindL (w.getD 0 [])) (w.drop 1)) (numL (numsW (kindL (w.getD 0 [])) (w.drop 1))) = c := congrArg Prod.fst h
        have hn := (kindL_or (w.getD 0 [])).resolve_left hk0
        have hi := itoa_numL _ he
        have hnr : nearL (numL (numsW (kindL (w.getD 0 [])) (w.drop 1))) := near_all.2 fun n hn => by
          unfold numL at hn
          obtain ⟨x, _, rfl⟩ := List.mem_map.1 hn
          exact parseN_near x
        have hln : (numL (numsW (kindL (w.getD 0 [])) (w.drop 1))).length = (numsW (kindL (w.getD 0 [])) (w.drop 1)).length := by unfold numL; simp
        have hw0 : w.getD 0 [] :: w.drop 1 = w := by
          cases w with
          | nil => exact absurd rfl hne
          | cons x r => rfl
        generalize kindL (w.getD 0 []) = k at *
        generalize numsW k (w.drop 1) = nw at *
        have hcn : cntN k (numL nw).length := by rw [hln]; exact hb.2.1
        have ha := all_made (b := yesB k (w.drop 1)) hcn
        have hK := madeK k (yesB k (w.drop 1)) (numL nw)
        have hB := madeB k (yesB k (w.drop 1)) (numL nw)
        have hO := okRd_made (b := yesB k (w.drop 1)) hcn
        rw [hc] at ha hK hB hO
        rw [← hb.2.2] at hB
        have hL : lineW c = w := by
          unfold lineW
          rw [hK, hB, ha, hi, hb.1, hn.2]
          exact hw0
        refine ⟨⟨?_, hO, by rw [ha]; exact hnr, ?_⟩, by rw [hL]; exact hj, by rw [hL]; exact ht⟩
        · rw [hK]
          exact fun z => absurd hn.1 (nameL_ne.1 z)
        · rw [hK, hB, ha]; exact hc.symm
  · exact absurd (congrArg Prod.snd h) (by show ¬ ((2 : Int) = 0); decide)
end Go.Proofs.YtagokdeflnkplaaDoor
set_option linter.unusedSimpArgs false
namespace Go.Proofs.YtagokdeflnkplaaDoor
open Go.Proofs.YtagokdeflnkplaaDoor.Am Go.Lib
variable {G : GInv}
/-! ### The laws of commands -/
theorem vparse_c (hT : HasTab G) (hM : HasMax G) (s : List UInt8) (hs : s.length ≤ 100000) : ACalls Tryd.prog G 32 [.str s] (resP (parseV s)) := by
  by_cases h : okLine s
  · have e : parseV s = parseWV (cutL 32 s) := if_pos h
    rw [e]; exact vparse_yes hT hM s h
  · rw [parseV_no h]; exact vparse_no hM s hs h
def awS : List UInt8 := [76, 79, 65, 68, 32, 51, 32, 111, 110, 101, 32, 48, 32, 48, 32, 53, 32, 50, 32, 45, 50]
def awC : Cm := ⟨1, 3, [(0, 0), (2, -2)], [5], true, 0, 0, 0, false, (0, 0), (0, 0)⟩
theorem aw_1 : parseV awS = (awC, 0) := by decide +kernel
theorem aw_2 : parseV [83, 78, 65, 80, 32, 49] = (cm0, 2) := by decide +kernel
theorem lineA_yes {L : List (List UInt8)} (h : totL L ≤ 4097) : lineA L = .tup [.str (join L [32]), .int .i64 0] := by unfold lineA; rw [if_pos h, if_pos h]
theorem lineA_no {L : List (List UInt8)} (h : ¬ totL L ≤ 4097) : lineA L = .tup [.str [], .int .i64 1] := by unfold lineA; rw [if_neg h, if_neg h]
set_option maxRecDepth 100000 in
set_option maxHeartbeats 2000000 in
theorem vawake_c (hT : HasTab G) (hM : HasMax G) : ACalls Tryd.prog G 31 [] (.sb true) := by
  have h1 := vparse_c hT hM awS (by decide)
  have h2 := vparse_c hT hM [83, 78, 65, 80, 32, 49] (by decide)
  obtain ⟨m1, m2, m3⟩ := read_line _ _ aw_1
  have h3 := vline_yes hT awC m1 (by decide) (by decide)
  rw [lineA_yes m3, m2] at h3
  rw [aw_1] at h1
  rw [aw_2] at h2
  have h1 : ACalls Tryd.prog G 32 [.str awS] (.tup [.agg (cmA awC), .int .i64 0]) := h1
  have h2 : ACalls Tryd.prog G 32 [.str [83, 78, 65, 80, 32, 49]] (.tup [.agg (cmA cm0), .int .i64 2]) := h2
  clear m1 m2 m3
  unfold awS awC at *
  refine ACalls.of_WA ttok Tryd.func31 rfl rfl _ rfl ?_
  conv => whnf
  repeat' (first | refine WA_seq ?_ | (refine WA_region ttok ?_; conv => whnf) | (refine WA_draw ttok mixed ?_; conv => whnf) | (refine WA_cond ?_; conv => whnf) | refine WA_block ?_ | (refine WA_skip ?_; conv => whnf) | (refine WA_exit ?_; conv => whnf) | (refine WA_ret ?_; conv => whnf) | (refine And.intro (fun h => ?_) (fun h => ?_) <;> (try simp only [brsA] at h) <;> conv => whnf) | (refine Or.inl ?_; (conv => whnf); refine Exists.intro _ (And.intro (h1) ?_); conv => whnf) | (refine Or.inr (Or.inr (Or.inl ?_)); (conv => whnf); refine Exists.intro _ (And.intro (h1) ?_); conv => whnf) | (refine Exists.intro _ (And.intro (h1) ?_); conv => whnf) | (refine Or.inl ?_; (conv => whnf); refine Exists.intro _ (And.intro (h2) ?_); conv => whnf) | (refine Or.inr (Or.inr (Or.inl ?_)); (conv => whnf); refine Exists.intro _ (And.intro (h2) ?_); conv => whnf) | (refine Exists.intro _ (And.intro (h2) ?_); conv => whnf) | (refine Or.inl ?_; (conv => whnf); refine Exists.intro _ (And.intro (h3) ?_); conv => whnf) | (refine Or.inr (Or.inr (Or.inl ?_)); (conv => whnf); refine Exists.intro _ (And.intro (h3) ?_); conv => whnf) | (refine Exists.intro _ (And.intro (h3) ?_); conv => whnf) | (refine WR_fit ?_ ?_; (focus (first | exact wr_i64 (by omega) | exact wr_u64 (by omega) | exact wr_u8 (by omega) | exact wr_i32 (by omega) | exact wr_u32 (by omega))); conv => whnf) | (refine WR_wrap ?_; conv => whnf) | (refine And.intro (a := indepB _ _ = true) ?_ ?_; (focus kernel_rfl); conv => whnf) | (refine And.intro rfl ?_; conv => whnf) | (refine And.intro ?_ ?_; (focus (first | omega | decide | (dsimp only; omega) | (simp at *; omega))); conv => whnf))
  all_goals first | contradiction | (exfalso; omega) | rfl | trace_state
end Go.Proofs.YtagokdeflnkplaaDoor

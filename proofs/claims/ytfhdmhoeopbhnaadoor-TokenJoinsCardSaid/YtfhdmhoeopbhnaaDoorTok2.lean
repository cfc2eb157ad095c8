/-
  The walks of the package token and of its reference.
-/
import Derived.Test.YtfhdmhoeopbhnaaDoorTok1
import Derived.Lib.Strings
set_option linter.unusedSimpArgs false
namespace Go.Proofs.YtfhdmhoeopbhnaaDoor
open Go.Proofs.YtfhdmhoeopbhnaaDoor.Am Go.Lib
open Go.RowKit (Below)
variable {G : GInv}
def linesL (s : List UInt8) : List (List UInt8) := (lnT s).map fun x => trimSuffix x [10]
theorem trim_one (b : UInt8) : trimSuffix [b] [10] = if b = 10 then [] else [b] := by
  unfold trimSuffix hasSuffix
  by_cases h : b = 10
  · subst h; simp
  · simp [h, List.isSuffixOf, List.isPrefixOf, show ¬ (10 = b) from fun e => h e.symm]
theorem trim_cons (b : UInt8) (h : List UInt8) (hn : h ≠ []) : trimSuffix (b :: h) [10] = b :: trimSuffix h [10] := by
  have e : ([10] : List UInt8).isSuffixOf (b :: h) = ([10] : List UInt8).isSuffixOf h := by
    rw [Bool.eq_iff_iff, List.isSuffixOf_iff_suffix, List.isSuffixOf_iff_suffix, List.suffix_cons_iff]
    constructor
    · rintro (q | q)
      · simp only [List.cons.injEq] at q; exact absurd q.2.symm hn
      · exact q
    · exact .inr
  have hl : 0 < h.length := List.length_pos_iff.2 hn
  unfold trimSuffix hasSuffix
  rw [e]
  split
  · have e2 : (b :: h).length - ([10] : List UInt8).length = (h.length - ([10] : List UInt8).length) + 1 := by simp only [List.length_cons, List.length_nil]; omega
    rw [e2, List.take_succ_cons]
  · rfl
theorem lnT_ne (s : List UInt8) : ∀ x ∈ lnT s, x ≠ [] := by
  induction s with
  | nil => intro x h; simp [lnT] at h
  | cons b l ih =>
    intro x h
    unfold lnT at h
    split at h
    · rcases List.mem_cons.1 h with rfl | h
      · simp
      · exact ih x h
    · split at h
      · rw [List.mem_singleton] at h; subst h; simp
      · rename_i y t e
        rw [e] at ih
        rcases List.mem_cons.1 h with rfl | h
        · simp
        · exact ih x (List.mem_cons_of_mem _ h)
def dropE (l : List (List UInt8)) : List (List UInt8) := if l.getLast? = some [] then l.dropLast else l
theorem dropE_cons (x : List UInt8) (l : List (List UInt8)) (h : l ≠ []) : dropE (x :: l) = x :: dropE l := by
  cases l with
  | nil => exact absurd rfl h
  | cons y l =>
    unfold dropE
    rw [List.getLast?_cons_cons]
    split
    · rfl
    · rfl
theorem lines_eq : ∀ s : List UInt8, linesL s = dropE (cutL 10 s)
  | [] => by simp [linesL, lnT, cutL, dropE]
  | b :: l => by
    have ih := lines_eq l
    have hne := cutL_ne 10 l
    by_cases hb : b = 10
    · subst hb
      rw [cutL, if_pos rfl, dropE_cons _ _ hne, ← ih]
      unfold linesL
      rw [lnT, if_pos rfl, List.map_cons, trim_one, if_pos rfl]
    · rw [cutL, if_neg hb]
      cases hc : cutL 10 l with
      | nil => exact absurd hc hne
      | cons h t =>
        rw [hc] at ih
        have hln := lnT_ne l
        unfold linesL at ih ⊢
        rw [lnT, if_neg hb]
        cases hl : lnT l with
        | nil =>
          rw [hl] at ih
          have e : dropE (h :: t) = [] := by simpa using ih.symm
          have ht : t = [] := by
            cases t with
            | nil => rfl
            | cons y t => rw [dropE_cons _ _ (by simp)] at e; cases e
          subst ht
          have hh : h = [] := by
            unfold dropE at e
            by_cases q : h = []
            · exact q
            · rw [if_neg (by simpa using q)] at e; cases e
          subst hh
          show [trimSuffix [b] [10]] = dropE [[b]]
          rw [trim_one, if_neg hb]
          simp [dropE]
        | cons x r =>
          rw [hl] at ih hln
          have hx := hln x (List.mem_cons_self ..)
          rw [List.map_cons] at ih
          show trimSuffix (b :: x) [10] :: r.map (fun x => trimSuffix x [10]) = dropE ((b :: h) :: t)
          rw [trim_cons _ _ hx]
          by_cases ht : t = []
          · subst ht
            unfold dropE at ih
            by_cases q : h = []
            · subst q; simp at ih
            · rw [if_neg (by simpa using q)] at ih
              simp only [List.cons.injEq, List.map_eq_nil_iff] at ih
              rw [ih.1, ih.2]
              simp [dropE]
          · rw [dropE_cons _ _ ht] at ih ⊢
            simp only [List.cons.injEq] at ih
            rw [ih.1, ih.2]
theorem linesL_len (s : List UInt8) : (linesL s).length ≤ s.length := by unfold linesL; rw [List.length_map]; exact lnT_len s
theorem trim_le (x : List UInt8) : (trimSuffix x [10]).length ≤ x.length := by unfold trimSuffix; split <;> simp
theorem linesL_get_len (s : List UInt8) (i : Nat) : ((linesL s).getD i []).length ≤ s.length := by
  rcases Nat.lt_or_ge i (linesL s).length with h | h
  · have hl : i < (lnT s).length := by unfold linesL at h; rwa [List.length_map] at h
    have : (linesL s).getD i [] = trimSuffix ((lnT s)[i]) [10] := by unfold linesL; simp [List.getD_eq_getElem?_getD, hl]
    rw [this]
    exact Nat.le_trans (trim_le _) (lnT_mem_len s _ (List.getElem_mem _))
  · rw [List.getD_eq_getElem?_getD, List.getElem?_eq_none h]; simp
theorem lines_c (s : List UInt8) (hs : s.length ≤ 100000) : ACalls Tryd.prog G 14 [.str s] (strsA (linesL s)) := by
  refine ⟨⟨_, _, Tryd.func14, rfl, by kernel_rfl⟩, ?_⟩
  intro im w vs him hG hl hr
  match vs, hl with
  | [a], _ =>
    have h0 : RelI im w (.str s) a := hr 0 (by simp) (by simp)
    obtain rfl := strI_inv h0
    refine Calls_mono (lines_raw ⟨s.toArray⟩ (by show s.toArray.size ≤ 100000; rw [List.size_toArray]; exact hs) w) ?_
    rintro e w' ⟨v, rfl, hrow, hb⟩
    refine ⟨_, rfl, ?_, Bw.of_below hb⟩
    have hlen : (linesL s).length = (lnT s).length := by unfold linesL; rw [List.length_map]
    unfold strsA
    rw [hlen]
    rcases hrow.2 with ⟨rfl, h0⟩ | ⟨g, cap, cur, rfl, hg, hgb, h3, h4, h5, h6⟩
    · have h0 : (lnT s).length = 0 := h0
      rw [h0]
      exact .sl0 _ _
    · have hn : (lnT s).length * 1 = (lnT s).length := Nat.mul_one _
      simp only [Nat.mul_one] at h5 h6
      refine .sl _ 1 _ g 0 cap (fun i _ => ((lnT s).map trN).getD i undef) (.inr ⟨hg, (Array.getElem?_eq_some_iff.1 hgb).1⟩) h3 (fun i _ => rfl) ?_ ?_ ?_
      · intro i j hi hj
        have hj0 : j = 0 := by omega
        subst hj0
        rw [show 0 + i * 1 + 0 = i by omega, cell_of_row w' g i cur 9 (0, 0) hgb]
        have e1 : (cur.toList.take (lnT s).length)[i]? = ((lnT s).map trN)[i]? := congrArg (·[i]?) h6
        rw [List.getElem?_take_of_lt hi] at e1
        rw [← Array.getElem?_toList, e1]
        simp [List.getD_eq_getElem?_getD, hi]
      · intro i j hi hj
        simp [List.getD_eq_getElem?_getD, hi]
        rfl
      · intro i j hi hj
        have hj0 : j = 0 := by simp [rowStr] at hj; omega
        subst hj0
        have e2 : ((lnT s).map trN).getD i undef = .string ⟨((linesL s).getD i []).toArray⟩ := by
          unfold linesL trN
          simp [List.getD_eq_getElem?_getD, hi]
        rw [e2]
        exact .str _
end Go.Proofs.YtfhdmhoeopbhnaaDoor
set_option linter.unusedSimpArgs false
namespace Go.Proofs.YtfhdmhoeopbhnaaDoor
open Go.Proofs.YtfhdmhoeopbhnaaDoor.Am Go.Lib
variable {G : GInv}
set_option maxRecDepth 100000 in
theorem rlines_c (s : List UInt8) (hl : s.length ≤ 100000) : ACalls Tryd.prog G 15 [.str s] (strsA (linesL s)) := by
  have hc := rcut_c (G := G) s 10 hl
  have hc : ACalls Tryd.prog G 33 [.str s, .int .u8 10] (strsA (cutL 10 s)) := hc
  have hne := List.length_pos_iff.2 (cutL_ne 10 s)
  have hcl := cutL_len 10 s
  rw [lines_eq]
  generalize cutL 10 s = L at *
  have hlast : L.getLast? = some (L.getD (L.length - 1) []) := by
    rw [List.getLast?_eq_getElem?, List.getD_eq_getElem?_getD, List.getElem?_eq_getElem (by omega)]; rfl
  have hix : ((L.length : Int) - 1).toNat = L.length - 1 := by omega
  by_cases hd : L.getD (L.length - 1) [] = []
  · have e : dropE L = L.dropLast := by unfold dropE; rw [hlast, hd, if_pos rfl]
    rw [e]
    have hd2 : L.getD ((L.length : Int) - 1).toNat [] = [] := by rw [hix]; exact hd
    refine ACalls.of_WA ttok Tryd.func15 rfl rfl _ rfl ?_
    conv => whnf
    repeat' (first | refine WA_seq ?_ | (refine WA_region ttok ?_; conv => whnf) | (refine WA_draw ttok mixed ?_; conv => whnf) | (refine WA_cond ?_; conv => whnf) | refine WA_block ?_ | (refine WA_skip ?_; conv => whnf) | (refine WA_exit ?_; conv => whnf) | (refine WA_ret ?_; conv => whnf) | (refine And.intro (fun h => ?_) (fun h => ?_) <;> (try simp only [brsA] at h) <;> conv => whnf) | (refine Or.inl ?_; (conv => whnf); refine Exists.intro _ (And.intro (hc) ?_); conv => whnf) | (refine Or.inr (Or.inr (Or.inl ?_)); (conv => whnf); refine Exists.intro _ (And.intro (hc) ?_); conv => whnf) | (refine Exists.intro _ (And.intro (hc) ?_); conv => whnf) | (refine WR_fit ?_ ?_; (focus (first | exact wr_i64 (by omega) | exact wr_u64 (by omega) | exact wr_u8 (by omega) | exact wr_i32 (by omega) | exact wr_u32 (by omega))); conv => whnf) | (refine WR_wrap ?_; conv => whnf) | (refine And.intro (a := indepB _ _ = true) ?_ ?_; (focus kernel_rfl); conv => whnf) | (refine And.intro rfl ?_; conv => whnf) | (refine And.intro ?_ ?_; (focus (first | omega | decide | (dsimp only; omega) | (simp at *; omega))); conv => whnf))
    all_goals first | contradiction | (exact absurd hd2 h) | skip
    refine ⟨by rw [List.length_dropLast]; omega, Or.inl fun i hi => ?_⟩
    show [A.str (L.getD (0 + i) [])] = [A.str (L.dropLast.getD i [])]
    rw [Nat.zero_add, List.getD_eq_getElem?_getD, List.getD_eq_getElem?_getD, List.getElem?_dropLast, if_pos (by omega)]
  · have e : dropE L = L := by unfold dropE; rw [hlast, if_neg (fun q => hd (Option.some.inj q))]
    rw [e]
    have hd2 : ¬ L.getD ((L.length : Int) - 1).toNat [] = [] := by rw [hix]; exact hd
    refine ACalls.of_WA ttok Tryd.func15 rfl rfl _ rfl ?_
    conv => whnf
    repeat' (first | refine WA_seq ?_ | (refine WA_region ttok ?_; conv => whnf) | (refine WA_draw ttok mixed ?_; conv => whnf) | (refine WA_cond ?_; conv => whnf) | refine WA_block ?_ | (refine WA_skip ?_; conv => whnf) | (refine WA_exit ?_; conv => whnf) | (refine WA_ret ?_; conv => whnf) | (refine And.intro (fun h => ?_) (fun h => ?_) <;> (try simp only [brsA] at h) <;> conv => whnf) | (refine Or.inl ?_; (conv => whnf); refine Exists.intro _ (And.intro (hc) ?_); conv => whnf) | (refine Or.inr (Or.inr (Or.inl ?_)); (conv => whnf); refine Exists.intro _ (And.intro (hc) ?_); conv => whnf) | (refine Exists.intro _ (And.intro (hc) ?_); conv => whnf) | (refine WR_fit ?_ ?_; (focus (first | exact wr_i64 (by omega) | exact wr_u64 (by omega) | exact wr_u8 (by omega) | exact wr_i32 (by omega) | exact wr_u32 (by omega))); conv => whnf) | (refine WR_wrap ?_; conv => whnf) | (refine And.intro (a := indepB _ _ = true) ?_ ?_; (focus kernel_rfl); conv => whnf) | (refine And.intro rfl ?_; conv => whnf) | (refine And.intro ?_ ?_; (focus (first | omega | decide | (dsimp only; omega) | (simp at *; omega))); conv => whnf))
    all_goals first | contradiction | (exact absurd h hd2) | skip
    exact Or.inl fun _ _ => rfl
theorem rsame_c (l : List (List UInt8)) (hl : l.length ≤ 1000000) : ACalls Tryd.prog G 16 [strsA l, strsA l] (.sb true) := by
  refine ACalls.of_WA ttok Tryd.func16 rfl rfl _ rfl ?_
  conv => whnf
  repeat' (first | refine WA_seq ?_ | (refine WA_region ttok ?_; conv => whnf) | (refine WA_draw ttok mixed ?_; conv => whnf) | (refine WA_cond ?_; conv => whnf) | refine WA_block ?_ | (refine WA_skip ?_; conv => whnf) | (refine WA_exit ?_; conv => whnf) | (refine WA_ret ?_; conv => whnf) | (refine And.intro (fun h => ?_) (fun h => ?_) <;> (try simp only [brsA] at h) <;> conv => whnf) | (refine WR_fit ?_ ?_; (focus (first | exact wr_i64 (by omega) | exact wr_u64 (by omega) | exact wr_u8 (by omega) | exact wr_i32 (by omega) | exact wr_u32 (by omega))); conv => whnf) | (refine WR_wrap ?_; conv => whnf) | (refine And.intro (a := indepB _ _ = true) ?_ ?_; (focus kernel_rfl); conv => whnf) | (refine And.intro rfl ?_; conv => whnf) | (refine And.intro ?_ ?_; (focus (first | omega | decide | (dsimp only; omega) | (simp at *; omega))); conv => whnf))
  all_goals first | contradiction | (exfalso; omega) | skip
  refine WA_loopI (fun i : Nat => i ≤ l.length) (fun i => [(5, .int .i64 (i : Int))]) (fun _ => []) (fun i => l.length - i) 0 (by omega) ?_ ?_
  · conv => whnf
    repeat (first | exact rfl | exact trivial | exact Or.inl (fun _ _ => rfl) | exact (fun _ => rfl) | exact (fun _ _ => rfl) | exact Or.inl (fun _ hi => absurd hi (Nat.not_lt_zero _)) | (refine And.intro rfl ?_; conv => whnf) | (refine And.intro (Or.inl (fun _ _ => rfl)) ?_; conv => whnf) | (refine And.intro (fun _ => rfl) ?_; conv => whnf) | (refine And.intro (fun _ _ => rfl) ?_; conv => whnf) | (refine And.intro ?_ ?_; rotate_left; conv => whnf))
  · intro i hi
    conv => whnf
    repeat' (first | refine WA_seq ?_ | (refine WA_region ttok ?_; conv => whnf) | (refine WA_draw ttok mixed ?_; conv => whnf) | (refine WA_cond ?_; conv => whnf) | refine WA_block ?_ | (refine WA_skip ?_; conv => whnf) | (refine WA_exit ?_; conv => whnf) | (refine WA_ret ?_; conv => whnf) | (refine And.intro (fun h => ?_) (fun h => ?_) <;> (try simp only [brsA] at h) <;> conv => whnf) | (refine WR_fit ?_ ?_; (focus (first | exact wr_i64 (by omega) | exact wr_u64 (by omega) | exact wr_u8 (by omega) | exact wr_i32 (by omega) | exact wr_u32 (by omega))); conv => whnf) | (refine WR_wrap ?_; conv => whnf) | (refine And.intro (a := indepB _ _ = true) ?_ ?_; (focus kernel_rfl); conv => whnf) | (refine And.intro rfl ?_; conv => whnf) | (refine And.intro ?_ ?_; (focus (first | omega | decide | (dsimp only; omega) | (simp at *; omega))); conv => whnf))
    all_goals first | contradiction | (exfalso; omega) | skip
    refine ⟨i + 1, (by show i + 1 ≤ l.length; omega), (by show l.length - (i + 1) < l.length - i; omega), ?_⟩
    conv => whnf
    repeat (first | exact rfl | exact trivial | exact Or.inl (fun _ _ => rfl) | exact (fun _ => rfl) | exact (fun _ _ => rfl) | exact Or.inl (fun _ hi => absurd hi (Nat.not_lt_zero _)) | (refine And.intro rfl ?_; conv => whnf) | (refine And.intro (Or.inl (fun _ _ => rfl)) ?_; conv => whnf) | (refine And.intro (fun _ => rfl) ?_; conv => whnf) | (refine And.intro (fun _ _ => rfl) ?_; conv => whnf) | (refine And.intro ?_ ?_; rotate_left; conv => whnf))
theorem rsame_nil : ACalls Tryd.prog G 16 [.nils, .nils] (.sb true) := (rsame_c (G := G) [] (by decide)).fit ⟨rfl, rfl⟩
theorem count_c (s : List UInt8) (hl : s.length ≤ 100000) : ACalls Tryd.prog G 17 [.str s] (.int .i64 (linesL s).length) := by
  have h := lines_c (G := G) s hl
  refine ACalls.of_WA ttok Tryd.func17 rfl rfl _ rfl ?_
  conv => whnf
  repeat' (first | refine WA_seq ?_ | (refine WA_region ttok ?_; conv => whnf) | (refine WA_draw ttok mixed ?_; conv => whnf) | (refine WA_cond ?_; conv => whnf) | refine WA_block ?_ | (refine WA_skip ?_; conv => whnf) | (refine WA_exit ?_; conv => whnf) | (refine WA_ret ?_; conv => whnf) | (refine And.intro (fun h => ?_) (fun h => ?_) <;> (try simp only [brsA] at h) <;> conv => whnf) | (refine Or.inl ?_; (conv => whnf); refine Exists.intro _ (And.intro (h) ?_); conv => whnf) | (refine Or.inr (Or.inr (Or.inl ?_)); (conv => whnf); refine Exists.intro _ (And.intro (h) ?_); conv => whnf) | (refine Exists.intro _ (And.intro (h) ?_); conv => whnf) | (refine WR_fit ?_ ?_; (focus (first | exact wr_i64 (by omega) | exact wr_u64 (by omega) | exact wr_u8 (by omega) | exact wr_i32 (by omega) | exact wr_u32 (by omega))); conv => whnf) | (refine WR_wrap ?_; conv => whnf) | (refine And.intro (a := indepB _ _ = true) ?_ ?_; (focus kernel_rfl); conv => whnf) | (refine And.intro rfl ?_; conv => whnf) | (refine And.intro ?_ ?_; (focus (first | omega | decide | (dsimp only; omega) | (simp at *; omega))); conv => whnf))
theorem rword_c (s : List UInt8) (hl : s.length ≤ 4611686018427387904) : ACalls Tryd.prog G 20 [.str s] (.sb (decide (wordP s))) := by
  by_cases hw : ∀ j, j < s.length → okB (s.getD j 0)
  · have e : wordP s ↔ 0 < s.length := ⟨fun h => List.length_pos_iff.2 h.1, fun h => ⟨List.length_pos_iff.1 h, fun b hb => by
      obtain ⟨j, hj, q⟩ := List.getElem_of_mem hb
      have := hw j hj
      rw [List.getD_eq_getElem?_getD, List.getElem?_eq_getElem hj] at this
      rw [← q]; exact this⟩⟩
    refine ACalls.of_WA ttok Tryd.func20 rfl rfl _ rfl ?_
    conv => whnf
    repeat (first | refine WA_seq ?_ | (refine WA_region ttok ?_; conv => whnf) | (refine WA_draw ttok mixed ?_; conv => whnf) | (refine WA_cond ?_; conv => whnf) | refine WA_block ?_ | (refine WA_skip ?_; conv => whnf) | (refine WA_exit ?_; conv => whnf) | (refine WA_ret ?_; conv => whnf))
    refine WA_loopI (fun i : Nat => i ≤ s.length) (fun i => [(3, .int .i64 (i : Int))]) (fun _ => []) (fun i => s.length - i) 0 (by omega) ?_ ?_
    · conv => whnf
      repeat (first | exact rfl | exact trivial | exact Or.inl (fun _ _ => rfl) | exact (fun _ => rfl) | exact (fun _ _ => rfl) | exact Or.inl (fun _ hi => absurd hi (Nat.not_lt_zero _)) | (refine And.intro rfl ?_; conv => whnf) | (refine And.intro (Or.inl (fun _ _ => rfl)) ?_; conv => whnf) | (refine And.intro (fun _ => rfl) ?_; conv => whnf) | (refine And.intro (fun _ _ => rfl) ?_; conv => whnf) | (refine And.intro ?_ ?_; rotate_left; conv => whnf))
    · intro i hi
      conv => whnf
      repeat (first | refine WA_seq ?_ | (refine WA_region ttok ?_; conv => whnf) | (refine WA_draw ttok mixed ?_; conv => whnf) | (refine WA_cond ?_; conv => whnf) | refine WA_block ?_ | (refine WA_skip ?_; conv => whnf) | (refine WA_exit ?_; conv => whnf) | (refine WA_ret ?_; conv => whnf))
      refine ⟨fun h => ?_, fun h => ?_⟩
      · have h := of_decide_eq_true h
        have h1 : 33 ≤ (s.getD i 0).toNat := (hw i (by omega)).1
        have h2 : (s.getD i 0).toNat ≤ 126 := (hw i (by omega)).2
        have h3 : (s.getD (i : Int).toNat 0).toNat = (s.getD i 0).toNat := rfl
        conv => whnf
        repeat' (first | refine WA_seq ?_ | (refine WA_region ttok ?_; conv => whnf) | (refine WA_draw ttok mixed ?_; conv => whnf) | (refine WA_cond ?_; conv => whnf) | refine WA_block ?_ | (refine WA_skip ?_; conv => whnf) | (refine WA_exit ?_; conv => whnf) | (refine WA_ret ?_; conv => whnf) | (refine And.intro (fun h => ?_) (fun h => ?_) <;> (try simp only [brsA] at h) <;> conv => whnf) | (refine WR_fit ?_ ?_; (focus (first | exact wr_i64 (by omega) | exact wr_u64 (by omega) | exact wr_u8 (by omega) | exact wr_i32 (by omega) | exact wr_u32 (by omega))); conv => whnf) | (refine WR_wrap ?_; conv => whnf) | (refine And.intro (a := indepB _ _ = true) ?_ ?_; (focus kernel_rfl); conv => whnf) | (refine And.intro rfl ?_; conv => whnf) | (refine And.intro ?_ ?_; (focus (first | omega | decide | (dsimp only; omega) | (simp at *; omega))); conv => whnf))
        all_goals first | contradiction | (exfalso; omega) | skip
        refine ⟨i + 1, (by show i + 1 ≤ s.length; omega), (by show s.length - (i + 1) < s.length - i; omega), ?_⟩
        conv => whnf
        repeat (first | exact rfl | exact trivial | exact Or.inl (fun _ _ => rfl) | exact (fun _ => rfl) | exact (fun _ _ => rfl) | exact Or.inl (fun _ hi => absurd hi (Nat.not_lt_zero _)) | (refine And.intro rfl ?_; conv => whnf) | (refine And.intro (Or.inl (fun _ _ => rfl)) ?_; conv => whnf) | (refine And.intro (fun _ => rfl) ?_; conv => whnf) | (refine And.intro (fun _ _ => rfl) ?_; conv => whnf) | (refine And.intro ?_ ?_; rotate_left; conv => whnf))
      · conv => whnf
        repeat' (first | refine WA_seq ?_ | (refine WA_region ttok ?_; conv => whnf) | (refine WA_draw ttok mixed ?_; conv => whnf) | (refine WA_cond ?_; conv => whnf) | refine WA_block ?_ | (refine WA_skip ?_; conv => whnf) | (refine WA_exit ?_; conv => whnf) | (refine WA_ret ?_; conv => whnf) | (refine And.intro (fun h => ?_) (fun h => ?_) <;> (try simp only [brsA] at h) <;> conv => whnf) | (refine WR_fit ?_ ?_; (focus (first | exact wr_i64 (by omega) | exact wr_u64 (by omega) | exact wr_u8 (by omega) | exact wr_i32 (by omega) | exact wr_u32 (by omega))); conv => whnf) | (refine WR_wrap ?_; conv => whnf) | (refine And.intro (a := indepB _ _ = true) ?_ ?_; (focus kernel_rfl); conv => whnf) | (refine And.intro rfl ?_; conv => whnf) | (refine And.intro ?_ ?_; (focus (first | omega | decide | (dsimp only; omega) | (simp at *; omega))); conv => whnf))
        refine decide_eq_decide.2 ?_
        rw [e]; omega
  · have e : ¬ wordP s := fun h => hw fun j hj => h.2 _ (by rw [List.getD_eq_getElem?_getD, List.getElem?_eq_getElem hj]; exact List.getElem_mem _)
    rw [decide_eq_false e]
    refine ACalls.of_WA ttok Tryd.func20 rfl rfl _ rfl ?_
    conv => whnf
    repeat (first | refine WA_seq ?_ | (refine WA_region ttok ?_; conv => whnf) | (refine WA_draw ttok mixed ?_; conv => whnf) | (refine WA_cond ?_; conv => whnf) | refine WA_block ?_ | (refine WA_skip ?_; conv => whnf) | (refine WA_exit ?_; conv => whnf) | (refine WA_ret ?_; conv => whnf))
    refine WA_loopI (fun i : Nat => i ≤ s.length ∧ ∀ j, j < i → okB (s.getD j 0)) (fun i => [(3, .int .i64 (i : Int))]) (fun _ => []) (fun i => s.length - i) 0 ⟨by omega, fun j h => by omega⟩ ?_ ?_
    · conv => whnf
      repeat (first | exact rfl | exact trivial | exact Or.inl (fun _ _ => rfl) | exact (fun _ => rfl) | exact (fun _ _ => rfl) | exact Or.inl (fun _ hi => absurd hi (Nat.not_lt_zero _)) | (refine And.intro rfl ?_; conv => whnf) | (refine And.intro (Or.inl (fun _ _ => rfl)) ?_; conv => whnf) | (refine And.intro (fun _ => rfl) ?_; conv => whnf) | (refine And.intro (fun _ _ => rfl) ?_; conv => whnf) | (refine And.intro ?_ ?_; rotate_left; conv => whnf))
    · rintro i ⟨hi, hI⟩
      conv => whnf
      repeat (first | refine WA_seq ?_ | (refine WA_region ttok ?_; conv => whnf) | (refine WA_draw ttok mixed ?_; conv => whnf) | (refine WA_cond ?_; conv => whnf) | refine WA_block ?_ | (refine WA_skip ?_; conv => whnf) | (refine WA_exit ?_; conv => whnf) | (refine WA_ret ?_; conv => whnf))
      refine ⟨fun h => ?_, fun h => ?_⟩
      · have h := of_decide_eq_true h
        have h3 : (s.getD (i : Int).toNat 0).toNat = (s.getD i 0).toNat := rfl
        conv => whnf
        repeat' (first | refine WA_seq ?_ | (refine WA_region ttok ?_; conv => whnf) | (refine WA_draw ttok mixed ?_; conv => whnf) | (refine WA_cond ?_; conv => whnf) | refine WA_block ?_ | (refine WA_skip ?_; conv => whnf) | (refine WA_exit ?_; conv => whnf) | (refine WA_ret ?_; conv => whnf) | (refine And.intro (fun h => ?_) (fun h => ?_) <;> (try simp only [brsA] at h) <;> conv => whnf) | (refine WR_fit ?_ ?_; (focus (first | exact wr_i64 (by omega) | exact wr_u64 (by omega) | exact wr_u8 (by omega) | exact wr_i32 (by omega) | exact wr_u32 (by omega))); conv => whnf) | (refine WR_wrap ?_; conv => whnf) | (refine And.intro (a := indepB _ _ = true) ?_ ?_; (focus kernel_rfl); conv => whnf) | (refine And.intro rfl ?_; conv => whnf) | (refine And.intro ?_ ?_; (focus (first | omega | decide | (dsimp only; omega) | (simp at *; omega))); conv => whnf))
        all_goals first | contradiction | (exfalso; omega) | skip
        refine ⟨i + 1, ⟨by omega, upto_succ hI ⟨by omega, by omega⟩⟩, (by show s.length - (i + 1) < s.length - i; omega), ?_⟩
        conv => whnf
        repeat (first | exact rfl | exact trivial | exact Or.inl (fun _ _ => rfl) | exact (fun _ => rfl) | exact (fun _ _ => rfl) | exact Or.inl (fun _ hi => absurd hi (Nat.not_lt_zero _)) | (refine And.intro rfl ?_; conv => whnf) | (refine And.intro (Or.inl (fun _ _ => rfl)) ?_; conv => whnf) | (refine And.intro (fun _ => rfl) ?_; conv => whnf) | (refine And.intro (fun _ _ => rfl) ?_; conv => whnf) | (refine And.intro ?_ ?_; rotate_left; conv => whnf))
      · have h := of_decide_eq_false h
        exact absurd (fun j hj => hI j (by omega)) hw
end Go.Proofs.YtfhdmhoeopbhnaaDoor
set_option linter.unusedSimpArgs false
namespace Go.Proofs.YtfhdmhoeopbhnaaDoor
open Go.Proofs.YtfhdmhoeopbhnaaDoor.Am Go.Lib
variable {G : GInv}
set_option maxRecDepth 100000 in
theorem rwords_empty : ACalls Tryd.prog G 19 [.str []] (.tup [.nils, .sb true]) := by
  refine ACalls.of_WA ttok Tryd.func19 rfl rfl _ rfl ?_
  conv => whnf
  repeat' (first | refine WA_seq ?_ | (refine WA_region ttok ?_; conv => whnf) | (refine WA_draw ttok mixed ?_; conv => whnf) | (refine WA_cond ?_; conv => whnf) | refine WA_block ?_ | (refine WA_skip ?_; conv => whnf) | (refine WA_exit ?_; conv => whnf) | (refine WA_ret ?_; conv => whnf) | (refine And.intro (fun h => ?_) (fun h => ?_) <;> (try simp only [brsA] at h) <;> conv => whnf) | (refine WR_fit ?_ ?_; (focus (first | exact wr_i64 (by omega) | exact wr_u64 (by omega) | exact wr_u8 (by omega) | exact wr_i32 (by omega) | exact wr_u32 (by omega))); conv => whnf) | (refine WR_wrap ?_; conv => whnf) | (refine And.intro (a := indepB _ _ = true) ?_ ?_; (focus kernel_rfl); conv => whnf) | (refine And.intro rfl ?_; conv => whnf) | (refine And.intro ?_ ?_; (focus (first | omega | decide | (dsimp only; omega) | (simp at *; omega))); conv => whnf))
  all_goals first | contradiction | (exfalso; omega) | (exact absurd h (by decide)) | skip
set_option maxRecDepth 100000 in
theorem rwords_ok (s : List UInt8) (hs : s.length ≤ 100000) (h0 : s ≠ []) (hw : allW (cutL 32 s)) (b : Bool) (hb : b = decide (s.length ≤ 4096)) : ACalls Tryd.prog G 19 [.str s] (.tup [if b = true then strsA (cutL 32 s) else .nils, .sb b]) := by
  have hsp : ACalls Tryd.prog G 33 [.str s, .int .u8 32] (strsA (cutL 32 s)) := rcut_c s 32 hs
  have hcl := cutL_len 32 s
  have hgl := cutL_get_len 32 s
  have hlp := List.length_pos_iff.2 h0
  by_cases hq : s.length ≤ 4096
  · rw [hb, decide_eq_true hq, if_pos rfl]
    refine ACalls.of_WA ttok Tryd.func19 rfl rfl _ rfl ?_
    conv => whnf
    repeat' (first | refine WA_seq ?_ | (refine WA_region ttok ?_; conv => whnf) | (refine WA_draw ttok mixed ?_; conv => whnf) | (refine WA_cond ?_; conv => whnf) | refine WA_block ?_ | (refine WA_skip ?_; conv => whnf) | (refine WA_exit ?_; conv => whnf) | (refine WA_ret ?_; conv => whnf) | (refine And.intro (fun h => ?_) (fun h => ?_) <;> (try simp only [brsA] at h) <;> conv => whnf) | (refine Or.inl ?_; (conv => whnf); refine Exists.intro _ (And.intro (hsp) ?_); conv => whnf) | (refine Or.inr (Or.inr (Or.inl ?_)); (conv => whnf); refine Exists.intro _ (And.intro (hsp) ?_); conv => whnf) | (refine Exists.intro _ (And.intro (hsp) ?_); conv => whnf) | (refine WR_fit ?_ ?_; (focus (first | exact wr_i64 (by omega) | exact wr_u64 (by omega) | exact wr_u8 (by omega) | exact wr_i32 (by omega) | exact wr_u32 (by omega))); conv => whnf) | (refine WR_wrap ?_; conv => whnf) | (refine And.intro (a := indepB _ _ = true) ?_ ?_; (focus kernel_rfl); conv => whnf) | (refine And.intro rfl ?_; conv => whnf) | (refine And.intro ?_ ?_; (focus (first | omega | decide | (dsimp only; omega) | (simp at *; omega))); conv => whnf))
    all_goals first | contradiction | (exfalso; omega) | skip
    refine WA_loopI (fun i : Nat => i ≤ (cutL 32 s).length) (fun i => [(5, .int .i64 (i : Int))]) (fun _ => []) (fun i => (cutL 32 s).length - i) 0 (by omega) ?_ ?_
    · conv => whnf
      repeat (first | exact rfl | exact trivial | exact Or.inl (fun _ _ => rfl) | exact (fun _ => rfl) | exact (fun _ _ => rfl) | exact Or.inl (fun _ hi => absurd hi (Nat.not_lt_zero _)) | (refine And.intro rfl ?_; conv => whnf) | (refine And.intro (Or.inl (fun _ _ => rfl)) ?_; conv => whnf) | (refine And.intro (fun _ => rfl) ?_; conv => whnf) | (refine And.intro (fun _ _ => rfl) ?_; conv => whnf) | (refine And.intro ?_ ?_; rotate_left; conv => whnf))
    · intro i hi
      conv => whnf
      repeat (first | refine WA_seq ?_ | (refine WA_region ttok ?_; conv => whnf) | (refine WA_draw ttok mixed ?_; conv => whnf) | (refine WA_cond ?_; conv => whnf) | refine WA_block ?_ | (refine WA_skip ?_; conv => whnf) | (refine WA_exit ?_; conv => whnf) | (refine WA_ret ?_; conv => whnf))
      refine ⟨fun h => ?_, fun h => ?_⟩
      · have h := of_decide_eq_true h
        have hc := rword_c (G := G) ((cutL 32 s).getD i []) (by have := hgl i; omega)
        rw [decide_eq_true (hw i (by omega))] at hc
        conv => whnf
        repeat' (first | refine WA_seq ?_ | (refine WA_region ttok ?_; conv => whnf) | (refine WA_draw ttok mixed ?_; conv => whnf) | (refine WA_cond ?_; conv => whnf) | refine WA_block ?_ | (refine WA_skip ?_; conv => whnf) | (refine WA_exit ?_; conv => whnf) | (refine WA_ret ?_; conv => whnf) | (refine And.intro (fun h => ?_) (fun h => ?_) <;> (try simp only [brsA] at h) <;> conv => whnf) | (refine Or.inl ?_; (conv => whnf); refine Exists.intro _ (And.intro (hc) ?_); conv => whnf) | (refine Or.inr (Or.inr (Or.inl ?_)); (conv => whnf); refine Exists.intro _ (And.intro (hc) ?_); conv => whnf) | (refine Exists.intro _ (And.intro (hc) ?_); conv => whnf) | (refine WR_fit ?_ ?_; (focus (first | exact wr_i64 (by omega) | exact wr_u64 (by omega) | exact wr_u8 (by omega) | exact wr_i32 (by omega) | exact wr_u32 (by omega))); conv => whnf) | (refine WR_wrap ?_; conv => whnf) | (refine And.intro (a := indepB _ _ = true) ?_ ?_; (focus kernel_rfl); conv => whnf) | (refine And.intro rfl ?_; conv => whnf) | (refine And.intro ?_ ?_; (focus (first | omega | decide | (dsimp only; omega) | (simp at *; omega))); conv => whnf))
        all_goals first | contradiction | skip
        refine ⟨i + 1, (by show i + 1 ≤ (cutL 32 s).length; omega), (by show (cutL 32 s).length - (i + 1) < (cutL 32 s).length - i; omega), ?_⟩
        conv => whnf
        repeat (first | exact rfl | exact trivial | exact Or.inl (fun _ _ => rfl) | exact (fun _ => rfl) | exact (fun _ _ => rfl) | exact Or.inl (fun _ hi => absurd hi (Nat.not_lt_zero _)) | (refine And.intro rfl ?_; conv => whnf) | (refine And.intro (Or.inl (fun _ _ => rfl)) ?_; conv => whnf) | (refine And.intro (fun _ => rfl) ?_; conv => whnf) | (refine And.intro (fun _ _ => rfl) ?_; conv => whnf) | (refine And.intro ?_ ?_; rotate_left; conv => whnf))
      · conv => whnf
        repeat' (first | refine WA_seq ?_ | (refine WA_region ttok ?_; conv => whnf) | (refine WA_draw ttok mixed ?_; conv => whnf) | (refine WA_cond ?_; conv => whnf) | refine WA_block ?_ | (refine WA_skip ?_; conv => whnf) | (refine WA_exit ?_; conv => whnf) | (refine WA_ret ?_; conv => whnf) | (refine And.intro (fun h => ?_) (fun h => ?_) <;> (try simp only [brsA] at h) <;> conv => whnf) | (refine WR_fit ?_ ?_; (focus (first | exact wr_i64 (by omega) | exact wr_u64 (by omega) | exact wr_u8 (by omega) | exact wr_i32 (by omega) | exact wr_u32 (by omega))); conv => whnf) | (refine WR_wrap ?_; conv => whnf) | (refine And.intro (a := indepB _ _ = true) ?_ ?_; (focus kernel_rfl); conv => whnf) | (refine And.intro rfl ?_; conv => whnf) | (refine And.intro ?_ ?_; (focus (first | omega | decide | (dsimp only; omega) | (simp at *; omega))); conv => whnf))
        all_goals first | contradiction | (exfalso; omega) | skip
        exact ⟨Or.inl fun _ _ => rfl, rfl⟩
  · rw [hb, decide_eq_false hq, if_neg Bool.false_ne_true]
    refine ACalls.of_WA ttok Tryd.func19 rfl rfl _ rfl ?_
    conv => whnf
    repeat' (first | refine WA_seq ?_ | (refine WA_region ttok ?_; conv => whnf) | (refine WA_draw ttok mixed ?_; conv => whnf) | (refine WA_cond ?_; conv => whnf) | refine WA_block ?_ | (refine WA_skip ?_; conv => whnf) | (refine WA_exit ?_; conv => whnf) | (refine WA_ret ?_; conv => whnf) | (refine And.intro (fun h => ?_) (fun h => ?_) <;> (try simp only [brsA] at h) <;> conv => whnf) | (refine Or.inl ?_; (conv => whnf); refine Exists.intro _ (And.intro (hsp) ?_); conv => whnf) | (refine Or.inr (Or.inr (Or.inl ?_)); (conv => whnf); refine Exists.intro _ (And.intro (hsp) ?_); conv => whnf) | (refine Exists.intro _ (And.intro (hsp) ?_); conv => whnf) | (refine WR_fit ?_ ?_; (focus (first | exact wr_i64 (by omega) | exact wr_u64 (by omega) | exact wr_u8 (by omega) | exact wr_i32 (by omega) | exact wr_u32 (by omega))); conv => whnf) | (refine WR_wrap ?_; conv => whnf) | (refine And.intro (a := indepB _ _ = true) ?_ ?_; (focus kernel_rfl); conv => whnf) | (refine And.intro rfl ?_; conv => whnf) | (refine And.intro ?_ ?_; (focus (first | omega | decide | (dsimp only; omega) | (simp at *; omega))); conv => whnf))
    all_goals first | contradiction | (exfalso; omega) | skip
    refine WA_loopI (fun i : Nat => i ≤ (cutL 32 s).length) (fun i => [(5, .int .i64 (i : Int))]) (fun _ => []) (fun i => (cutL 32 s).length - i) 0 (by omega) ?_ ?_
    · conv => whnf
      repeat (first | exact rfl | exact trivial | exact Or.inl (fun _ _ => rfl) | exact (fun _ => rfl) | exact (fun _ _ => rfl) | exact Or.inl (fun _ hi => absurd hi (Nat.not_lt_zero _)) | (refine And.intro rfl ?_; conv => whnf) | (refine And.intro (Or.inl (fun _ _ => rfl)) ?_; conv => whnf) | (refine And.intro (fun _ => rfl) ?_; conv => whnf) | (refine And.intro (fun _ _ => rfl) ?_; conv => whnf) | (refine And.intro ?_ ?_; rotate_left; conv => whnf))
    · intro i hi
      conv => whnf
      repeat (first | refine WA_seq ?_ | (refine WA_region ttok ?_; conv => whnf) | (refine WA_draw ttok mixed ?_; conv => whnf) | (refine WA_cond ?_; conv => whnf) | refine WA_block ?_ | (refine WA_skip ?_; conv => whnf) | (refine WA_exit ?_; conv => whnf) | (refine WA_ret ?_; conv => whnf))
      refine ⟨fun h => ?_, fun h => ?_⟩
      · have h := of_decide_eq_true h
        have hc := rword_c (G := G) ((cutL 32 s).getD i []) (by have := hgl i; omega)
        rw [decide_eq_true (hw i (by omega))] at hc
        conv => whnf
        repeat' (first | refine WA_seq ?_ | (refine WA_region ttok ?_; conv => whnf) | (refine WA_draw ttok mixed ?_; conv => whnf) | (refine WA_cond ?_; conv => whnf) | refine WA_block ?_ | (refine WA_skip ?_; conv => whnf) | (refine WA_exit ?_; conv => whnf) | (refine WA_ret ?_; conv => whnf) | (refine And.intro (fun h => ?_) (fun h => ?_) <;> (try simp only [brsA] at h) <;> conv => whnf) | (refine Or.inl ?_; (conv => whnf); refine Exists.intro _ (And.intro (hc) ?_); conv => whnf) | (refine Or.inr (Or.inr (Or.inl ?_)); (conv => whnf); refine Exists.intro _ (And.intro (hc) ?_); conv => whnf) | (refine Exists.intro _ (And.intro (hc) ?_); conv => whnf) | (refine WR_fit ?_ ?_; (focus (first | exact wr_i64 (by omega) | exact wr_u64 (by omega) | exact wr_u8 (by omega) | exact wr_i32 (by omega) | exact wr_u32 (by omega))); conv => whnf) | (refine WR_wrap ?_; conv => whnf) | (refine And.intro (a := indepB _ _ = true) ?_ ?_; (focus kernel_rfl); conv => whnf) | (refine And.intro rfl ?_; conv => whnf) | (refine And.intro ?_ ?_; (focus (first | omega | decide | (dsimp only; omega) | (simp at *; omega))); conv => whnf))
        all_goals first | contradiction | skip
        refine ⟨i + 1, (by show i + 1 ≤ (cutL 32 s).length; omega), (by show (cutL 32 s).length - (i + 1) < (cutL 32 s).length - i; omega), ?_⟩
        conv => whnf
        repeat (first | exact rfl | exact trivial | exact Or.inl (fun _ _ => rfl) | exact (fun _ => rfl) | exact (fun _ _ => rfl) | exact Or.inl (fun _ hi => absurd hi (Nat.not_lt_zero _)) | (refine And.intro rfl ?_; conv => whnf) | (refine And.intro (Or.inl (fun _ _ => rfl)) ?_; conv => whnf) | (refine And.intro (fun _ => rfl) ?_; conv => whnf) | (refine And.intro (fun _ _ => rfl) ?_; conv => whnf) | (refine And.intro ?_ ?_; rotate_left; conv => whnf))
      · conv => whnf
        repeat' (first | refine WA_seq ?_ | (refine WA_region ttok ?_; conv => whnf) | (refine WA_draw ttok mixed ?_; conv => whnf) | (refine WA_cond ?_; conv => whnf) | refine WA_block ?_ | (refine WA_skip ?_; conv => whnf) | (refine WA_exit ?_; conv => whnf) | (refine WA_ret ?_; conv => whnf) | (refine And.intro (fun h => ?_) (fun h => ?_) <;> (try simp only [brsA] at h) <;> conv => whnf) | (refine WR_fit ?_ ?_; (focus (first | exact wr_i64 (by omega) | exact wr_u64 (by omega) | exact wr_u8 (by omega) | exact wr_i32 (by omega) | exact wr_u32 (by omega))); conv => whnf) | (refine WR_wrap ?_; conv => whnf) | (refine And.intro (a := indepB _ _ = true) ?_ ?_; (focus kernel_rfl); conv => whnf) | (refine And.intro rfl ?_; conv => whnf) | (refine And.intro ?_ ?_; (focus (first | omega | decide | (dsimp only; omega) | (simp at *; omega))); conv => whnf))
        all_goals first | contradiction | (exfalso; omega) | skip
set_option maxRecDepth 100000 in
theorem rwords_bad (s : List UInt8) (hs : s.length ≤ 100000) (h0 : s ≠ []) (hw : ¬ allW (cutL 32 s)) : ACalls Tryd.prog G 19 [.str s] (.tup [.nils, .sb false]) := by
  have hsp : ACalls Tryd.prog G 33 [.str s, .int .u8 32] (strsA (cutL 32 s)) := rcut_c s 32 hs
  have hcl := cutL_len 32 s
  have hgl := cutL_get_len 32 s
  have hlp := List.length_pos_iff.2 h0
  refine ACalls.of_WA ttok Tryd.func19 rfl rfl _ rfl ?_
  conv => whnf
  repeat' (first | refine WA_seq ?_ | (refine WA_region ttok ?_; conv => whnf) | (refine WA_draw ttok mixed ?_; conv => whnf) | (refine WA_cond ?_; conv => whnf) | refine WA_block ?_ | (refine WA_skip ?_; conv => whnf) | (refine WA_exit ?_; conv => whnf) | (refine WA_ret ?_; conv => whnf) | (refine And.intro (fun h => ?_) (fun h => ?_) <;> (try simp only [brsA] at h) <;> conv => whnf) | (refine Or.inl ?_; (conv => whnf); refine Exists.intro _ (And.intro (hsp) ?_); conv => whnf) | (refine Or.inr (Or.inr (Or.inl ?_)); (conv => whnf); refine Exists.intro _ (And.intro (hsp) ?_); conv => whnf) | (refine Exists.intro _ (And.intro (hsp) ?_); conv => whnf) | (refine WR_fit ?_ ?_; (focus (first | exact wr_i64 (by omega) | exact wr_u64 (by omega) | exact wr_u8 (by omega) | exact wr_i32 (by omega) | exact wr_u32 (by omega))); conv => whnf) | (refine WR_wrap ?_; conv => whnf) | (refine And.intro (a := indepB _ _ = true) ?_ ?_; (focus kernel_rfl); conv => whnf) | (refine And.intro rfl ?_; conv => whnf) | (refine And.intro ?_ ?_; (focus (first | omega | decide | (dsimp only; omega) | (simp at *; omega))); conv => whnf))
  all_goals first | contradiction | (exfalso; omega) | skip
  refine WA_loopI (fun i : Nat => i ≤ (cutL 32 s).length ∧ ∀ j, j < i → wordP ((cutL 32 s).getD j [])) (fun i => [(5, .int .i64 (i : Int))]) (fun _ => []) (fun i => (cutL 32 s).length - i) 0 ⟨by omega, fun j h => by omega⟩ ?_ ?_
  · conv => whnf
    repeat (first | exact rfl | exact trivial | exact Or.inl (fun _ _ => rfl) | exact (fun _ => rfl) | exact (fun _ _ => rfl) | exact Or.inl (fun _ hi => absurd hi (Nat.not_lt_zero _)) | (refine And.intro rfl ?_; conv => whnf) | (refine And.intro (Or.inl (fun _ _ => rfl)) ?_; conv => whnf) | (refine And.intro (fun _ => rfl) ?_; conv => whnf) | (refine And.intro (fun _ _ => rfl) ?_; conv => whnf) | (refine And.intro ?_ ?_; rotate_left; conv => whnf))
  · rintro i ⟨hi, hI⟩
    conv => whnf
    repeat (first | refine WA_seq ?_ | (refine WA_region ttok ?_; conv => whnf) | (refine WA_draw ttok mixed ?_; conv => whnf) | (refine WA_cond ?_; conv => whnf) | refine WA_block ?_ | (refine WA_skip ?_; conv => whnf) | (refine WA_exit ?_; conv => whnf) | (refine WA_ret ?_; conv => whnf))
    refine ⟨fun h => ?_, fun h => ?_⟩
    · have h := of_decide_eq_true h
      have hc := rword_c (G := G) ((cutL 32 s).getD i []) (by have := hgl i; omega)
      conv => whnf
      repeat' (first | refine WA_seq ?_ | (refine WA_region ttok ?_; conv => whnf) | (refine WA_draw ttok mixed ?_; conv => whnf) | (refine WA_cond ?_; conv => whnf) | refine WA_block ?_ | (refine WA_skip ?_; conv => whnf) | (refine WA_exit ?_; conv => whnf) | (refine WA_ret ?_; conv => whnf) | (refine And.intro (fun h => ?_) (fun h => ?_) <;> (try simp only [brsA] at h) <;> conv => whnf) | (refine Or.inl ?_; (conv => whnf); refine Exists.intro _ (And.intro (hc) ?_); conv => whnf) | (refine Or.inr (Or.inr (Or.inl ?_)); (conv => whnf); refine Exists.intro _ (And.intro (hc) ?_); conv => whnf) | (refine Exists.intro _ (And.intro (hc) ?_); conv => whnf) | (refine WR_fit ?_ ?_; (focus (first | exact wr_i64 (by omega) | exact wr_u64 (by omega) | exact wr_u8 (by omega) | exact wr_i32 (by omega) | exact wr_u32 (by omega))); conv => whnf) | (refine WR_wrap ?_; conv => whnf) | (refine And.intro (a := indepB _ _ = true) ?_ ?_; (focus kernel_rfl); conv => whnf) | (refine And.intro rfl ?_; conv => whnf) | (refine And.intro ?_ ?_; (focus (first | omega | decide | (dsimp only; omega) | (simp at *; omega))); conv => whnf))
      all_goals first | contradiction | skip
      refine ⟨i + 1, ⟨by omega, upto_succ hI h⟩, (by show (cutL 32 s).length - (i + 1) < (cutL 32 s).length - i; omega), ?_⟩
      conv => whnf
      repeat (first | exact rfl | exact trivial | exact Or.inl (fun _ _ => rfl) | exact (fun _ => rfl) | exact (fun _ _ => rfl) | exact Or.inl (fun _ hi => absurd hi (Nat.not_lt_zero _)) | (refine And.intro rfl ?_; conv => whnf) | (refine And.intro (Or.inl (fun _ _ => rfl)) ?_; conv => whnf) | (refine And.intro (fun _ => rfl) ?_; conv => whnf) | (refine And.intro (fun _ _ => rfl) ?_; conv => whnf) | (refine And.intro ?_ ?_; rotate_left; conv => whnf))
    · have h := of_decide_eq_false h
      exact absurd (fun j hj => hI j (by omega)) hw
/-- What both say of a line's words. -/
theorem both_c (hM : HasMax G) (s : List UInt8) (hs : s.length ≤ 100000) : ∃ (L : A) (e : Int) (b : Bool), ACalls Tryd.prog G 18 [.str s] (.tup [L, .int .i64 e]) ∧ ACalls Tryd.prog G 19 [.str s] (.tup [L, .sb b]) ∧
    ((e = 0 ∧ b = true) ∨ (e = 2 ∧ b = false)) ∧ (L = .nils ∨ ∃ l : List (List UInt8), l.length ≤ 1000000 ∧ L = strsA l) := by
  by_cases h0 : s = []
  · subst h0
    exact ⟨_, _, _, words_empty, rwords_empty, .inl ⟨rfl, rfl⟩, .inl rfl⟩
  · by_cases hw : allW (cutL 32 s)
    · by_cases hq : s.length ≤ 4096
      · have h2 := rwords_ok (G := G) s hs h0 hw true (decide_eq_true hq).symm
        exact ⟨_, _, _, words_ok hM s hq h0 hw, h2, .inl ⟨rfl, rfl⟩, .inr ⟨_, by have := cutL_len 32 s; omega, rfl⟩⟩
      · have h2 := rwords_ok (G := G) s hs h0 hw false (decide_eq_false hq).symm
        exact ⟨_, _, _, words_long s (by omega), h2, .inr ⟨rfl, rfl⟩, .inl rfl⟩
    · by_cases hq : s.length ≤ 4096
      · exact ⟨_, _, _, words_bad hM s hq h0 hw, rwords_bad s hs h0 hw, .inr ⟨rfl, rfl⟩, .inl rfl⟩
      · exact ⟨_, _, _, words_long s (by omega), rwords_bad s hs h0 hw, .inr ⟨rfl, rfl⟩, .inl rfl⟩
set_option maxRecDepth 100000 in
theorem tawake_c (hM : HasMax G) : ACalls Tryd.prog G 13 [] (.sb true) := by
  have h1 := words_ok (G := G) hM [97, 32, 98] (by decide) (by decide) (by decide)
  have h2 := words_bad (G := G) hM [97, 32, 32, 98] (by decide) (by decide) (by decide)
  have h3 := count_c (G := G) [120, 10, 121] (by decide)
  rw [show cutL 32 [97, 32, 98] = [[97], [98]] by decide] at h1
  rw [show (linesL [120, 10, 121]).length = 2 by decide] at h3
  refine ACalls.of_WA ttok Tryd.func13 rfl rfl _ rfl ?_
  conv => whnf
  repeat' (first | refine WA_seq ?_ | (refine WA_region ttok ?_; conv => whnf) | (refine WA_draw ttok mixed ?_; conv => whnf) | (refine WA_cond ?_; conv => whnf) | refine WA_block ?_ | (refine WA_skip ?_; conv => whnf) | (refine WA_exit ?_; conv => whnf) | (refine WA_ret ?_; conv => whnf) | (refine And.intro (fun h => ?_) (fun h => ?_) <;> (try simp only [brsA] at h) <;> conv => whnf) | (refine Or.inl ?_; (conv => whnf); refine Exists.intro _ (And.intro (h1) ?_); conv => whnf) | (refine Or.inr (Or.inr (Or.inl ?_)); (conv => whnf); refine Exists.intro _ (And.intro (h1) ?_); conv => whnf) | (refine Exists.intro _ (And.intro (h1) ?_); conv => whnf) | (refine Or.inl ?_; (conv => whnf); refine Exists.intro _ (And.intro (h2) ?_); conv => whnf) | (refine Or.inr (Or.inr (Or.inl ?_)); (conv => whnf); refine Exists.intro _ (And.intro (h2) ?_); conv => whnf) | (refine Exists.intro _ (And.intro (h2) ?_); conv => whnf) | (refine Or.inl ?_; (conv => whnf); refine Exists.intro _ (And.intro (h3) ?_); conv => whnf) | (refine Or.inr (Or.inr (Or.inl ?_)); (conv => whnf); refine Exists.intro _ (And.intro (h3) ?_); conv => whnf) | (refine Exists.intro _ (And.intro (h3) ?_); conv => whnf) | (refine WR_fit ?_ ?_; (focus (first | exact wr_i64 (by omega) | exact wr_u64 (by omega) | exact wr_u8 (by omega) | exact wr_i32 (by omega) | exact wr_u32 (by omega))); conv => whnf) | (refine WR_wrap ?_; conv => whnf) | (refine And.intro (a := indepB _ _ = true) ?_ ?_; (focus kernel_rfl); conv => whnf) | (refine And.intro rfl ?_; conv => whnf) | (refine And.intro ?_ ?_; (focus (first | omega | decide | (dsimp only; omega) | (simp at *; omega))); conv => whnf))
  all_goals first | contradiction | (exfalso; omega) | rfl | (exact absurd rfl h) | trace_state
end Go.Proofs.YtfhdmhoeopbhnaaDoor

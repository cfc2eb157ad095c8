/-
  The walks of reply.Parse and of its reference; both read the same; the laws' walks.
-/
import Derived.Test.YtagokdeflnkplaaDoorRep1
import Derived.Test.YtagokdeflnkplaaDoorAm4
import Derived.Test.YtagokdeflnkplaaDoorNum3
set_option linter.unusedSimpArgs false
namespace Go.Proofs.YtagokdeflnkplaaDoor
open Go.Proofs.YtagokdeflnkplaaDoor.Am Go.Lib
variable {G : GInv}
/-! ### reply.failed -/
theorem getD_ext {l m : List (List UInt8)} (hl : l.length = m.length) (h : ∀ i, i < l.length → l.getD i [] = m.getD i []) : l = m := by
  refine List.ext_getElem hl fun i h1 h2 => ?_
  have := h i h1
  rw [List.getD_eq_getElem?_getD, List.getD_eq_getElem?_getD, List.getElem?_eq_getElem h1, List.getElem?_eq_getElem h2] at this
  exact this
set_option maxRecDepth 100000 in
set_option maxHeartbeats 2000000 in
theorem equalS_c (l m : List (List UInt8)) (hl : l.length ≤ 1000000) : ACalls Tryd.prog G 75 [strsA l, strsA m] (.sb (decide (l = m))) := by
  refine ACalls.of_WA ttok Tryd.func75 rfl rfl _ rfl ?_
  conv => whnf
  repeat' (first | refine WA_seq ?_ | (refine WA_region ttok ?_; conv => whnf) | (refine WA_draw ttok mixed ?_; conv => whnf) | (refine WA_cond ?_; conv => whnf) | refine WA_block ?_ | (refine WA_skip ?_; conv => whnf) | (refine WA_exit ?_; conv => whnf) | (refine WA_ret ?_; conv => whnf) | (refine And.intro (fun h => ?_) (fun h => ?_) <;> (try simp only [brsA] at h) <;> conv => whnf) | (refine WR_fit ?_ ?_; (focus (first | exact wr_i64 (by omega) | exact wr_u64 (by omega) | exact wr_u8 (by omega) | exact wr_i32 (by omega) | exact wr_u32 (by omega))); conv => whnf) | (refine WR_wrap ?_; conv => whnf) | (refine And.intro (a := indepB _ _ = true) ?_ ?_; (focus kernel_rfl); conv => whnf) | (refine And.intro rfl ?_; conv => whnf) | (refine And.intro ?_ ?_; (focus (first | omega | decide | (dsimp only; omega) | (simp at *; omega))); conv => whnf))
  · exact (decide_eq_false fun e => by subst e; exact h rfl).symm
  refine WA_loopI (fun i : Nat => i ≤ l.length ∧ ∀ j, j < i → l.getD j [] = m.getD j []) (fun i => [(13, .int .i64 (i : Int))]) (fun _ => []) (fun i => l.length - i) 0 ⟨by omega, fun j hj => absurd hj (by omega)⟩ ?_ ?_
  · conv => whnf
    repeat (first | exact rfl | exact trivial | exact Or.inl (fun _ _ => rfl) | exact (fun _ => rfl) | exact (fun _ _ => rfl) | exact Or.inl (fun _ hi => absurd hi (Nat.not_lt_zero _)) | (refine And.intro rfl ?_; conv => whnf) | (refine And.intro (Or.inl (fun _ _ => rfl)) ?_; conv => whnf) | (refine And.intro (fun _ => rfl) ?_; conv => whnf) | (refine And.intro (fun _ _ => rfl) ?_; conv => whnf) | (refine And.intro ?_ ?_; rotate_left; conv => whnf))
  · rintro i ⟨hi, he⟩
    conv => whnf
    repeat' (first | refine WA_seq ?_ | (refine WA_region ttok ?_; conv => whnf) | (refine WA_draw ttok mixed ?_; conv => whnf) | (refine WA_cond ?_; conv => whnf) | refine WA_block ?_ | (refine WA_skip ?_; conv => whnf) | (refine WA_exit ?_; conv => whnf) | (refine WA_ret ?_; conv => whnf) | (refine And.intro (fun h => ?_) (fun h => ?_) <;> (try simp only [brsA] at h) <;> conv => whnf) | (refine WR_fit ?_ ?_; (focus (first | exact wr_i64 (by omega) | exact wr_u64 (by omega) | exact wr_u8 (by omega) | exact wr_i32 (by omega) | exact wr_u32 (by omega))); conv => whnf) | (refine WR_wrap ?_; conv => whnf) | (refine And.intro (a := indepB _ _ = true) ?_ ?_; (focus kernel_rfl); conv => whnf) | (refine And.intro rfl ?_; conv => whnf) | (refine And.intro ?_ ?_; (focus (first | omega | decide | (dsimp only; omega) | (simp at *; omega))); conv => whnf))
    · exact (decide_eq_false fun e => by subst e; exact h rfl).symm
    · refine ⟨i + 1, ⟨by omega, upto_succ he h⟩, (by show l.length - (i + 1) < l.length - i; omega), ?_⟩
      conv => whnf
      repeat (first | exact rfl | exact trivial | exact Or.inl (fun _ _ => rfl) | exact (fun _ => rfl) | exact (fun _ _ => rfl) | exact Or.inl (fun _ hi => absurd hi (Nat.not_lt_zero _)) | (refine And.intro rfl ?_; conv => whnf) | (refine And.intro (Or.inl (fun _ _ => rfl)) ?_; conv => whnf) | (refine And.intro (fun _ => rfl) ?_; conv => whnf) | (refine And.intro (fun _ _ => rfl) ?_; conv => whnf) | (refine And.intro ?_ ?_; rotate_left; conv => whnf))
    · exact (decide_eq_true (getD_ext (by omega) fun j hj => he j (by omega))).symm
def failE (l : List (List UInt8)) : Int := (errOf l).getD 0
theorem failE_err {l : List (List UInt8)} {e : Int} (h : 1 ≤ e ∧ e ≤ 12) (hl : l = errW e) : failE l = e := by
  subst hl
  unfold failE
  rw [errOf_errW h]; rfl
set_option maxRecDepth 100000 in
set_option maxHeartbeats 2000000 in
theorem failed_c (l : List (List UInt8)) (hl : l.length ≤ 1000000) : ACalls Tryd.prog G 41 [strsA l] (.int .i64 (failE l)) := by
  refine ACalls.of_WA ttok Tryd.func41 rfl rfl _ rfl ?_
  conv => whnf
  repeat' (first | refine WA_seq ?_ | (refine WA_region ttok ?_; conv => whnf) | (refine WA_draw ttok mixed ?_; conv => whnf) | (refine WA_cond ?_; conv => whnf) | refine WA_block ?_ | (refine WA_skip ?_; conv => whnf) | (refine WA_exit ?_; conv => whnf) | (refine WA_ret ?_; conv => whnf) | (refine And.intro (fun h => ?_) (fun h => ?_) <;> (try simp only [brsA] at h) <;> conv => whnf) | (refine WR_fit ?_ ?_; (focus (first | exact wr_i64 (by omega) | exact wr_u64 (by omega) | exact wr_u8 (by omega) | exact wr_i32 (by omega) | exact wr_u32 (by omega))); conv => whnf) | (refine WR_wrap ?_; conv => whnf) | (refine And.intro (a := indepB _ _ = true) ?_ ?_; (focus kernel_rfl); conv => whnf) | (refine And.intro rfl ?_; conv => whnf) | (refine And.intro ?_ ?_; (focus (first | omega | decide | (dsimp only; omega) | (simp at *; omega))); conv => whnf))
  refine WA_loopI (fun i : Nat => (1 ≤ i ∧ i ≤ 13) ∧ ∀ e : Int, 1 ≤ e → e < i → l ≠ errW e) (fun i => [(3, .int .i64 (i : Int))]) (fun _ => []) (fun i => 13 - i) 1 ⟨by omega, fun e h1 h2 => absurd h2 (by omega)⟩ ?_ ?_
  · conv => whnf
    repeat (first | exact rfl | exact trivial | exact Or.inl (fun _ _ => rfl) | exact (fun _ => rfl) | exact (fun _ _ => rfl) | exact Or.inl (fun _ hi => absurd hi (Nat.not_lt_zero _)) | (refine And.intro rfl ?_; conv => whnf) | (refine And.intro (Or.inl (fun _ _ => rfl)) ?_; conv => whnf) | (refine And.intro (fun _ => rfl) ?_; conv => whnf) | (refine And.intro (fun _ _ => rfl) ?_; conv => whnf) | (refine And.intro ?_ ?_; rotate_left; conv => whnf))
  · rintro i ⟨hi, he⟩
    by_cases h13 : i = 13
    · subst h13
      have hz : failE l = 0 := by
        unfold failE
        cases hq : errOf l with
        | none => rfl
        | some e =>
          obtain ⟨q1, q2⟩ := errOf_some hq
          exact absurd q2 (he e (by omega) (by omega))
      rw [hz]
      conv => whnf
      repeat' (first | refine WA_seq ?_ | (refine WA_region ttok ?_; conv => whnf) | (refine WA_draw ttok mixed ?_; conv => whnf) | (refine WA_cond ?_; conv => whnf) | refine WA_block ?_ | (refine WA_skip ?_; conv => whnf) | (refine WA_exit ?_; conv => whnf) | (refine WA_ret ?_; conv => whnf) | (refine And.intro (fun h => ?_) (fun h => ?_) <;> (try simp only [brsA] at h) <;> conv => whnf) | (refine WR_fit ?_ ?_; (focus (first | exact wr_i64 (by omega) | exact wr_u64 (by omega) | exact wr_u8 (by omega) | exact wr_i32 (by omega) | exact wr_u32 (by omega))); conv => whnf) | (refine WR_wrap ?_; conv => whnf) | (refine And.intro (a := indepB _ _ = true) ?_ ?_; (focus kernel_rfl); conv => whnf) | (refine And.intro rfl ?_; conv => whnf) | (refine And.intro ?_ ?_; (focus (first | omega | decide | (dsimp only; omega) | (simp at *; omega))); conv => whnf))
      all_goals first | contradiction | (exfalso; omega) | trace_state
    · by_cases h12 : i = 12
      · subst h12
        have hq := equalS_c (G := G) l [wordL 12] hl
        have hq := hq.fit (args' := [strsA l, .sl 1 1 (fun i => takeL 1 (List.drop (i * 1) [A.str (wordL 12)]))]) (by
          conv => whnf
          repeat (first | exact rfl | exact trivial | exact Or.inl (fun _ _ => rfl) | exact (fun _ => rfl) | exact (fun _ _ => rfl) | exact Or.inl (fun _ hi => absurd hi (Nat.not_lt_zero _)) | (refine And.intro rfl ?_; conv => whnf) | (refine And.intro (Or.inl (fun _ _ => rfl)) ?_; conv => whnf) | (refine And.intro (fun _ => rfl) ?_; conv => whnf) | (refine And.intro (fun _ _ => rfl) ?_; conv => whnf) | (refine And.intro ?_ ?_; rotate_left; conv => whnf))
          all_goals (refine Or.inl fun i hi => ?_; rcases i with _ | _ | _ | _ | i <;> first | rfl | omega))
        conv => whnf
        repeat' (first | refine WA_seq ?_ | (refine WA_region ttok ?_; conv => whnf) | (refine WA_draw ttok mixed ?_; conv => whnf) | (refine WA_cond ?_; conv => whnf) | refine WA_block ?_ | (refine WA_skip ?_; conv => whnf) | (refine WA_exit ?_; conv => whnf) | (refine WA_ret ?_; conv => whnf) | (refine And.intro (fun h => ?_) (fun h => ?_) <;> (try simp only [brsA] at h) <;> conv => whnf) | (refine Or.inl ?_; (conv => whnf); refine Exists.intro _ (And.intro (yword_c 12) ?_); conv => whnf) | (refine Or.inr (Or.inr (Or.inl ?_)); (conv => whnf); refine Exists.intro _ (And.intro (yword_c 12) ?_); conv => whnf) | (refine Exists.intro _ (And.intro (yword_c 12) ?_); conv => whnf) | (refine Or.inl ?_; (conv => whnf); refine Exists.intro _ (And.intro (hq) ?_); conv => whnf) | (refine Or.inr (Or.inr (Or.inl ?_)); (conv => whnf); refine Exists.intro _ (And.intro (hq) ?_); conv => whnf) | (refine Exists.intro _ (And.intro (hq) ?_); conv => whnf) | (refine WR_fit ?_ ?_; (focus (first | exact wr_i64 (by omega) | exact wr_u64 (by omega) | exact wr_u8 (by omega) | exact wr_i32 (by omega) | exact wr_u32 (by omega))); conv => whnf) | (refine WR_wrap ?_; conv => whnf) | (refine And.intro (a := indepB _ _ = true) ?_ ?_; (focus kernel_rfl); conv => whnf) | (refine And.intro rfl ?_; conv => whnf) | (refine And.intro ?_ ?_; (focus (first | omega | decide | (dsimp only; omega) | (simp at *; omega))); conv => whnf))
        all_goals first | contradiction | (exfalso; omega) | skip
        · refine ⟨13, ⟨by omega, fun e h1 h2 => ?_⟩, (by show 13 - 13 < 13 - 12; omega), ?_⟩
          · by_cases h3 : e = 12
            · subst h3; exact ‹¬ l = [wordL 12]›
            · exact he e h1 (by omega)
          · conv => whnf
            repeat (first | exact rfl | exact trivial | exact Or.inl (fun _ _ => rfl) | exact (fun _ => rfl) | exact (fun _ _ => rfl) | exact Or.inl (fun _ hi => absurd hi (Nat.not_lt_zero _)) | (refine And.intro rfl ?_; conv => whnf) | (refine And.intro (Or.inl (fun _ _ => rfl)) ?_; conv => whnf) | (refine And.intro (fun _ => rfl) ?_; conv => whnf) | (refine And.intro (fun _ _ => rfl) ?_; conv => whnf) | (refine And.intro ?_ ?_; rotate_left; conv => whnf))
        · exact (failE_err (e := 12) (by omega) ‹l = [wordL 12]›).symm
      · have hE : errW (i : Int) = [wERR, wordL i] := by unfold errW; rw [if_neg (by omega), if_neg (by omega)]
        have hq := equalS_c (G := G) l [wERR, wordL i] hl
        have hq := hq.fit (args' := [strsA l, .sl 2 1 (fun k => takeL 1 (List.drop (k * 1) [.str wERR, A.str (wordL i)]))]) (by
          conv => whnf
          repeat (first | exact rfl | exact trivial | exact Or.inl (fun _ _ => rfl) | exact (fun _ => rfl) | exact (fun _ _ => rfl) | exact Or.inl (fun _ hi => absurd hi (Nat.not_lt_zero _)) | (refine And.intro rfl ?_; conv => whnf) | (refine And.intro (Or.inl (fun _ _ => rfl)) ?_; conv => whnf) | (refine And.intro (fun _ => rfl) ?_; conv => whnf) | (refine And.intro (fun _ _ => rfl) ?_; conv => whnf) | (refine And.intro ?_ ?_; rotate_left; conv => whnf))
          all_goals (refine Or.inl fun i hi => ?_; rcases i with _ | _ | _ | _ | i <;> first | rfl | omega))
        conv => whnf
        repeat' (first | refine WA_seq ?_ | (refine WA_region ttok ?_; conv => whnf) | (refine WA_draw ttok mixed ?_; conv => whnf) | (refine WA_cond ?_; conv => whnf) | refine WA_block ?_ | (refine WA_skip ?_; conv => whnf) | (refine WA_exit ?_; conv => whnf) | (refine WA_ret ?_; conv => whnf) | (refine And.intro (fun h => ?_) (fun h => ?_) <;> (try simp only [brsA] at h) <;> conv => whnf) | (refine Or.inl ?_; (conv => whnf); refine Exists.intro _ (And.intro (yword_c i) ?_); conv => whnf) | (refine Or.inr (Or.inr (Or.inl ?_)); (conv => whnf); refine Exists.intro _ (And.intro (yword_c i) ?_); conv => whnf) | (refine Exists.intro _ (And.intro (yword_c i) ?_); conv => whnf) | (refine Or.inl ?_; (conv => whnf); refine Exists.intro _ (And.intro (hq) ?_); conv => whnf) | (refine Or.inr (Or.inr (Or.inl ?_)); (conv => whnf); refine Exists.intro _ (And.intro (hq) ?_); conv => whnf) | (refine Exists.intro _ (And.intro (hq) ?_); conv => whnf) | (refine WR_fit ?_ ?_; (focus (first | exact wr_i64 (by omega) | exact wr_u64 (by omega) | exact wr_u8 (by omega) | exact wr_i32 (by omega) | exact wr_u32 (by omega))); conv => whnf) | (refine WR_wrap ?_; conv => whnf) | (refine And.intro (a := indepB _ _ = true) ?_ ?_; (focus kernel_rfl); conv => whnf) | (refine And.intro rfl ?_; conv => whnf) | (refine And.intro ?_ ?_; (focus (first | omega | decide | (dsimp only; omega) | (simp at *; omega))); conv => whnf))
        all_goals first | contradiction | (exfalso; omega) | skip
        · exact (failE_err (by omega) (by rw [hE]; assumption)).symm
        · refine ⟨i + 1, ⟨by omega, fun e h1 h2 => ?_⟩, (by show 13 - (i + 1) < 13 - i; omega), ?_⟩
          · by_cases h3 : e = i
            · subst h3; rw [hE]; assumption
            · exact he e h1 (by omega)
          · conv => whnf
            repeat (first | exact rfl | exact trivial | exact Or.inl (fun _ _ => rfl) | exact (fun _ => rfl) | exact (fun _ _ => rfl) | exact Or.inl (fun _ hi => absurd hi (Nat.not_lt_zero _)) | (refine And.intro rfl ?_; conv => whnf) | (refine And.intro (Or.inl (fun _ _ => rfl)) ?_; conv => whnf) | (refine And.intro (fun _ => rfl) ?_; conv => whnf) | (refine And.intro (fun _ _ => rfl) ?_; conv => whnf) | (refine And.intro ?_ ?_; rotate_left; conv => whnf))
end Go.Proofs.YtagokdeflnkplaaDoor
set_option linter.unusedSimpArgs false
namespace Go.Proofs.YtagokdeflnkplaaDoor
open Go.Proofs.YtagokdeflnkplaaDoor.Am Go.Lib
variable {G : GInv}
/-! ### reply.Parse -/
def yres (s : List UInt8) : Int × List Int × Int := match parseR s with
  | some (e, ns) => (e, ns, 0)
  | none => (0, [], 2)
theorem failE_none {l : List (List UInt8)} (h : errOf l = none) : failE l = 0 := by unfold failE; rw [h]; rfl
theorem drop1_get (l : List (List UInt8)) (i : Nat) : (l.drop 1).getD i [] = l.getD (1 + i) [] := by
  rw [List.getD_eq_getElem?_getD, List.getD_eq_getElem?_getD, List.getElem?_drop]
set_option maxRecDepth 100000 in
set_option maxHeartbeats 4000000 in
theorem yparse_ok (hT : HasTab G) (hM : HasMax G) (s : List UInt8) (hs : s.length ≤ 4096) (h0 : s ≠ []) (hw : allW (cutL 32 s)) (hn : errOf (cutL 32 s) = none) (hk : (cutL 32 s).getD 0 [] = wOK) (he : errL ((cutL 32 s).drop 1) = 0) :
    ACalls Tryd.prog G 11 [.str s] (.tup [repA 0 (numL ((cutL 32 s).drop 1)), .int .i64 0]) := by
  have hws := words_ok hM s hs h0 hw
  have hcl := cutL_len 32 s
  have hgl := cutL_get_len 32 s
  have hne := cutL_ne 32 s
  have hf := failed_c (G := G) (cutL 32 s) (by omega)
  rw [failE_none hn] at hf
  have hln := List.length_pos_iff.2 hne
  generalize cutL 32 s = l at *
  have hyw := yword_c (G := G) 0
  rw [show wordL 0 = wOK from rfl] at hyw
  refine ACalls.of_WA ttok Tryd.func11 rfl rfl _ rfl ?_
  conv => whnf
  repeat' (first | refine WA_seq ?_ | (refine WA_region ttok ?_; conv => whnf) | (refine WA_draw ttok mixed ?_; conv => whnf) | (refine WA_cond ?_; conv => whnf) | refine WA_block ?_ | (refine WA_skip ?_; conv => whnf) | (refine WA_exit ?_; conv => whnf) | (refine WA_ret ?_; conv => whnf) | (refine And.intro (fun h => ?_) (fun h => ?_) <;> (try simp only [brsA] at h) <;> conv => whnf) | (refine Or.inl ?_; (conv => whnf); refine Exists.intro _ (And.intro (hws) ?_); conv => whnf) | (refine Or.inr (Or.inr (Or.inl ?_)); (conv => whnf); refine Exists.intro _ (And.intro (hws) ?_); conv => whnf) | (refine Exists.intro _ (And.intro (hws) ?_); conv => whnf) | (refine Or.inl ?_; (conv => whnf); refine Exists.intro _ (And.intro (hf) ?_); conv => whnf) | (refine Or.inr (Or.inr (Or.inl ?_)); (conv => whnf); refine Exists.intro _ (And.intro (hf) ?_); conv => whnf) | (refine Exists.intro _ (And.intro (hf) ?_); conv => whnf) | (refine Or.inl ?_; (conv => whnf); refine Exists.intro _ (And.intro (hyw) ?_); conv => whnf) | (refine Or.inr (Or.inr (Or.inl ?_)); (conv => whnf); refine Exists.intro _ (And.intro (hyw) ?_); conv => whnf) | (refine Exists.intro _ (And.intro (hyw) ?_); conv => whnf) | (refine WR_fit ?_ ?_; (focus (first | exact wr_i64 (by omega) | exact wr_u64 (by omega) | exact wr_u8 (by omega) | exact wr_i32 (by omega) | exact wr_u32 (by omega))); conv => whnf) | (refine WR_wrap ?_; conv => whnf) | (refine And.intro (a := indepB _ _ = true) ?_ ?_; (focus kernel_rfl); conv => whnf) | (refine And.intro rfl ?_; conv => whnf) | (refine And.intro ?_ ?_; (focus (first | omega | decide | (dsimp only; omega) | (simp at *; omega))); conv => whnf))
  all_goals first | contradiction | (exfalso; omega) | skip
  refine WA_nilB 1 1 3 1 rfl rfl ?_
  conv => whnf
  refine WA_loopI (fun i : Nat => i ≤ (l.drop 1).length ∧ errL ((l.drop 1).drop i) = 0) (fun i => [(40, .int .i64 (i : Int))]) (fun i => [.box 26 [.int .i64 0, .nils], .box 26 [.int .i64 0, .own 2], .row 3 1 i (fun j => [.int .i64 ((numL (l.drop 1)).getD j 0)])]) (fun i => (l.drop 1).length - i) 0 ⟨by omega, he⟩ ?_ ?_
  · conv => whnf
    repeat (first | exact rfl | exact trivial | exact Or.inl (fun _ _ => rfl) | exact (fun _ => rfl) | exact (fun _ _ => rfl) | exact Or.inl (fun _ hi => absurd hi (Nat.not_lt_zero _)) | (refine And.intro rfl ?_; conv => whnf) | (refine And.intro (Or.inl (fun _ _ => rfl)) ?_; conv => whnf) | (refine And.intro (fun _ => rfl) ?_; conv => whnf) | (refine And.intro (fun _ _ => rfl) ?_; conv => whnf) | (refine And.intro ?_ ?_; rotate_left; conv => whnf))
  · rintro i ⟨hi, hE⟩
    rw [List.length_drop] at hi
    have hg1 := drop1_get l i
    by_cases hil : i < l.length - 1
    · have hp := parse_c hT (l.getD (1 + i) []) (by have := hgl (1 + i); omega)
      rw [errL_drop (l.drop 1) (by rw [List.length_drop]; omega), hg1] at hE
      have hng := numL_get (l.drop 1) (i := i) (by rw [List.length_drop]; omega)
      rw [hg1] at hng
      by_cases hz : (parseN (l.getD (1 + i) [])).2 = 0
      · rw [if_neg (fun q => q hz)] at hE
        rw [hz] at hp
        conv => whnf
        repeat' (first | refine WA_seq ?_ | (refine WA_region ttok ?_; conv => whnf) | (refine WA_draw ttok mixed ?_; conv => whnf) | (refine WA_cond ?_; conv => whnf) | refine WA_block ?_ | (refine WA_skip ?_; conv => whnf) | (refine WA_exit ?_; conv => whnf) | (refine WA_ret ?_; conv => whnf) | (refine And.intro (fun h => ?_) (fun h => ?_) <;> (try simp only [brsA] at h) <;> conv => whnf) | (refine Or.inl ?_; (conv => whnf); refine Exists.intro _ (And.intro (hp) ?_); conv => whnf) | (refine Or.inr (Or.inr (Or.inl ?_)); (conv => whnf); refine Exists.intro _ (And.intro (hp) ?_); conv => whnf) | (refine Exists.intro _ (And.intro (hp) ?_); conv => whnf) | (refine WR_fit ?_ ?_; (focus (first | exact wr_i64 (by omega) | exact wr_u64 (by omega) | exact wr_u8 (by omega) | exact wr_i32 (by omega) | exact wr_u32 (by omega))); conv => whnf) | (refine WR_wrap ?_; conv => whnf) | (refine And.intro (a := indepB _ _ = true) ?_ ?_; (focus kernel_rfl); conv => whnf) | (refine And.intro rfl ?_; conv => whnf) | (refine And.intro ?_ ?_; (focus (first | omega | decide | (dsimp only; omega) | (simp at *; omega))); conv => whnf))
        all_goals first | contradiction | (exfalso; omega) | skip
        refine ⟨i + 1, ⟨by rw [List.length_drop]; omega, hE⟩, (by show (l.drop 1).length - (i + 1) < (l.drop 1).length - i; rw [List.length_drop]; omega), ?_⟩
        conv => whnf
        repeat (first | exact rfl | exact trivial | exact Or.inl (fun _ _ => rfl) | exact (fun _ => rfl) | exact (fun _ _ => rfl) | exact Or.inl (fun _ hi => absurd hi (Nat.not_lt_zero _)) | (refine And.intro rfl ?_; conv => whnf) | (refine And.intro (Or.inl (fun _ _ => rfl)) ?_; conv => whnf) | (refine And.intro (fun _ => rfl) ?_; conv => whnf) | (refine And.intro (fun _ _ => rfl) ?_; conv => whnf) | (refine And.intro ?_ ?_; rotate_left; conv => whnf))
        refine Or.inl fun j hj => rowInt (numL (l.drop 1)) i _ ?_ j hj
        rw [hng]; rfl
      · rw [if_pos hz] at hE
        exact absurd hE hz
    · conv => whnf
      repeat' (first | refine WA_seq ?_ | (refine WA_region ttok ?_; conv => whnf) | (refine WA_draw ttok mixed ?_; conv => whnf) | (refine WA_cond ?_; conv => whnf) | refine WA_block ?_ | (refine WA_skip ?_; conv => whnf) | (refine WA_exit ?_; conv => whnf) | (refine WA_ret ?_; conv => whnf) | (refine And.intro (fun h => ?_) (fun h => ?_) <;> (try simp only [brsA] at h) <;> conv => whnf) | (refine WR_fit ?_ ?_; (focus (first | exact wr_i64 (by omega) | exact wr_u64 (by omega) | exact wr_u8 (by omega) | exact wr_i32 (by omega) | exact wr_u32 (by omega))); conv => whnf) | (refine WR_wrap ?_; conv => whnf) | (refine And.intro (a := indepB _ _ = true) ?_ ?_; (focus kernel_rfl); conv => whnf) | (refine And.intro rfl ?_; conv => whnf) | (refine And.intro ?_ ?_; (focus (first | omega | decide | (dsimp only; omega) | (simp at *; omega))); conv => whnf))
      all_goals first | contradiction | (exfalso; omega) | skip
      refine ⟨?_, Or.inl fun _ _ => rfl, rfl⟩
      have : (numL (l.drop 1)).length = (l.drop 1).length := by unfold numL; simp
      rw [List.length_drop] at this
      omega
set_option maxRecDepth 100000 in
set_option maxHeartbeats 4000000 in
theorem yparse_bad (hT : HasTab G) (hM : HasMax G) (s : List UInt8) (hs : s.length ≤ 4096) (h0 : s ≠ []) (hw : allW (cutL 32 s)) (hn : errOf (cutL 32 s) = none) (hk : (cutL 32 s).getD 0 [] = wOK) (he : errL ((cutL 32 s).drop 1) ≠ 0) :
    ACalls Tryd.prog G 11 [.str s] (.tup [.agg [.int .i64 0, .nils], .int .i64 2]) := by
  have hws := words_ok hM s hs h0 hw
  have hcl := cutL_len 32 s
  have hgl := cutL_get_len 32 s
  have hne := cutL_ne 32 s
  have hf := failed_c (G := G) (cutL 32 s) (by omega)
  rw [failE_none hn] at hf
  have hln := List.length_pos_iff.2 hne
  generalize cutL 32 s = l at *
  have hyw := yword_c (G := G) 0
  rw [show wordL 0 = wOK from rfl] at hyw
  refine ACalls.of_WA ttok Tryd.func11 rfl rfl _ rfl ?_
  conv => whnf
  repeat' (first | refine WA_seq ?_ | (refine WA_region ttok ?_; conv => whnf) | (refine WA_draw ttok mixed ?_; conv => whnf) | (refine WA_cond ?_; conv => whnf) | refine WA_block ?_ | (refine WA_skip ?_; conv => whnf) | (refine WA_exit ?_; conv => whnf) | (refine WA_ret ?_; conv => whnf) | (refine And.intro (fun h => ?_) (fun h => ?_) <;> (try simp only [brsA] at h) <;> conv => whnf) | (refine Or.inl ?_; (conv => whnf); refine Exists.intro _ (And.intro (hws) ?_); conv => whnf) | (refine Or.inr (Or.inr (Or.inl ?_)); (conv => whnf); refine Exists.intro _ (And.intro (hws) ?_); conv => whnf) | (refine Exists.intro _ (And.intro (hws) ?_); conv => whnf) | (refine Or.inl ?_; (conv => whnf); refine Exists.intro _ (And.intro (hf) ?_); conv => whnf) | (refine Or.inr (Or.inr (Or.inl ?_)); (conv => whnf); refine Exists.intro _ (And.intro (hf) ?_); conv => whnf) | (refine Exists.intro _ (And.intro (hf) ?_); conv => whnf) | (refine Or.inl ?_; (conv => whnf); refine Exists.intro _ (And.intro (hyw) ?_); conv => whnf) | (refine Or.inr (Or.inr (Or.inl ?_)); (conv => whnf); refine Exists.intro _ (And.intro (hyw) ?_); conv => whnf) | (refine Exists.intro _ (And.intro (hyw) ?_); conv => whnf) | (refine WR_fit ?_ ?_; (focus (first | exact wr_i64 (by omega) | exact wr_u64 (by omega) | exact wr_u8 (by omega) | exact wr_i32 (by omega) | exact wr_u32 (by omega))); conv => whnf) | (refine WR_wrap ?_; conv => whnf) | (refine And.intro (a := indepB _ _ = true) ?_ ?_; (focus kernel_rfl); conv => whnf) | (refine And.intro rfl ?_; conv => whnf) | (refine And.intro ?_ ?_; (focus (first | omega | decide | (dsimp only; omega) | (simp at *; omega))); conv => whnf))
  all_goals first | contradiction | (exfalso; omega) | skip
  refine WA_nilB 1 1 3 1 rfl rfl ?_
  conv => whnf
  refine WA_loopI (fun i : Nat => i ≤ (l.drop 1).length ∧ errL ((l.drop 1).drop i) ≠ 0) (fun i => [(40, .int .i64 (i : Int))]) (fun i => [.box 26 [.int .i64 0, .nils], .box 26 [.int .i64 0, .own 2], .row 3 1 i (fun j => [.int .i64 ((numL (l.drop 1)).getD j 0)])]) (fun i => (l.drop 1).length - i) 0 ⟨by omega, he⟩ ?_ ?_
  · conv => whnf
    repeat (first | exact rfl | exact trivial | exact Or.inl (fun _ _ => rfl) | exact (fun _ => rfl) | exact (fun _ _ => rfl) | exact Or.inl (fun _ hi => absurd hi (Nat.not_lt_zero _)) | (refine And.intro rfl ?_; conv => whnf) | (refine And.intro (Or.inl (fun _ _ => rfl)) ?_; conv => whnf) | (refine And.intro (fun _ => rfl) ?_; conv => whnf) | (refine And.intro (fun _ _ => rfl) ?_; conv => whnf) | (refine And.intro ?_ ?_; rotate_left; conv => whnf))
  · rintro i ⟨hi, hE⟩
    rw [List.length_drop] at hi
    have hg1 := drop1_get l i
    by_cases hil : i < l.length - 1
    · have hp := parse_c hT (l.getD (1 + i) []) (by have := hgl (1 + i); omega)
      rw [errL_drop (l.drop 1) (by rw [List.length_drop]; omega), hg1] at hE
      have hng := numL_get (l.drop 1) (i := i) (by rw [List.length_drop]; omega)
      rw [hg1] at hng
      by_cases hz : (parseN (l.getD (1 + i) [])).2 = 0
      · rw [if_neg (fun q => q hz)] at hE
        rw [hz] at hp
        conv => whnf
        repeat' (first | refine WA_seq ?_ | (refine WA_region ttok ?_; conv => whnf) | (refine WA_draw ttok mixed ?_; conv => whnf) | (refine WA_cond ?_; conv => whnf) | refine WA_block ?_ | (refine WA_skip ?_; conv => whnf) | (refine WA_exit ?_; conv => whnf) | (refine WA_ret ?_; conv => whnf) | (refine And.intro (fun h => ?_) (fun h => ?_) <;> (try simp only [brsA] at h) <;> conv => whnf) | (refine Or.inl ?_; (conv => whnf); refine Exists.intro _ (And.intro (hp) ?_); conv => whnf) | (refine Or.inr (Or.inr (Or.inl ?_)); (conv => whnf); refine Exists.intro _ (And.intro (hp) ?_); conv => whnf) | (refine Exists.intro _ (And.intro (hp) ?_); conv => whnf) | (refine WR_fit ?_ ?_; (focus (first | exact wr_i64 (by omega) | exact wr_u64 (by omega) | exact wr_u8 (by omega) | exact wr_i32 (by omega) | exact wr_u32 (by omega))); conv => whnf) | (refine WR_wrap ?_; conv => whnf) | (refine And.intro (a := indepB _ _ = true) ?_ ?_; (focus kernel_rfl); conv => whnf) | (refine And.intro rfl ?_; conv => whnf) | (refine And.intro ?_ ?_; (focus (first | omega | decide | (dsimp only; omega) | (simp at *; omega))); conv => whnf))
        all_goals first | contradiction | (exfalso; omega) | skip
        refine ⟨i + 1, ⟨by rw [List.length_drop]; omega, hE⟩, (by show (l.drop 1).length - (i + 1) < (l.drop 1).length - i; rw [List.length_drop]; omega), ?_⟩
        conv => whnf
        repeat (first | exact rfl | exact trivial | exact Or.inl (fun _ _ => rfl) | exact (fun _ => rfl) | exact (fun _ _ => rfl) | exact Or.inl (fun _ hi => absurd hi (Nat.not_lt_zero _)) | (refine And.intro rfl ?_; conv => whnf) | (refine And.intro (Or.inl (fun _ _ => rfl)) ?_; conv => whnf) | (refine And.intro (fun _ => rfl) ?_; conv => whnf) | (refine And.intro (fun _ _ => rfl) ?_; conv => whnf) | (refine And.intro ?_ ?_; rotate_left; conv => whnf))
        refine Or.inl fun j hj => rowInt (numL (l.drop 1)) i _ ?_ j hj
        rw [hng]; rfl
      · generalize parseN (l.getD (1 + i) []) = pr at *
        obtain ⟨p1, p2⟩ := pr
        simp only at hp hz
        conv => whnf
        repeat' (first | refine WA_seq ?_ | (refine WA_region ttok ?_; conv => whnf) | (refine WA_draw ttok mixed ?_; conv => whnf) | (refine WA_cond ?_; conv => whnf) | refine WA_block ?_ | (refine WA_skip ?_; conv => whnf) | (refine WA_exit ?_; conv => whnf) | (refine WA_ret ?_; conv => whnf) | (refine And.intro (fun h => ?_) (fun h => ?_) <;> (try simp only [brsA] at h) <;> conv => whnf) | (refine Or.inl ?_; (conv => whnf); refine Exists.intro _ (And.intro (hp) ?_); conv => whnf) | (refine Or.inr (Or.inr (Or.inl ?_)); (conv => whnf); refine Exists.intro _ (And.intro (hp) ?_); conv => whnf) | (refine Exists.intro _ (And.intro (hp) ?_); conv => whnf) | (refine WR_fit ?_ ?_; (focus (first | exact wr_i64 (by omega) | exact wr_u64 (by omega) | exact wr_u8 (by omega) | exact wr_i32 (by omega) | exact wr_u32 (by omega))); conv => whnf) | (refine WR_wrap ?_; conv => whnf) | (refine And.intro (a := indepB _ _ = true) ?_ ?_; (focus kernel_rfl); conv => whnf) | (refine And.intro rfl ?_; conv => whnf) | (refine And.intro ?_ ?_; (focus (first | omega | decide | (dsimp only; omega) | (simp at *; omega))); conv => whnf))
        all_goals first | contradiction | (exfalso; omega) | trace_state
    · rw [List.drop_eq_nil_of_le (by rw [List.length_drop]; omega)] at hE
      exact absurd rfl hE

set_option maxRecDepth 100000 in
set_option maxHeartbeats 2000000 in
theorem yparse_long (hM : HasMax G) (s : List UInt8) (h1 : 4096 < s.length) : ACalls Tryd.prog G 11 [.str s] (.tup [.agg [.int .i64 0, .nils], .int .i64 2]) := by
  have hws := words_long (G := G) s h1
  refine ACalls.of_WA ttok Tryd.func11 rfl rfl _ rfl ?_
  conv => whnf
  repeat' (first | refine WA_seq ?_ | (refine WA_region ttok ?_; conv => whnf) | (refine WA_draw ttok mixed ?_; conv => whnf) | (refine WA_cond ?_; conv => whnf) | refine WA_block ?_ | (refine WA_skip ?_; conv => whnf) | (refine WA_exit ?_; conv => whnf) | (refine WA_ret ?_; conv => whnf) | (refine And.intro (fun h => ?_) (fun h => ?_) <;> (try simp only [brsA] at h) <;> conv => whnf) | (refine Or.inl ?_; (conv => whnf); refine Exists.intro _ (And.intro (hws) ?_); conv => whnf) | (refine Or.inr (Or.inr (Or.inl ?_)); (conv => whnf); refine Exists.intro _ (And.intro (hws) ?_); conv => whnf) | (refine Exists.intro _ (And.intro (hws) ?_); conv => whnf) | (refine WR_fit ?_ ?_; (focus (first | exact wr_i64 (by omega) | exact wr_u64 (by omega) | exact wr_u8 (by omega) | exact wr_i32 (by omega) | exact wr_u32 (by omega))); conv => whnf) | (refine WR_wrap ?_; conv => whnf) | (refine And.intro (a := indepB _ _ = true) ?_ ?_; (focus kernel_rfl); conv => whnf) | (refine And.intro rfl ?_; conv => whnf) | (refine And.intro ?_ ?_; (focus (first | omega | decide | (dsimp only; omega) | (simp at *; omega))); conv => whnf))
  all_goals first | contradiction | (exfalso; omega) | (exact absurd trivial ‹_›) | trace_state

set_option maxRecDepth 100000 in
set_option maxHeartbeats 2000000 in
theorem yparse_empty (hM : HasMax G) (s : List UInt8) (h1 : s = []) : ACalls Tryd.prog G 11 [.str s] (.tup [.agg [.int .i64 0, .nils], .int .i64 2]) := by
  subst h1
  have hws := words_empty (G := G)
  refine ACalls.of_WA ttok Tryd.func11 rfl rfl _ rfl ?_
  conv => whnf
  repeat' (first | refine WA_seq ?_ | (refine WA_region ttok ?_; conv => whnf) | (refine WA_draw ttok mixed ?_; conv => whnf) | (refine WA_cond ?_; conv => whnf) | refine WA_block ?_ | (refine WA_skip ?_; conv => whnf) | (refine WA_exit ?_; conv => whnf) | (refine WA_ret ?_; conv => whnf) | (refine And.intro (fun h => ?_) (fun h => ?_) <;> (try simp only [brsA] at h) <;> conv => whnf) | (refine Or.inl ?_; (conv => whnf); refine Exists.intro _ (And.intro (hws) ?_); conv => whnf) | (refine Or.inr (Or.inr (Or.inl ?_)); (conv => whnf); refine Exists.intro _ (And.intro (hws) ?_); conv => whnf) | (refine Exists.intro _ (And.intro (hws) ?_); conv => whnf) | (refine WR_fit ?_ ?_; (focus (first | exact wr_i64 (by omega) | exact wr_u64 (by omega) | exact wr_u8 (by omega) | exact wr_i32 (by omega) | exact wr_u32 (by omega))); conv => whnf) | (refine WR_wrap ?_; conv => whnf) | (refine And.intro (a := indepB _ _ = true) ?_ ?_; (focus kernel_rfl); conv => whnf) | (refine And.intro rfl ?_; conv => whnf) | (refine And.intro ?_ ?_; (focus (first | omega | decide | (dsimp only; omega) | (simp at *; omega))); conv => whnf))
  all_goals first | contradiction | (exfalso; omega) | (exact absurd trivial ‹_›) | trace_state

set_option maxRecDepth 100000 in
set_option maxHeartbeats 2000000 in
theorem yparse_not (hM : HasMax G) (s : List UInt8) (hs : s.length ≤ 4096) (h0 : s ≠ []) (hw : ¬ allW (cutL 32 s)) : ACalls Tryd.prog G 11 [.str s] (.tup [.agg [.int .i64 0, .nils], .int .i64 2]) := by
  have hws := words_bad hM s hs h0 hw
  refine ACalls.of_WA ttok Tryd.func11 rfl rfl _ rfl ?_
  conv => whnf
  repeat' (first | refine WA_seq ?_ | (refine WA_region ttok ?_; conv => whnf) | (refine WA_draw ttok mixed ?_; conv => whnf) | (refine WA_cond ?_; conv => whnf) | refine WA_block ?_ | (refine WA_skip ?_; conv => whnf) | (refine WA_exit ?_; conv => whnf) | (refine WA_ret ?_; conv => whnf) | (refine And.intro (fun h => ?_) (fun h => ?_) <;> (try simp only [brsA] at h) <;> conv => whnf) | (refine Or.inl ?_; (conv => whnf); refine Exists.intro _ (And.intro (hws) ?_); conv => whnf) | (refine Or.inr (Or.inr (Or.inl ?_)); (conv => whnf); refine Exists.intro _ (And.intro (hws) ?_); conv => whnf) | (refine Exists.intro _ (And.intro (hws) ?_); conv => whnf) | (refine WR_fit ?_ ?_; (focus (first | exact wr_i64 (by omega) | exact wr_u64 (by omega) | exact wr_u8 (by omega) | exact wr_i32 (by omega) | exact wr_u32 (by omega))); conv => whnf) | (refine WR_wrap ?_; conv => whnf) | (refine And.intro (a := indepB _ _ = true) ?_ ?_; (focus kernel_rfl); conv => whnf) | (refine And.intro rfl ?_; conv => whnf) | (refine And.intro ?_ ?_; (focus (first | omega | decide | (dsimp only; omega) | (simp at *; omega))); conv => whnf))
  all_goals first | contradiction | (exfalso; omega) | (exact absurd trivial ‹_›) | trace_state

set_option maxRecDepth 100000 in
set_option maxHeartbeats 2000000 in
theorem yparse_head (hM : HasMax G) (s : List UInt8) (hs : s.length ≤ 4096) (h0 : s ≠ []) (hw : allW (cutL 32 s)) (hn : errOf (cutL 32 s) = none) (hk : (cutL 32 s).getD 0 [] ≠ wOK) : ACalls Tryd.prog G 11 [.str s] (.tup [.agg [.int .i64 0, .nils], .int .i64 2]) := by
  have hws := words_ok hM s hs h0 hw
  have hcl := cutL_len 32 s
  have hne := cutL_ne 32 s
  have hf := failed_c (G := G) (cutL 32 s) (by omega)
  rw [failE_none hn] at hf
  have hln := List.length_pos_iff.2 hne
  generalize cutL 32 s = l at *
  have hyw := yword_c (G := G) 0
  rw [show wordL 0 = wOK from rfl] at hyw
  refine ACalls.of_WA ttok Tryd.func11 rfl rfl _ rfl ?_
  conv => whnf
  repeat' (first | refine WA_seq ?_ | (refine WA_region ttok ?_; conv => whnf) | (refine WA_draw ttok mixed ?_; conv => whnf) | (refine WA_cond ?_; conv => whnf) | refine WA_block ?_ | (refine WA_skip ?_; conv => whnf) | (refine WA_exit ?_; conv => whnf) | (refine WA_ret ?_; conv => whnf) | (refine And.intro (fun h => ?_) (fun h => ?_) <;> (try simp only [brsA] at h) <;> conv => whnf) | (refine Or.inl ?_; (conv => whnf); refine Exists.intro _ (And.intro (hws) ?_); conv => whnf) | (refine Or.inr (Or.inr (Or.inl ?_)); (conv => whnf); refine Exists.intro _ (And.intro (hws) ?_); conv => whnf) | (refine Exists.intro _ (And.intro (hws) ?_); conv => whnf) | (refine Or.inl ?_; (conv => whnf); refine Exists.intro _ (And.intro (hf) ?_); conv => whnf) | (refine Or.inr (Or.inr (Or.inl ?_)); (conv => whnf); refine Exists.intro _ (And.intro (hf) ?_); conv => whnf) | (refine Exists.intro _ (And.intro (hf) ?_); conv => whnf) | (refine Or.inl ?_; (conv => whnf); refine Exists.intro _ (And.intro (hyw) ?_); conv => whnf) | (refine Or.inr (Or.inr (Or.inl ?_)); (conv => whnf); refine Exists.intro _ (And.intro (hyw) ?_); conv => whnf) | (refine Exists.intro _ (And.intro (hyw) ?_); conv => whnf) | (refine WR_fit ?_ ?_; (focus (first | exact wr_i64 (by omega) | exact wr_u64 (by omega) | exact wr_u8 (by omega) | exact wr_i32 (by omega) | exact wr_u32 (by omega))); conv => whnf) | (refine WR_wrap ?_; conv => whnf) | (refine And.intro (a := indepB _ _ = true) ?_ ?_; (focus kernel_rfl); conv => whnf) | (refine And.intro rfl ?_; conv => whnf) | (refine And.intro ?_ ?_; (focus (first | omega | decide | (dsimp only; omega) | (simp at *; omega))); conv => whnf))
  all_goals first | contradiction | (exfalso; omega) | (exact absurd trivial ‹_›) | trace_state

set_option maxRecDepth 100000 in
set_option maxHeartbeats 2000000 in
theorem yparse_err (hM : HasMax G) (s : List UInt8) (hs : s.length ≤ 4096) (h0 : s ≠ []) (hw : allW (cutL 32 s)) (e : Int) (hn : errOf (cutL 32 s) = some e) : ACalls Tryd.prog G 11 [.str s] (.tup [.agg [.int .i64 e, .nils], .int .i64 0]) := by
  have hws := words_ok hM s hs h0 hw
  have hcl := cutL_len 32 s
  have hne := cutL_ne 32 s
  have hf := failed_c (G := G) (cutL 32 s) (by omega)
  have h12 := (errOf_some hn).1
  rw [show failE (cutL 32 s) = e by unfold failE; rw [hn]; rfl] at hf
  have hln := List.length_pos_iff.2 hne
  generalize cutL 32 s = l at *
  refine ACalls.of_WA ttok Tryd.func11 rfl rfl _ rfl ?_
  conv => whnf
  repeat' (first | refine WA_seq ?_ | (refine WA_region ttok ?_; conv => whnf) | (refine WA_draw ttok mixed ?_; conv => whnf) | (refine WA_cond ?_; conv => whnf) | refine WA_block ?_ | (refine WA_skip ?_; conv => whnf) | (refine WA_exit ?_; conv => whnf) | (refine WA_ret ?_; conv => whnf) | (refine And.intro (fun h => ?_) (fun h => ?_) <;> (try simp only [brsA] at h) <;> conv => whnf) | (refine Or.inl ?_; (conv => whnf); refine Exists.intro _ (And.intro (hws) ?_); conv => whnf) | (refine Or.inr (Or.inr (Or.inl ?_)); (conv => whnf); refine Exists.intro _ (And.intro (hws) ?_); conv => whnf) | (refine Exists.intro _ (And.intro (hws) ?_); conv => whnf) | (refine Or.inl ?_; (conv => whnf); refine Exists.intro _ (And.intro (hf) ?_); conv => whnf) | (refine Or.inr (Or.inr (Or.inl ?_)); (conv => whnf); refine Exists.intro _ (And.intro (hf) ?_); conv => whnf) | (refine Exists.intro _ (And.intro (hf) ?_); conv => whnf) | (refine WR_fit ?_ ?_; (focus (first | exact wr_i64 (by omega) | exact wr_u64 (by omega) | exact wr_u8 (by omega) | exact wr_i32 (by omega) | exact wr_u32 (by omega))); conv => whnf) | (refine WR_wrap ?_; conv => whnf) | (refine And.intro (a := indepB _ _ = true) ?_ ?_; (focus kernel_rfl); conv => whnf) | (refine And.intro rfl ?_; conv => whnf) | (refine And.intro ?_ ?_; (focus (first | omega | decide | (dsimp only; omega) | (simp at *; omega))); conv => whnf))
  all_goals first | contradiction | (exfalso; omega) | (exact absurd trivial ‹_›) | trace_state
theorem rep_nil {f : Nat} {args : List A} {e z : Int} (h : ACalls Tryd.prog G f args (.tup [.agg [.int .i64 e, .nils], .int .i64 z])) : ACalls Tryd.prog G f args (.tup [repA e [], .int .i64 z]) := by
  refine ⟨h.1, fun im w vs h1 h2 h3 h4 => ?_⟩
  refine Calls_mono (h.2 im w vs h1 h2 h3 h4) ?_
  rintro e' w' ⟨v, e1, e2, e3⟩
  refine ⟨v, e1, ?_, e3⟩
  have := fitA_rel (ids := []) (im' := fun b => im b ∨ (w.heap.size ≤ b ∧ b < w'.heap.size)) (fun _ h => h) 6 0 _ (.tup [repA e [], .int .i64 z]) v (by
    conv => whnf
    repeat (first | exact rfl | exact trivial | exact Or.inl (fun _ _ => rfl) | exact (fun _ => rfl) | exact (fun _ _ => rfl) | exact Or.inl (fun _ hi => absurd hi (Nat.not_lt_zero _)) | (refine And.intro rfl ?_; conv => whnf) | (refine And.intro (Or.inl (fun _ _ => rfl)) ?_; conv => whnf) | (refine And.intro (fun _ => rfl) ?_; conv => whnf) | (refine And.intro (fun _ _ => rfl) ?_; conv => whnf) | (refine And.intro ?_ ?_; rotate_left; conv => whnf))) (.imm e2)
  exact Rel.nil_rel (by simpa using this)
theorem yparse_c (hT : HasTab G) (hM : HasMax G) (s : List UInt8) : ACalls Tryd.prog G 11 [.str s] (.tup [repA (yres s).1 (yres s).2.1, .int .i64 (yres s).2.2]) := by
  unfold yres parseR
  by_cases hs : s.length ≤ 4096
  · by_cases h0 : s = []
    · rw [if_neg (fun h => h.2.1 h0)]
      exact rep_nil (yparse_empty hM s h0)
    · by_cases hw : allW (cutL 32 s)
      · rw [if_pos ⟨hs, h0, hw⟩]
        cases hn : errOf (cutL 32 s) with
        | some e => exact rep_nil (yparse_err hM s hs h0 hw e hn)
        | none =>
          dsimp only
          by_cases hk : (cutL 32 s).getD 0 [] = wOK
          · by_cases he : errL ((cutL 32 s).drop 1) = 0
            · rw [if_pos ⟨hk, he⟩]
              exact yparse_ok hT hM s hs h0 hw hn hk he
            · rw [if_neg (fun h => he h.2)]
              exact rep_nil (yparse_bad hT hM s hs h0 hw hn hk he)
          · rw [if_neg (fun h => hk h.1)]
            exact rep_nil (yparse_head hM s hs h0 hw hn hk)
      · rw [if_neg (fun h => hw h.2.2)]
        exact rep_nil (yparse_not hM s hs h0 hw)
  · rw [if_neg (fun h => hs h.1)]
    exact rep_nil (yparse_long hM s (by omega))
end Go.Proofs.YtagokdeflnkplaaDoor
set_option linter.unusedSimpArgs false
namespace Go.Proofs.YtagokdeflnkplaaDoor
open Go.Proofs.YtagokdeflnkplaaDoor.Am Go.Lib
variable {G : GInv}
/-! ### snicketref40.Parse -/
def lastK (w : List UInt8) : Nat → Int
  | 0 => 0
  | k + 1 => if wordL ((k + 1 : Nat) : Int) = w then ((k + 1 : Nat) : Int) else lastK w k
theorem lastK_spec (w : List UInt8) : ∀ k, k ≤ 12 → (lastK w k = 0 ∨ (1 ≤ lastK w k ∧ lastK w k ≤ k ∧ wordL (lastK w k) = w)) ∧ ∀ e : Int, 1 ≤ e → e ≤ k → wordL e = w → lastK w k = e
  | 0, _ => ⟨Or.inl rfl, fun e h1 h2 _ => absurd h2 (by omega)⟩
  | k + 1, hk => by
    obtain ⟨h1, h2⟩ := lastK_spec w k (by omega)
    unfold lastK
    split
    · rename_i h
      refine ⟨Or.inr ⟨by omega, by omega, h⟩, fun e e1 e2 e3 => ?_⟩
      exact errW_inj (by omega) (by omega) (h.trans e3.symm)
    · rename_i h
      refine ⟨?_, fun e e1 e2 e3 => ?_⟩
      · rcases h1 with h1 | ⟨a, b, c⟩
        · exact Or.inl h1
        · exact Or.inr ⟨a, by omega, c⟩
      · by_cases hq : e = ((k + 1 : Nat) : Int)
        · subst hq; exact absurd e3 h
        · exact h2 e e1 (by omega) e3
theorem lastK_next (w : List UInt8) (i : Nat) (h : 1 ≤ i) : lastK w i = if wordL (i : Int) = w then (i : Int) else lastK w (i - 1) := by
  obtain ⟨k, rfl⟩ : ∃ k, i = k + 1 := ⟨i - 1, by omega⟩
  rfl

set_option maxRecDepth 100000 in
set_option maxHeartbeats 4000000 in
theorem ryp_err (s : List UInt8) (hs : s.length ≤ 4096) (h0 : s ≠ []) (hw : allW (cutL 32 s)) (E : Int) (hE : lastK ((cutL 32 s).getD (((cutL 32 s).length : Int) - 1).toNat []) 12 = E) (h12 : 1 ≤ E ∧ E ≤ 12) (b : Bool) (hb : b = decide (join (errW E) [32] = s)) :
    ACalls Tryd.prog G 12 [.str s] (.tup [.agg [.int .i64 (if b = true then E else 0), .nils], .sb b]) := by
  have hL := ryline_c (G := G) E [] (by omega) (fun i hi => absurd hi (Nat.not_lt_zero _)) (by decide)
  rw [show wordsOf E [] = errW E by unfold wordsOf; simp] at hL
  have hL := hL.fit (args' := [.agg [.int .i64 E, .nils]]) (by
    conv => whnf
    repeat (first | exact rfl | exact trivial | exact Or.inl (fun _ _ => rfl) | exact (fun _ => rfl) | exact (fun _ _ => rfl) | exact Or.inl (fun _ hi => absurd hi (Nat.not_lt_zero _)) | (refine And.intro rfl ?_; conv => whnf) | (refine And.intro (Or.inl (fun _ _ => rfl)) ?_; conv => whnf) | (refine And.intro (fun _ => rfl) ?_; conv => whnf) | (refine And.intro (fun _ _ => rfl) ?_; conv => whnf) | (refine And.intro ?_ ?_; rotate_left; conv => whnf)))
  have hws := rwords_ok (G := G) s (by omega) h0 hw true (decide_eq_true hs).symm
  rw [if_pos rfl] at hws
  have hcl := cutL_len 32 s
  have hgl := cutL_get_len 32 s
  have hne := cutL_ne 32 s
  have hln := List.length_pos_iff.2 hne
  generalize cutL 32 s = l at *
  refine ACalls.of_WA ttok Tryd.func12 rfl rfl _ rfl ?_
  conv => whnf
  repeat' (first | refine WA_seq ?_ | (refine WA_region ttok ?_; conv => whnf) | (refine WA_draw ttok mixed ?_; conv => whnf) | (refine WA_cond ?_; conv => whnf) | refine WA_block ?_ | (refine WA_skip ?_; conv => whnf) | (refine WA_exit ?_; conv => whnf) | (refine WA_ret ?_; conv => whnf) | (refine And.intro (fun h => ?_) (fun h => ?_) <;> (try simp only [brsA] at h) <;> conv => whnf) | (refine Or.inl ?_; (conv => whnf); refine Exists.intro _ (And.intro (hws) ?_); conv => whnf) | (refine Or.inr (Or.inr (Or.inl ?_)); (conv => whnf); refine Exists.intro _ (And.intro (hws) ?_); conv => whnf) | (refine Exists.intro _ (And.intro (hws) ?_); conv => whnf) | (refine WR_fit ?_ ?_; (focus (first | exact wr_i64 (by omega) | exact wr_u64 (by omega) | exact wr_u8 (by omega) | exact wr_i32 (by omega) | exact wr_u32 (by omega))); conv => whnf) | (refine WR_wrap ?_; conv => whnf) | (refine And.intro (a := indepB _ _ = true) ?_ ?_; (focus kernel_rfl); conv => whnf) | (refine And.intro rfl ?_; conv => whnf) | (refine And.intro ?_ ?_; (focus (first | omega | decide | (dsimp only; omega) | (simp at *; omega))); conv => whnf))
  all_goals first | contradiction | (exfalso; omega) | skip
  refine WA_loopI (fun x : Nat × Int => match x with | (i, c) => (1 ≤ i ∧ i ≤ 13) ∧ c = lastK (l.getD ((l.length : Int) - 1).toNat []) (i - 1)) (fun x => match x with | (i, c) => [(7, .int .i64 (i : Int))]) (fun x => match x with | (i, c) => [.box 26 [.int .i64 0, .nils], .box 26 [.int .i64 c, .nils]]) (fun x => 13 - x.1) (1, 0) ⟨by omega, rfl⟩ ?_ ?_
  · conv => whnf
    repeat (first | exact rfl | exact trivial | exact Or.inl (fun _ _ => rfl) | exact (fun _ => rfl) | exact (fun _ _ => rfl) | exact Or.inl (fun _ hi => absurd hi (Nat.not_lt_zero _)) | (refine And.intro rfl ?_; conv => whnf) | (refine And.intro (Or.inl (fun _ _ => rfl)) ?_; conv => whnf) | (refine And.intro (fun _ => rfl) ?_; conv => whnf) | (refine And.intro (fun _ _ => rfl) ?_; conv => whnf) | (refine And.intro ?_ ?_; rotate_left; conv => whnf))
  · rintro ⟨i, c⟩ ⟨hi, hc⟩
    by_cases h13 : i = 13
    · subst h13
      have hcE : c = E := by rw [hc]; exact hE
      subst hcE
      conv => whnf
      repeat' (first | refine WA_seq ?_ | (refine WA_region ttok ?_; conv => whnf) | (refine WA_draw ttok mixed ?_; conv => whnf) | (refine WA_cond ?_; conv => whnf) | refine WA_block ?_ | (refine WA_skip ?_; conv => whnf) | (refine WA_exit ?_; conv => whnf) | (refine WA_ret ?_; conv => whnf) | (refine And.intro (fun h => ?_) (fun h => ?_) <;> (try simp only [brsA] at h) <;> conv => whnf) | (refine WR_fit ?_ ?_; (focus (first | exact wr_i64 (by omega) | exact wr_u64 (by omega) | exact wr_u8 (by omega) | exact wr_i32 (by omega) | exact wr_u32 (by omega))); conv => whnf) | (refine WR_wrap ?_; conv => whnf) | (refine And.intro (a := indepB _ _ = true) ?_ ?_; (focus kernel_rfl); conv => whnf) | (refine And.intro rfl ?_; conv => whnf) | (refine And.intro ?_ ?_; (focus (first | omega | decide | (dsimp only; omega) | (simp at *; omega))); conv => whnf))
      all_goals first | contradiction | (exfalso; omega) | skip
      refine WA_loopI (fun i : Nat => i = 1) (fun i => [(8, .int .i64 (i : Int))]) (fun i => [.box 26 [.int .i64 0, .nils], .box 26 [.int .i64 c, .nils]]) (fun i => i) 1 rfl ?_ ?_
      · conv => whnf
        repeat (first | exact rfl | exact trivial | exact Or.inl (fun _ _ => rfl) | exact (fun _ => rfl) | exact (fun _ _ => rfl) | exact Or.inl (fun _ hi => absurd hi (Nat.not_lt_zero _)) | (refine And.intro rfl ?_; conv => whnf) | (refine And.intro (Or.inl (fun _ _ => rfl)) ?_; conv => whnf) | (refine And.intro (fun _ => rfl) ?_; conv => whnf) | (refine And.intro (fun _ _ => rfl) ?_; conv => whnf) | (refine And.intro ?_ ?_; rotate_left; conv => whnf))
      · intro i hi1
        subst hi1
        conv => whnf
        repeat' (first | refine WA_seq ?_ | (refine WA_region ttok ?_; conv => whnf) | (refine WA_draw ttok mixed ?_; conv => whnf) | (refine WA_cond ?_; conv => whnf) | refine WA_block ?_ | (refine WA_skip ?_; conv => whnf) | (refine WA_exit ?_; conv => whnf) | (refine WA_ret ?_; conv => whnf) | (refine And.intro (fun h => ?_) (fun h => ?_) <;> (try simp only [brsA] at h) <;> conv => whnf) | (refine Or.inl ?_; (conv => whnf); refine Exists.intro _ (And.intro (hL) ?_); conv => whnf) | (refine Or.inr (Or.inr (Or.inl ?_)); (conv => whnf); refine Exists.intro _ (And.intro (hL) ?_); conv => whnf) | (refine Exists.intro _ (And.intro (hL) ?_); conv => whnf) | (refine WR_fit ?_ ?_; (focus (first | exact wr_i64 (by omega) | exact wr_u64 (by omega) | exact wr_u8 (by omega) | exact wr_i32 (by omega) | exact wr_u32 (by omega))); conv => whnf) | (refine WR_wrap ?_; conv => whnf) | (refine And.intro (a := indepB _ _ = true) ?_ ?_; (focus kernel_rfl); conv => whnf) | (refine And.intro rfl ?_; conv => whnf) | (refine And.intro ?_ ?_; (focus (first | omega | decide | (dsimp only; omega) | (simp at *; omega))); conv => whnf))
        all_goals first | contradiction | (exfalso; omega) | skip
        all_goals first
          | (rw [decide_eq_false ‹¬ join _ _ = s›] at hb; subst hb; exact ⟨rfl, rfl⟩)
          | (rw [decide_eq_true ‹join _ _ = s›] at hb; subst hb; exact ⟨rfl, rfl⟩)
          | trace_state
    · have hn := lastK_next (l.getD ((l.length : Int) - 1).toNat []) i (by omega)
      conv => whnf
      repeat' (first | refine WA_seq ?_ | (refine WA_region ttok ?_; conv => whnf) | (refine WA_draw ttok mixed ?_; conv => whnf) | (refine WA_cond ?_; conv => whnf) | refine WA_block ?_ | (refine WA_skip ?_; conv => whnf) | (refine WA_exit ?_; conv => whnf) | (refine WA_ret ?_; conv => whnf) | (refine And.intro (fun h => ?_) (fun h => ?_) <;> (try simp only [brsA] at h) <;> conv => whnf) | (refine Or.inl ?_; (conv => whnf); refine Exists.intro _ (And.intro (ryword_c i) ?_); conv => whnf) | (refine Or.inr (Or.inr (Or.inl ?_)); (conv => whnf); refine Exists.intro _ (And.intro (ryword_c i) ?_); conv => whnf) | (refine Exists.intro _ (And.intro (ryword_c i) ?_); conv => whnf) | (refine WR_fit ?_ ?_; (focus (first | exact wr_i64 (by omega) | exact wr_u64 (by omega) | exact wr_u8 (by omega) | exact wr_i32 (by omega) | exact wr_u32 (by omega))); conv => whnf) | (refine WR_wrap ?_; conv => whnf) | (refine And.intro (a := indepB _ _ = true) ?_ ?_; (focus kernel_rfl); conv => whnf) | (refine And.intro rfl ?_; conv => whnf) | (refine And.intro ?_ ?_; (focus (first | omega | decide | (dsimp only; omega) | (simp at *; omega))); conv => whnf))
      all_goals first | contradiction | (exfalso; omega) | skip
      · rw [if_pos ‹wordL (i : Int) = _›] at hn
        refine ⟨(i + 1, (i : Int)), ⟨by omega, hn.symm⟩, (by show 13 - (i + 1) < 13 - i; omega), ?_⟩
        conv => whnf
        repeat (first | exact rfl | exact trivial | exact Or.inl (fun _ _ => rfl) | exact (fun _ => rfl) | exact (fun _ _ => rfl) | exact Or.inl (fun _ hi => absurd hi (Nat.not_lt_zero _)) | (refine And.intro rfl ?_; conv => whnf) | (refine And.intro (Or.inl (fun _ _ => rfl)) ?_; conv => whnf) | (refine And.intro (fun _ => rfl) ?_; conv => whnf) | (refine And.intro (fun _ _ => rfl) ?_; conv => whnf) | (refine And.intro ?_ ?_; rotate_left; conv => whnf))
      · rw [if_neg ‹¬ wordL (i : Int) = _›] at hn
        refine ⟨(i + 1, c), ⟨by omega, hc.trans hn.symm⟩, (by show 13 - (i + 1) < 13 - i; omega), ?_⟩
        conv => whnf
        repeat (first | exact rfl | exact trivial | exact Or.inl (fun _ _ => rfl) | exact (fun _ => rfl) | exact (fun _ _ => rfl) | exact Or.inl (fun _ hi => absurd hi (Nat.not_lt_zero _)) | (refine And.intro rfl ?_; conv => whnf) | (refine And.intro (Or.inl (fun _ _ => rfl)) ?_; conv => whnf) | (refine And.intro (fun _ => rfl) ?_; conv => whnf) | (refine And.intro (fun _ _ => rfl) ?_; conv => whnf) | (refine And.intro ?_ ?_; rotate_left; conv => whnf))

set_option maxRecDepth 100000 in
set_option maxHeartbeats 4000000 in
theorem ryp_bad (s : List UInt8) (hs : s.length ≤ 4096) (h0 : s ≠ []) (hw : allW (cutL 32 s)) (E : Int) (hE : lastK ((cutL 32 s).getD (((cutL 32 s).length : Int) - 1).toNat []) 12 = E) (hz : E = 0) (he : errL ((cutL 32 s).drop 1) ≠ 0) :
    ACalls Tryd.prog G 12 [.str s] (.tup [.agg [.int .i64 0, .nils], .sb false]) := by
  subst hz
  have hws := rwords_ok (G := G) s (by omega) h0 hw true (decide_eq_true hs).symm
  rw [if_pos rfl] at hws
  have hcl := cutL_len 32 s
  have hgl := cutL_get_len 32 s
  have hne := cutL_ne 32 s
  have hln := List.length_pos_iff.2 hne
  generalize cutL 32 s = l at *
  refine ACalls.of_WA ttok Tryd.func12 rfl rfl _ rfl ?_
  conv => whnf
  repeat' (first | refine WA_seq ?_ | (refine WA_region ttok ?_; conv => whnf) | (refine WA_draw ttok mixed ?_; conv => whnf) | (refine WA_cond ?_; conv => whnf) | refine WA_block ?_ | (refine WA_skip ?_; conv => whnf) | (refine WA_exit ?_; conv => whnf) | (refine WA_ret ?_; conv => whnf) | (refine And.intro (fun h => ?_) (fun h => ?_) <;> (try simp only [brsA] at h) <;> conv => whnf) | (refine Or.inl ?_; (conv => whnf); refine Exists.intro _ (And.intro (hws) ?_); conv => whnf) | (refine Or.inr (Or.inr (Or.inl ?_)); (conv => whnf); refine Exists.intro _ (And.intro (hws) ?_); conv => whnf) | (refine Exists.intro _ (And.intro (hws) ?_); conv => whnf) | (refine WR_fit ?_ ?_; (focus (first | exact wr_i64 (by omega) | exact wr_u64 (by omega) | exact wr_u8 (by omega) | exact wr_i32 (by omega) | exact wr_u32 (by omega))); conv => whnf) | (refine WR_wrap ?_; conv => whnf) | (refine And.intro (a := indepB _ _ = true) ?_ ?_; (focus kernel_rfl); conv => whnf) | (refine And.intro rfl ?_; conv => whnf) | (refine And.intro ?_ ?_; (focus (first | omega | decide | (dsimp only; omega) | (simp at *; omega))); conv => whnf))
  all_goals first | contradiction | (exfalso; omega) | skip
  refine WA_loopI (fun x : Nat × Int => match x with | (i, c) => (1 ≤ i ∧ i ≤ 13) ∧ c = lastK (l.getD ((l.length : Int) - 1).toNat []) (i - 1)) (fun x => match x with | (i, c) => [(7, .int .i64 (i : Int))]) (fun x => match x with | (i, c) => [.box 26 [.int .i64 0, .nils], .box 26 [.int .i64 c, .nils]]) (fun x => 13 - x.1) (1, 0) ⟨by omega, rfl⟩ ?_ ?_
  · conv => whnf
    repeat (first | exact rfl | exact trivial | exact Or.inl (fun _ _ => rfl) | exact (fun _ => rfl) | exact (fun _ _ => rfl) | exact Or.inl (fun _ hi => absurd hi (Nat.not_lt_zero _)) | (refine And.intro rfl ?_; conv => whnf) | (refine And.intro (Or.inl (fun _ _ => rfl)) ?_; conv => whnf) | (refine And.intro (fun _ => rfl) ?_; conv => whnf) | (refine And.intro (fun _ _ => rfl) ?_; conv => whnf) | (refine And.intro ?_ ?_; rotate_left; conv => whnf))
  · rintro ⟨i, c⟩ ⟨hi, hc⟩
    by_cases h13 : i = 13
    · subst h13
      have hcE : c = 0 := by rw [hc]; exact hE
      subst hcE
      conv => whnf
      repeat' (first | refine WA_seq ?_ | (refine WA_region ttok ?_; conv => whnf) | (refine WA_draw ttok mixed ?_; conv => whnf) | (refine WA_cond ?_; conv => whnf) | refine WA_block ?_ | (refine WA_skip ?_; conv => whnf) | (refine WA_exit ?_; conv => whnf) | (refine WA_ret ?_; conv => whnf) | (refine And.intro (fun h => ?_) (fun h => ?_) <;> (try simp only [brsA] at h) <;> conv => whnf) | (refine WR_fit ?_ ?_; (focus (first | exact wr_i64 (by omega) | exact wr_u64 (by omega) | exact wr_u8 (by omega) | exact wr_i32 (by omega) | exact wr_u32 (by omega))); conv => whnf) | (refine WR_wrap ?_; conv => whnf) | (refine And.intro (a := indepB _ _ = true) ?_ ?_; (focus kernel_rfl); conv => whnf) | (refine And.intro rfl ?_; conv => whnf) | (refine And.intro ?_ ?_; (focus (first | omega | decide | (dsimp only; omega) | (simp at *; omega))); conv => whnf))
      all_goals first | contradiction | (exfalso; omega) | skip
      refine WA_nilB 1 1 3 1 rfl rfl ?_
      conv => whnf
      refine WA_loopI (fun i : Nat => (1 ≤ i ∧ i ≤ l.length) ∧ errL ((l.drop 1).drop (i - 1)) ≠ 0) (fun i => [(8, .int .i64 (i : Int))]) (fun i => [.box 26 [.int .i64 0, .nils], .box 26 [.int .i64 0, .own 2], .row 3 1 (i - 1) (fun j => [.int .i64 ((numL (l.drop 1)).getD j 0)])]) (fun i => l.length - i) 1 ⟨by omega, he⟩ ?_ ?_
      · conv => whnf
        repeat (first | exact rfl | exact trivial | exact Or.inl (fun _ _ => rfl) | exact (fun _ => rfl) | exact (fun _ _ => rfl) | exact Or.inl (fun _ hi => absurd hi (Nat.not_lt_zero _)) | (refine And.intro rfl ?_; conv => whnf) | (refine And.intro (Or.inl (fun _ _ => rfl)) ?_; conv => whnf) | (refine And.intro (fun _ => rfl) ?_; conv => whnf) | (refine And.intro (fun _ _ => rfl) ?_; conv => whnf) | (refine And.intro ?_ ?_; rotate_left; conv => whnf))
      · rintro i ⟨hi1, hE1⟩
        obtain ⟨k, rfl⟩ : ∃ k, i = k + 1 := ⟨i - 1, by omega⟩
        simp only [Nat.add_sub_cancel] at hE1
        have hg1 := drop1_get l k
        by_cases hil : k + 1 < l.length
        · have hp := rparse_c (G := G) (l.getD (k + 1) []) (by have := hgl (k + 1); omega)
          rw [errL_drop (l.drop 1) (by rw [List.length_drop]; omega), hg1, Nat.add_comm 1 k] at hE1
          have hng := numL_get (l.drop 1) (i := k) (by rw [List.length_drop]; omega)
          rw [hg1, Nat.add_comm 1 k] at hng
          by_cases hz : (parseN (l.getD (k + 1) [])).2 = 0
          · rw [if_neg (fun q => q hz)] at hE1
            rw [hz] at hp
            conv => whnf
            repeat' (first | refine WA_seq ?_ | (refine WA_region ttok ?_; conv => whnf) | (refine WA_draw ttok mixed ?_; conv => whnf) | (refine WA_cond ?_; conv => whnf) | refine WA_block ?_ | (refine WA_skip ?_; conv => whnf) | (refine WA_exit ?_; conv => whnf) | (refine WA_ret ?_; conv => whnf) | (refine And.intro (fun h => ?_) (fun h => ?_) <;> (try simp only [brsA] at h) <;> conv => whnf) | (refine Or.inl ?_; (conv => whnf); refine Exists.intro _ (And.intro (hp) ?_); conv => whnf) | (refine Or.inr (Or.inr (Or.inl ?_)); (conv => whnf); refine Exists.intro _ (And.intro (hp) ?_); conv => whnf) | (refine Exists.intro _ (And.intro (hp) ?_); conv => whnf) | (refine WR_fit ?_ ?_; (focus (first | exact wr_i64 (by omega) | exact wr_u64 (by omega) | exact wr_u8 (by omega) | exact wr_i32 (by omega) | exact wr_u32 (by omega))); conv => whnf) | (refine WR_wrap ?_; conv => whnf) | (refine And.intro (a := indepB _ _ = true) ?_ ?_; (focus kernel_rfl); conv => whnf) | (refine And.intro rfl ?_; conv => whnf) | (refine And.intro ?_ ?_; (focus (first | omega | decide | (dsimp only; omega) | (simp at *; omega))); conv => whnf))
            all_goals first | contradiction | (exfalso; omega) | skip
            refine ⟨k + 2, ⟨by omega, hE1⟩, (by show l.length - (k + 2) < l.length - (k + 1); omega), ?_⟩
            conv => whnf
            repeat (first | exact rfl | exact trivial | exact Or.inl (fun _ _ => rfl) | exact (fun _ => rfl) | exact (fun _ _ => rfl) | exact Or.inl (fun _ hi => absurd hi (Nat.not_lt_zero _)) | (refine And.intro rfl ?_; conv => whnf) | (refine And.intro (Or.inl (fun _ _ => rfl)) ?_; conv => whnf) | (refine And.intro (fun _ => rfl) ?_; conv => whnf) | (refine And.intro (fun _ _ => rfl) ?_; conv => whnf) | (refine And.intro ?_ ?_; rotate_left; conv => whnf))
            refine Or.inl fun j hj => rowInt (numL (l.drop 1)) k _ ?_ j hj
            rw [hng]; rfl
          · generalize parseN (l.getD (k + 1) []) = pr at *
            obtain ⟨p1, p2⟩ := pr
            simp only at hp hz
            conv => whnf
            repeat' (first | refine WA_seq ?_ | (refine WA_region ttok ?_; conv => whnf) | (refine WA_draw ttok mixed ?_; conv => whnf) | (refine WA_cond ?_; conv => whnf) | refine WA_block ?_ | (refine WA_skip ?_; conv => whnf) | (refine WA_exit ?_; conv => whnf) | (refine WA_ret ?_; conv => whnf) | (refine And.intro (fun h => ?_) (fun h => ?_) <;> (try simp only [brsA] at h) <;> conv => whnf) | (refine Or.inl ?_; (conv => whnf); refine Exists.intro _ (And.intro (hp) ?_); conv => whnf) | (refine Or.inr (Or.inr (Or.inl ?_)); (conv => whnf); refine Exists.intro _ (And.intro (hp) ?_); conv => whnf) | (refine Exists.intro _ (And.intro (hp) ?_); conv => whnf) | (refine WR_fit ?_ ?_; (focus (first | exact wr_i64 (by omega) | exact wr_u64 (by omega) | exact wr_u8 (by omega) | exact wr_i32 (by omega) | exact wr_u32 (by omega))); conv => whnf) | (refine WR_wrap ?_; conv => whnf) | (refine And.intro (a := indepB _ _ = true) ?_ ?_; (focus kernel_rfl); conv => whnf) | (refine And.intro rfl ?_; conv => whnf) | (refine And.intro ?_ ?_; (focus (first | omega | decide | (dsimp only; omega) | (simp at *; omega))); conv => whnf))
            all_goals first | contradiction | (exfalso; omega) | trace_state
        · rw [List.drop_eq_nil_of_le (by rw [List.length_drop]; omega)] at hE1
          exact absurd rfl hE1
    · have hn := lastK_next (l.getD ((l.length : Int) - 1).toNat []) i (by omega)
      conv => whnf
      repeat' (first | refine WA_seq ?_ | (refine WA_region ttok ?_; conv => whnf) | (refine WA_draw ttok mixed ?_; conv => whnf) | (refine WA_cond ?_; conv => whnf) | refine WA_block ?_ | (refine WA_skip ?_; conv => whnf) | (refine WA_exit ?_; conv => whnf) | (refine WA_ret ?_; conv => whnf) | (refine And.intro (fun h => ?_) (fun h => ?_) <;> (try simp only [brsA] at h) <;> conv => whnf) | (refine Or.inl ?_; (conv => whnf); refine Exists.intro _ (And.intro (ryword_c i) ?_); conv => whnf) | (refine Or.inr (Or.inr (Or.inl ?_)); (conv => whnf); refine Exists.intro _ (And.intro (ryword_c i) ?_); conv => whnf) | (refine Exists.intro _ (And.intro (ryword_c i) ?_); conv => whnf) | (refine WR_fit ?_ ?_; (focus (first | exact wr_i64 (by omega) | exact wr_u64 (by omega) | exact wr_u8 (by omega) | exact wr_i32 (by omega) | exact wr_u32 (by omega))); conv => whnf) | (refine WR_wrap ?_; conv => whnf) | (refine And.intro (a := indepB _ _ = true) ?_ ?_; (focus kernel_rfl); conv => whnf) | (refine And.intro rfl ?_; conv => whnf) | (refine And.intro ?_ ?_; (focus (first | omega | decide | (dsimp only; omega) | (simp at *; omega))); conv => whnf))
      all_goals first | contradiction | (exfalso; omega) | skip
      · rw [if_pos ‹wordL (i : Int) = _›] at hn
        refine ⟨(i + 1, (i : Int)), ⟨by omega, hn.symm⟩, (by show 13 - (i + 1) < 13 - i; omega), ?_⟩
        conv => whnf
        repeat (first | exact rfl | exact trivial | exact Or.inl (fun _ _ => rfl) | exact (fun _ => rfl) | exact (fun _ _ => rfl) | exact Or.inl (fun _ hi => absurd hi (Nat.not_lt_zero _)) | (refine And.intro rfl ?_; conv => whnf) | (refine And.intro (Or.inl (fun _ _ => rfl)) ?_; conv => whnf) | (refine And.intro (fun _ => rfl) ?_; conv => whnf) | (refine And.intro (fun _ _ => rfl) ?_; conv => whnf) | (refine And.intro ?_ ?_; rotate_left; conv => whnf))
      · rw [if_neg ‹¬ wordL (i : Int) = _›] at hn
        refine ⟨(i + 1, c), ⟨by omega, hc.trans hn.symm⟩, (by show 13 - (i + 1) < 13 - i; omega), ?_⟩
        conv => whnf
        repeat (first | exact rfl | exact trivial | exact Or.inl (fun _ _ => rfl) | exact (fun _ => rfl) | exact (fun _ _ => rfl) | exact Or.inl (fun _ hi => absurd hi (Nat.not_lt_zero _)) | (refine And.intro rfl ?_; conv => whnf) | (refine And.intro (Or.inl (fun _ _ => rfl)) ?_; conv => whnf) | (refine And.intro (fun _ => rfl) ?_; conv => whnf) | (refine And.intro (fun _ _ => rfl) ?_; conv => whnf) | (refine And.intro ?_ ?_; rotate_left; conv => whnf))

set_option maxRecDepth 100000 in
set_option maxHeartbeats 4000000 in
theorem ryp_ok (s : List UInt8) (hs : s.length ≤ 4096) (h0 : s ≠ []) (hw : allW (cutL 32 s)) (E : Int) (hE : lastK ((cutL 32 s).getD (((cutL 32 s).length : Int) - 1).toNat []) 12 = E) (hz : E = 0) (he : errL ((cutL 32 s).drop 1) = 0) (b : Bool) (J : List UInt8) (hj : J = join (wordsOf 0 (numL ((cutL 32 s).drop 1))) [32]) (hnear : nearL (numL ((cutL 32 s).drop 1))) (hb : b = decide (J = s)) :
    ACalls Tryd.prog G 12 [.str s] (.tup [repA 0 (if b = true then numL ((cutL 32 s).drop 1) else []), .sb b]) := by
  subst hz
  have hws := rwords_ok (G := G) s (by omega) h0 hw true (decide_eq_true hs).symm
  rw [if_pos rfl] at hws
  have hcl := cutL_len 32 s
  have hgl := cutL_get_len 32 s
  have hne := cutL_ne 32 s
  have hln := List.length_pos_iff.2 hne
  generalize cutL 32 s = l at *
  refine ACalls.of_WA ttok Tryd.func12 rfl rfl _ rfl ?_
  conv => whnf
  repeat' (first | refine WA_seq ?_ | (refine WA_region ttok ?_; conv => whnf) | (refine WA_draw ttok mixed ?_; conv => whnf) | (refine WA_cond ?_; conv => whnf) | refine WA_block ?_ | (refine WA_skip ?_; conv => whnf) | (refine WA_exit ?_; conv => whnf) | (refine WA_ret ?_; conv => whnf) | (refine And.intro (fun h => ?_) (fun h => ?_) <;> (try simp only [brsA] at h) <;> conv => whnf) | (refine Or.inl ?_; (conv => whnf); refine Exists.intro _ (And.intro (hws) ?_); conv => whnf) | (refine Or.inr (Or.inr (Or.inl ?_)); (conv => whnf); refine Exists.intro _ (And.intro (hws) ?_); conv => whnf) | (refine Exists.intro _ (And.intro (hws) ?_); conv => whnf) | (refine WR_fit ?_ ?_; (focus (first | exact wr_i64 (by omega) | exact wr_u64 (by omega) | exact wr_u8 (by omega) | exact wr_i32 (by omega) | exact wr_u32 (by omega))); conv => whnf) | (refine WR_wrap ?_; conv => whnf) | (refine And.intro (a := indepB _ _ = true) ?_ ?_; (focus kernel_rfl); conv => whnf) | (refine And.intro rfl ?_; conv => whnf) | (refine And.intro ?_ ?_; (focus (first | omega | decide | (dsimp only; omega) | (simp at *; omega))); conv => whnf))
  all_goals first | contradiction | (exfalso; omega) | skip
  refine WA_loopI (fun x : Nat × Int => match x with | (i, c) => (1 ≤ i ∧ i ≤ 13) ∧ c = lastK (l.getD ((l.length : Int) - 1).toNat []) (i - 1)) (fun x => match x with | (i, c) => [(7, .int .i64 (i : Int))]) (fun x => match x with | (i, c) => [.box 26 [.int .i64 0, .nils], .box 26 [.int .i64 c, .nils]]) (fun x => 13 - x.1) (1, 0) ⟨by omega, rfl⟩ ?_ ?_
  · conv => whnf
    repeat (first | exact rfl | exact trivial | exact Or.inl (fun _ _ => rfl) | exact (fun _ => rfl) | exact (fun _ _ => rfl) | exact Or.inl (fun _ hi => absurd hi (Nat.not_lt_zero _)) | (refine And.intro rfl ?_; conv => whnf) | (refine And.intro (Or.inl (fun _ _ => rfl)) ?_; conv => whnf) | (refine And.intro (fun _ => rfl) ?_; conv => whnf) | (refine And.intro (fun _ _ => rfl) ?_; conv => whnf) | (refine And.intro ?_ ?_; rotate_left; conv => whnf))
  · rintro ⟨i, c⟩ ⟨hi, hc⟩
    by_cases h13 : i = 13
    · subst h13
      have hcE : c = 0 := by rw [hc]; exact hE
      subst hcE
      conv => whnf
      repeat' (first | refine WA_seq ?_ | (refine WA_region ttok ?_; conv => whnf) | (refine WA_draw ttok mixed ?_; conv => whnf) | (refine WA_cond ?_; conv => whnf) | refine WA_block ?_ | (refine WA_skip ?_; conv => whnf) | (refine WA_exit ?_; conv => whnf) | (refine WA_ret ?_; conv => whnf) | (refine And.intro (fun h => ?_) (fun h => ?_) <;> (try simp only [brsA] at h) <;> conv => whnf) | (refine WR_fit ?_ ?_; (focus (first | exact wr_i64 (by omega) | exact wr_u64 (by omega) | exact wr_u8 (by omega) | exact wr_i32 (by omega) | exact wr_u32 (by omega))); conv => whnf) | (refine WR_wrap ?_; conv => whnf) | (refine And.intro (a := indepB _ _ = true) ?_ ?_; (focus kernel_rfl); conv => whnf) | (refine And.intro rfl ?_; conv => whnf) | (refine And.intro ?_ ?_; (focus (first | omega | decide | (dsimp only; omega) | (simp at *; omega))); conv => whnf))
      all_goals first | contradiction | (exfalso; omega) | skip
      refine WA_nilB 1 1 3 1 rfl rfl ?_
      conv => whnf
      refine WA_loopI (fun i : Nat => (1 ≤ i ∧ i ≤ l.length) ∧ errL ((l.drop 1).drop (i - 1)) = 0) (fun i => [(8, .int .i64 (i : Int))]) (fun i => [.box 26 [.int .i64 0, .nils], .box 26 [.int .i64 0, .own 2], .row 3 1 (i - 1) (fun j => [.int .i64 ((numL (l.drop 1)).getD j 0)])]) (fun i => l.length - i) 1 ⟨by omega, he⟩ ?_ ?_
      · conv => whnf
        repeat (first | exact rfl | exact trivial | exact Or.inl (fun _ _ => rfl) | exact (fun _ => rfl) | exact (fun _ _ => rfl) | exact Or.inl (fun _ hi => absurd hi (Nat.not_lt_zero _)) | (refine And.intro rfl ?_; conv => whnf) | (refine And.intro (Or.inl (fun _ _ => rfl)) ?_; conv => whnf) | (refine And.intro (fun _ => rfl) ?_; conv => whnf) | (refine And.intro (fun _ _ => rfl) ?_; conv => whnf) | (refine And.intro ?_ ?_; rotate_left; conv => whnf))
      · rintro i ⟨hi1, hE1⟩
        obtain ⟨k, rfl⟩ : ∃ k, i = k + 1 := ⟨i - 1, by omega⟩
        simp only [Nat.add_sub_cancel] at hE1
        have hg1 := drop1_get l k
        by_cases hil : k + 1 < l.length
        · have hp := rparse_c (G := G) (l.getD (k + 1) []) (by have := hgl (k + 1); omega)
          rw [errL_drop (l.drop 1) (by rw [List.length_drop]; omega), hg1, Nat.add_comm 1 k] at hE1
          have hng := numL_get (l.drop 1) (i := k) (by rw [List.length_drop]; omega)
          rw [hg1, Nat.add_comm 1 k] at hng
          by_cases hz : (parseN (l.getD (k + 1) [])).2 = 0
          · rw [if_neg (fun q => q hz)] at hE1
            rw [hz] at hp
            conv => whnf
            repeat' (first | refine WA_seq ?_ | (refine WA_region ttok ?_; conv => whnf) | (refine WA_draw ttok mixed ?_; conv => whnf) | (refine WA_cond ?_; conv => whnf) | refine WA_block ?_ | (refine WA_skip ?_; conv => whnf) | (refine WA_exit ?_; conv => whnf) | (refine WA_ret ?_; conv => whnf) | (refine And.intro (fun h => ?_) (fun h => ?_) <;> (try simp only [brsA] at h) <;> conv => whnf) | (refine Or.inl ?_; (conv => whnf); refine Exists.intro _ (And.intro (hp) ?_); conv => whnf) | (refine Or.inr (Or.inr (Or.inl ?_)); (conv => whnf); refine Exists.intro _ (And.intro (hp) ?_); conv => whnf) | (refine Exists.intro _ (And.intro (hp) ?_); conv => whnf) | (refine WR_fit ?_ ?_; (focus (first | exact wr_i64 (by omega) | exact wr_u64 (by omega) | exact wr_u8 (by omega) | exact wr_i32 (by omega) | exact wr_u32 (by omega))); conv => whnf) | (refine WR_wrap ?_; conv => whnf) | (refine And.intro (a := indepB _ _ = true) ?_ ?_; (focus kernel_rfl); conv => whnf) | (refine And.intro rfl ?_; conv => whnf) | (refine And.intro ?_ ?_; (focus (first | omega | decide | (dsimp only; omega) | (simp at *; omega))); conv => whnf))
            all_goals first | contradiction | (exfalso; omega) | skip
            refine ⟨k + 2, ⟨by omega, hE1⟩, (by show l.length - (k + 2) < l.length - (k + 1); omega), ?_⟩
            conv => whnf
            repeat (first | exact rfl | exact trivial | exact Or.inl (fun _ _ => rfl) | exact (fun _ => rfl) | exact (fun _ _ => rfl) | exact Or.inl (fun _ hi => absurd hi (Nat.not_lt_zero _)) | (refine And.intro rfl ?_; conv => whnf) | (refine And.intro (Or.inl (fun _ _ => rfl)) ?_; conv => whnf) | (refine And.intro (fun _ => rfl) ?_; conv => whnf) | (refine And.intro (fun _ _ => rfl) ?_; conv => whnf) | (refine And.intro ?_ ?_; rotate_left; conv => whnf))
            refine Or.inl fun j hj => rowInt (numL (l.drop 1)) k _ ?_ j hj
            rw [hng]; rfl
          · rw [if_pos hz] at hE1
            exact absurd hE1 hz
        · have hkl : k + 1 = l.length := by omega
          have hnl : (numL (l.drop 1)).length = k := by unfold numL; rw [List.length_map, List.length_drop]; omega
          have hL := ryline_c (G := G) 0 (numL (l.drop 1)) (by omega) hnear (by omega)
          rw [← hj] at hL
          have hL := hL.fit (args' := [.agg [.int .i64 0, .sl (k + 1 - 1) 1 (fun j => [.int .i64 ((numL (l.drop 1)).getD j 0)])]]) (by
            conv => whnf
            repeat (first | exact rfl | exact trivial | exact Or.inl (fun _ _ => rfl) | exact (fun _ => rfl) | exact (fun _ _ => rfl) | exact Or.inl (fun _ hi => absurd hi (Nat.not_lt_zero _)) | (refine And.intro rfl ?_; conv => whnf) | (refine And.intro (Or.inl (fun _ _ => rfl)) ?_; conv => whnf) | (refine And.intro (fun _ => rfl) ?_; conv => whnf) | (refine And.intro (fun _ _ => rfl) ?_; conv => whnf) | (refine And.intro ?_ ?_; rotate_left; conv => whnf))
            all_goals omega)
          conv => whnf
          repeat' (first | refine WA_seq ?_ | (refine WA_region ttok ?_; conv => whnf) | (refine WA_draw ttok mixed ?_; conv => whnf) | (refine WA_cond ?_; conv => whnf) | refine WA_block ?_ | (refine WA_skip ?_; conv => whnf) | (refine WA_exit ?_; conv => whnf) | (refine WA_ret ?_; conv => whnf) | (refine And.intro (fun h => ?_) (fun h => ?_) <;> (try simp only [brsA] at h) <;> conv => whnf) | (refine Or.inl ?_; (conv => whnf); refine Exists.intro _ (And.intro (hL) ?_); conv => whnf) | (refine Or.inr (Or.inr (Or.inl ?_)); (conv => whnf); refine Exists.intro _ (And.intro (hL) ?_); conv => whnf) | (refine Exists.intro _ (And.intro (hL) ?_); conv => whnf) | (refine WR_fit ?_ ?_; (focus (first | exact wr_i64 (by omega) | exact wr_u64 (by omega) | exact wr_u8 (by omega) | exact wr_i32 (by omega) | exact wr_u32 (by omega))); conv => whnf) | (refine WR_wrap ?_; conv => whnf) | (refine And.intro (a := indepB _ _ = true) ?_ ?_; (focus kernel_rfl); conv => whnf) | (refine And.intro rfl ?_; conv => whnf) | (refine And.intro ?_ ?_; (focus (first | omega | decide | (dsimp only; omega) | (simp at *; omega))); conv => whnf))
          all_goals first | contradiction | (exfalso; omega) | skip
          · rw [decide_eq_false ‹¬ J = s›] at hb; subst hb; exact ⟨rfl, rfl⟩
          · rw [decide_eq_true ‹J = s›] at hb; subst hb; exact ⟨by show k + 1 - 1 = (numL (l.drop 1)).length; omega, Or.inl (fun _ _ => rfl), rfl⟩
    · have hn := lastK_next (l.getD ((l.length : Int) - 1).toNat []) i (by omega)
      conv => whnf
      repeat' (first | refine WA_seq ?_ | (refine WA_region ttok ?_; conv => whnf) | (refine WA_draw ttok mixed ?_; conv => whnf) | (refine WA_cond ?_; conv => whnf) | refine WA_block ?_ | (refine WA_skip ?_; conv => whnf) | (refine WA_exit ?_; conv => whnf) | (refine WA_ret ?_; conv => whnf) | (refine And.intro (fun h => ?_) (fun h => ?_) <;> (try simp only [brsA] at h) <;> conv => whnf) | (refine Or.inl ?_; (conv => whnf); refine Exists.intro _ (And.intro (ryword_c i) ?_); conv => whnf) | (refine Or.inr (Or.inr (Or.inl ?_)); (conv => whnf); refine Exists.intro _ (And.intro (ryword_c i) ?_); conv => whnf) | (refine Exists.intro _ (And.intro (ryword_c i) ?_); conv => whnf) | (refine WR_fit ?_ ?_; (focus (first | exact wr_i64 (by omega) | exact wr_u64 (by omega) | exact wr_u8 (by omega) | exact wr_i32 (by omega) | exact wr_u32 (by omega))); conv => whnf) | (refine WR_wrap ?_; conv => whnf) | (refine And.intro (a := indepB _ _ = true) ?_ ?_; (focus kernel_rfl); conv => whnf) | (refine And.intro rfl ?_; conv => whnf) | (refine And.intro ?_ ?_; (focus (first | omega | decide | (dsimp only; omega) | (simp at *; omega))); conv => whnf))
      all_goals first | contradiction | (exfalso; omega) | skip
      · rw [if_pos ‹wordL (i : Int) = _›] at hn
        refine ⟨(i + 1, (i : Int)), ⟨by omega, hn.symm⟩, (by show 13 - (i + 1) < 13 - i; omega), ?_⟩
        conv => whnf
        repeat (first | exact rfl | exact trivial | exact Or.inl (fun _ _ => rfl) | exact (fun _ => rfl) | exact (fun _ _ => rfl) | exact Or.inl (fun _ hi => absurd hi (Nat.not_lt_zero _)) | (refine And.intro rfl ?_; conv => whnf) | (refine And.intro (Or.inl (fun _ _ => rfl)) ?_; conv => whnf) | (refine And.intro (fun _ => rfl) ?_; conv => whnf) | (refine And.intro (fun _ _ => rfl) ?_; conv => whnf) | (refine And.intro ?_ ?_; rotate_left; conv => whnf))
      · rw [if_neg ‹¬ wordL (i : Int) = _›] at hn
        refine ⟨(i + 1, c), ⟨by omega, hc.trans hn.symm⟩, (by show 13 - (i + 1) < 13 - i; omega), ?_⟩
        conv => whnf
        repeat (first | exact rfl | exact trivial | exact Or.inl (fun _ _ => rfl) | exact (fun _ => rfl) | exact (fun _ _ => rfl) | exact Or.inl (fun _ hi => absurd hi (Nat.not_lt_zero _)) | (refine And.intro rfl ?_; conv => whnf) | (refine And.intro (Or.inl (fun _ _ => rfl)) ?_; conv => whnf) | (refine And.intro (fun _ => rfl) ?_; conv => whnf) | (refine And.intro (fun _ _ => rfl) ?_; conv => whnf) | (refine And.intro ?_ ?_; rotate_left; conv => whnf))

end Go.Proofs.YtagokdeflnkplaaDoor
set_option linter.unusedSimpArgs false
namespace Go.Proofs.YtagokdeflnkplaaDoor
open Go.Proofs.YtagokdeflnkplaaDoor.Am Go.Lib
variable {G : GInv}
/-! ### The document's reading and the program's are one -/
theorem last_getD (l : List (List UInt8)) (h : l ≠ []) : l.getLast? = some (l.getD ((l.length : Int) - 1).toNat []) := by
  have hl := List.length_pos_iff.2 h
  rw [List.getLast?_eq_getElem?, show ((l.length : Int) - 1).toNat = l.length - 1 by omega, List.getD_eq_getElem?_getD, List.getElem?_eq_getElem (show l.length - 1 < l.length by omega)]
  rfl
theorem wordL_not {e : Int} (h : 1 ≤ e ∧ e ≤ 12) : wordL e ≠ wOK ∧ (parseN (wordL e)).2 ≠ 0 := by
  have a := int13 (e := e) (by omega)
  rcases a with a | a | a | a | a | a | a | a | a | a | a | a | a <;> subst a <;> first | omega | decide
theorem last_tail (l : List (List UInt8)) (h : 2 ≤ l.length) : l.getD ((l.length : Int) - 1).toNat [] ∈ l.drop 1 := by
  have e : l.getD ((l.length : Int) - 1).toNat [] = (l.drop 1).getD (l.length - 2) [] := by
    rw [drop1_get]; congr 1; omega
  rw [e, List.getD_eq_getElem?_getD, List.getElem?_eq_getElem (by rw [List.length_drop]; omega)]
  exact List.getElem_mem _
theorem pR_err {s : List UInt8} (hs : s.length ≤ 4096) (h0 : s ≠ []) (hw : allW (cutL 32 s)) {E : Int} (h12 : 1 ≤ E ∧ E ≤ 12) (hE : wordL E = (cutL 32 s).getD (((cutL 32 s).length : Int) - 1).toNat []) :
    parseR s = if join (errW E) [32] = s then some (E, []) else none := by
  have hne := cutL_ne 32 s
  have hlast := last_getD _ hne
  rw [← hE] at hlast
  unfold parseR
  rw [if_pos ⟨hs, h0, hw⟩]
  by_cases hj : join (errW E) [32] = s
  · rw [if_pos hj]
    have hc : cutL 32 s = errW E := by
      rw [← hj]; exact cut_words (errW_word (by omega)) (errW_last h12).2.2
    rw [hc, errOf_errW h12]
  · rw [if_neg hj]
    cases hn : errOf (cutL 32 s) with
    | some e =>
      obtain ⟨q1, q2⟩ := errOf_some hn
      have l1 := (errW_last q1).1
      rw [← q2, hlast] at l1
      have := errW_inj h12 q1 (Option.some.inj l1)
      subst this
      exact absurd (by rw [← q2]; exact join_cutL 32 s) hj
    | none =>
      dsimp only
      rw [if_neg]
      rintro ⟨k1, k2⟩
      rw [errL_iff] at k2
      by_cases h2 : 2 ≤ (cutL 32 s).length
      · have := k2 _ (last_tail _ h2)
        rw [← hE] at this
        exact (wordL_not h12).2 this
      · have hl := List.length_pos_iff.2 hne
        have e0 : (((cutL 32 s).length : Int) - 1).toNat = 0 := by omega
        rw [e0, k1] at hE
        exact (wordL_not h12).1 hE
theorem pR_num {s : List UInt8} (hs : s.length ≤ 4096) (h0 : s ≠ []) (hw : allW (cutL 32 s)) (hE : lastK ((cutL 32 s).getD (((cutL 32 s).length : Int) - 1).toNat []) 12 = 0) :
    parseR s = if errL ((cutL 32 s).drop 1) = 0 ∧ join (wordsOf 0 (numL ((cutL 32 s).drop 1))) [32] = s then some (0, numL ((cutL 32 s).drop 1)) else none := by
  have hne := cutL_ne 32 s
  have hlast := last_getD _ hne
  have hn : errOf (cutL 32 s) = none := by
    cases hn : errOf (cutL 32 s) with
    | none => rfl
    | some e =>
      obtain ⟨q1, q2⟩ := errOf_some hn
      have l1 := (errW_last q1).1
      rw [← q2, hlast] at l1
      have := (lastK_spec _ 12 (Nat.le_refl _)).2 e q1.1 q1.2 (Option.some.inj l1).symm
      omega
  unfold parseR
  rw [if_pos ⟨hs, h0, hw⟩, hn]
  dsimp only
  by_cases he : errL ((cutL 32 s).drop 1) = 0
  · have hwd : wordsOf 0 (numL ((cutL 32 s).drop 1)) = wOK :: (cutL 32 s).drop 1 := by
      unfold wordsOf
      rw [itoa_numL _ he]; rfl
    rw [hwd]
    have hl := List.length_pos_iff.2 hne
    have hcons : cutL 32 s = (cutL 32 s).getD 0 [] :: (cutL 32 s).drop 1 := by
      cases hx : cutL 32 s with
      | nil => exact absurd hx hne
      | cons x r => rfl
    by_cases hk : (cutL 32 s).getD 0 [] = wOK
    · rw [if_pos ⟨hk, he⟩, if_pos]
      refine ⟨he, ?_⟩
      rw [← hk, ← hcons]; exact join_cutL 32 s
    · rw [if_neg (fun h => hk h.1), if_neg]
      rintro ⟨_, hj⟩
      have hww : ∀ x ∈ wOK :: (cutL 32 s).drop 1, wordP x := by
        intro x hx
        rcases List.mem_cons.1 hx with hx | hx
        · subst hx; exact errW_word (e := 0) (by omega) _ (List.mem_singleton.2 rfl)
        · have hm := List.mem_of_mem_drop hx
          obtain ⟨i, hi, rfl⟩ := List.getElem_of_mem hm
          have := hw i hi
          rwa [List.getD_eq_getElem?_getD, List.getElem?_eq_getElem hi] at this
      have := cut_words hww (by simp)
      rw [hj] at this
      rw [this] at hk
      exact hk rfl
  · rw [if_neg (fun h => he h.2), if_neg (fun h => he h.1)]
theorem numL_near (l : List (List UInt8)) : nearL (numL l) := near_all.2 fun n hn => by
  unfold numL at hn
  obtain ⟨x, _, rfl⟩ := List.mem_map.1 hn
  exact parseN_near x
theorem repb_nil {f : Nat} {args : List A} {e : Int} {z : Bool} (h : ACalls Tryd.prog G f args (.tup [.agg [.int .i64 e, .nils], .sb z])) : ACalls Tryd.prog G f args (.tup [repA e [], .sb z]) := by
  refine ⟨h.1, fun im w vs h1 h2 h3 h4 => ?_⟩
  refine Calls_mono (h.2 im w vs h1 h2 h3 h4) ?_
  rintro e' w' ⟨v, e1, e2, e3⟩
  refine ⟨v, e1, ?_, e3⟩
  have := fitA_rel (ids := []) (im' := fun b => im b ∨ (w.heap.size ≤ b ∧ b < w'.heap.size)) (fun _ h => h) 6 0 _ (.tup [repA e [], .sb z]) v (by
    conv => whnf
    repeat (first | exact rfl | exact trivial | exact Or.inl (fun _ _ => rfl) | exact (fun _ => rfl) | exact (fun _ _ => rfl) | exact Or.inl (fun _ hi => absurd hi (Nat.not_lt_zero _)) | (refine And.intro rfl ?_; conv => whnf) | (refine And.intro (Or.inl (fun _ _ => rfl)) ?_; conv => whnf) | (refine And.intro (fun _ => rfl) ?_; conv => whnf) | (refine And.intro (fun _ _ => rfl) ?_; conv => whnf) | (refine And.intro ?_ ?_; rotate_left; conv => whnf))) (.imm e2)
  exact Rel.nil_rel (by simpa using this)
set_option maxRecDepth 100000 in
set_option maxHeartbeats 2000000 in
theorem ryp_none (s : List UInt8) (h : ACalls Tryd.prog G 43 [.str s] (.tup [.nils, .sb false])) : ACalls Tryd.prog G 12 [.str s] (.tup [.agg [.int .i64 0, .nils], .sb false]) := by
  refine ACalls.of_WA ttok Tryd.func12 rfl rfl _ rfl ?_
  conv => whnf
  repeat' (first | refine WA_seq ?_ | (refine WA_region ttok ?_; conv => whnf) | (refine WA_draw ttok mixed ?_; conv => whnf) | (refine WA_cond ?_; conv => whnf) | refine WA_block ?_ | (refine WA_skip ?_; conv => whnf) | (refine WA_exit ?_; conv => whnf) | (refine WA_ret ?_; conv => whnf) | (refine And.intro (fun h => ?_) (fun h => ?_) <;> (try simp only [brsA] at h) <;> conv => whnf) | (refine Or.inl ?_; (conv => whnf); refine Exists.intro _ (And.intro (h) ?_); conv => whnf) | (refine Or.inr (Or.inr (Or.inl ?_)); (conv => whnf); refine Exists.intro _ (And.intro (h) ?_); conv => whnf) | (refine Exists.intro _ (And.intro (h) ?_); conv => whnf) | (refine WR_fit ?_ ?_; (focus (first | exact wr_i64 (by omega) | exact wr_u64 (by omega) | exact wr_u8 (by omega) | exact wr_i32 (by omega) | exact wr_u32 (by omega))); conv => whnf) | (refine WR_wrap ?_; conv => whnf) | (refine And.intro (a := indepB _ _ = true) ?_ ?_; (focus kernel_rfl); conv => whnf) | (refine And.intro rfl ?_; conv => whnf) | (refine And.intro ?_ ?_; (focus (first | omega | decide | (dsimp only; omega) | (simp at *; omega))); conv => whnf))
  all_goals first | contradiction | (exfalso; omega) | (exact absurd trivial ‹_›) | trace_state
set_option maxRecDepth 100000 in
set_option maxHeartbeats 2000000 in
theorem ryp_empty : ACalls Tryd.prog G 12 [.str []] (.tup [.agg [.int .i64 0, .nils], .sb false]) := by
  have h := rwords_empty (G := G)
  refine ACalls.of_WA ttok Tryd.func12 rfl rfl _ rfl ?_
  conv => whnf
  repeat' (first | refine WA_seq ?_ | (refine WA_region ttok ?_; conv => whnf) | (refine WA_draw ttok mixed ?_; conv => whnf) | (refine WA_cond ?_; conv => whnf) | refine WA_block ?_ | (refine WA_skip ?_; conv => whnf) | (refine WA_exit ?_; conv => whnf) | (refine WA_ret ?_; conv => whnf) | (refine And.intro (fun h => ?_) (fun h => ?_) <;> (try simp only [brsA] at h) <;> conv => whnf) | (refine Or.inl ?_; (conv => whnf); refine Exists.intro _ (And.intro (h) ?_); conv => whnf) | (refine Or.inr (Or.inr (Or.inl ?_)); (conv => whnf); refine Exists.intro _ (And.intro (h) ?_); conv => whnf) | (refine Exists.intro _ (And.intro (h) ?_); conv => whnf) | (refine WR_fit ?_ ?_; (focus (first | exact wr_i64 (by omega) | exact wr_u64 (by omega) | exact wr_u8 (by omega) | exact wr_i32 (by omega) | exact wr_u32 (by omega))); conv => whnf) | (refine WR_wrap ?_; conv => whnf) | (refine And.intro (a := indepB _ _ = true) ?_ ?_; (focus kernel_rfl); conv => whnf) | (refine And.intro rfl ?_; conv => whnf) | (refine And.intro ?_ ?_; (focus (first | omega | decide | (dsimp only; omega) | (simp at *; omega))); conv => whnf))
  all_goals first | contradiction | (exfalso; omega) | (exact absurd trivial ‹_›) | trace_state
theorem rpR_c (s : List UInt8) (hs : s.length ≤ 100000) : ACalls Tryd.prog G 12 [.str s] (.tup [repA (yres s).1 (yres s).2.1, .sb (decide ((yres s).2.2 = 0))]) := by
  have hnone : parseR s = none → yres s = (0, [], 2) := fun h => by unfold yres; rw [h]
  have hsome : ∀ e ns, parseR s = some (e, ns) → yres s = (e, ns, 0) := fun e ns h => by unfold yres; rw [h]
  by_cases h0 : s = []
  · subst h0
    rw [hnone (by unfold parseR; rw [if_neg (fun h => h.2.1 rfl)])]
    exact repb_nil ryp_empty
  · by_cases hw : allW (cutL 32 s)
    · by_cases hl : s.length ≤ 4096
      · obtain ⟨a, b⟩ := lastK_spec ((cutL 32 s).getD (((cutL 32 s).length : Int) - 1).toNat []) 12 (Nat.le_refl _)
        rcases a with a | ⟨a1, a2, a3⟩
        · have hp := pR_num hl h0 hw a
          by_cases he : errL ((cutL 32 s).drop 1) = 0
          · have key := ryp_ok (G := G) s hl h0 hw 0 a rfl he (decide (join (wordsOf 0 (numL ((cutL 32 s).drop 1))) [32] = s)) _ rfl (numL_near _) rfl
            by_cases hj : join (wordsOf 0 (numL ((cutL 32 s).drop 1))) [32] = s
            · rw [if_pos ⟨he, hj⟩] at hp
              rw [decide_eq_true hj, if_pos rfl] at key
              rw [hsome _ _ hp]; exact key
            · rw [if_neg (fun h => hj h.2)] at hp
              rw [decide_eq_false hj, if_neg (by decide)] at key
              rw [hnone hp]; exact key
          · rw [if_neg (fun h => he h.1)] at hp
            rw [hnone hp]
            exact repb_nil (ryp_bad s hl h0 hw 0 a rfl he)
        · have hp := pR_err hl h0 hw ⟨a1, a2⟩ a3
          have key := ryp_err (G := G) s hl h0 hw _ rfl ⟨a1, a2⟩ _ rfl
          generalize lastK ((cutL 32 s).getD (((cutL 32 s).length : Int) - 1).toNat []) 12 = E at *
          by_cases hj : join (errW E) [32] = s
          · rw [if_pos hj] at hp
            rw [decide_eq_true hj, if_pos rfl] at key
            rw [hsome _ _ hp]; exact repb_nil key
          · rw [if_neg hj] at hp
            rw [decide_eq_false hj, if_neg (by decide)] at key
            rw [hnone hp]; exact repb_nil key
      · rw [hnone (by unfold parseR; rw [if_neg (fun h => hl h.1)])]
        have hws := rwords_ok (G := G) s hs h0 hw false (decide_eq_false hl).symm
        rw [if_neg (by decide)] at hws
        exact repb_nil (ryp_none s hws)
    · rw [hnone (by unfold parseR; rw [if_neg (fun h => hw h.2.2)])]
      exact repb_nil (ryp_none s (rwords_bad s hs h0 hw))
end Go.Proofs.YtagokdeflnkplaaDoor
set_option linter.unusedSimpArgs false
namespace Go.Proofs.YtagokdeflnkplaaDoor
open Go.Proofs.YtagokdeflnkplaaDoor.Am Go.Lib
variable {G : GInv}
/-! ### The laws of answers -/
set_option maxRecDepth 100000 in
theorem like_c (e : Int) (ns : List Int) (hl : ns.length ≤ 1000000) : ACalls Tryd.prog G 13 [repA e ns, repA e ns] (.sb true) := by
  have hs := same_c (G := G) ns hl
  refine ACalls.of_WA ttok Tryd.func13 rfl rfl _ rfl ?_
  conv => whnf
  repeat' (first | refine WA_seq ?_ | (refine WA_region ttok ?_; conv => whnf) | (refine WA_draw ttok mixed ?_; conv => whnf) | (refine WA_cond ?_; conv => whnf) | refine WA_block ?_ | (refine WA_skip ?_; conv => whnf) | (refine WA_exit ?_; conv => whnf) | (refine WA_ret ?_; conv => whnf) | (refine And.intro (fun h => ?_) (fun h => ?_) <;> (try simp only [brsA] at h) <;> conv => whnf) | (refine Or.inl ?_; (conv => whnf); refine Exists.intro _ (And.intro (hs) ?_); conv => whnf) | (refine Or.inr (Or.inr (Or.inl ?_)); (conv => whnf); refine Exists.intro _ (And.intro (hs) ?_); conv => whnf) | (refine Exists.intro _ (And.intro (hs) ?_); conv => whnf) | (refine WR_fit ?_ ?_; (focus (first | exact wr_i64 (by omega) | exact wr_u64 (by omega) | exact wr_u8 (by omega) | exact wr_i32 (by omega) | exact wr_u32 (by omega))); conv => whnf) | (refine WR_wrap ?_; conv => whnf) | (refine And.intro (a := indepB _ _ = true) ?_ ?_; (focus kernel_rfl); conv => whnf) | (refine And.intro rfl ?_; conv => whnf) | (refine And.intro ?_ ?_; (focus (first | omega | decide | (dsimp only; omega) | (simp at *; omega))); conv => whnf))
  all_goals first | contradiction | (exfalso; omega) | rfl | trace_state
theorem line_a : lineR 0 [3, -4] = ([79, 75, 32, 51, 32, 45, 52], 0) := by decide +kernel
theorem parse_e5 : yres [69, 82, 82, 32, 83, 84, 65, 84, 69] = (5, [], 0) := by decide +kernel
set_option maxRecDepth 100000 in
set_option maxHeartbeats 2000000 in
theorem raw_c (hT : HasTab G) (hM : HasMax G) : ACalls Tryd.prog G 10 [] (.sb true) := by
  have h1 := yline_c hT 0 [3, -4] (by decide)
  rw [line_a] at h1
  have h1 := h1.fit (args' := [.agg [.int .i64 0, .sl 2 1 (fun i => takeL 1 (List.drop (i * 1) [A.int IntKind.i64 3, A.int IntKind.i64 (-4)]))]]) (by
    conv => whnf
    repeat (first | exact rfl | exact trivial | exact Or.inl (fun _ _ => rfl) | exact (fun _ => rfl) | exact (fun _ _ => rfl) | exact Or.inl (fun _ hi => absurd hi (Nat.not_lt_zero _)) | (refine And.intro rfl ?_; conv => whnf) | (refine And.intro (Or.inl (fun _ _ => rfl)) ?_; conv => whnf) | (refine And.intro (fun _ => rfl) ?_; conv => whnf) | (refine And.intro (fun _ _ => rfl) ?_; conv => whnf) | (refine And.intro ?_ ?_; rotate_left; conv => whnf))
    all_goals (refine Or.inl fun i hi => ?_; rcases i with _ | _ | _ | _ | i <;> first | rfl | omega))
  have h2 := yparse_c hT hM [69, 82, 82, 32, 83, 84, 65, 84, 69]
  rw [parse_e5] at h2
  have h3 := yword_c (G := G) 12
  refine ACalls.of_WA ttok Tryd.func10 rfl rfl _ rfl ?_
  conv => whnf
  repeat' (first | refine WA_seq ?_ | (refine WA_region ttok ?_; conv => whnf) | (refine WA_draw ttok mixed ?_; conv => whnf) | (refine WA_cond ?_; conv => whnf) | refine WA_block ?_ | (refine WA_skip ?_; conv => whnf) | (refine WA_exit ?_; conv => whnf) | (refine WA_ret ?_; conv => whnf) | (refine And.intro (fun h => ?_) (fun h => ?_) <;> (try simp only [brsA] at h) <;> conv => whnf) | (refine Or.inl ?_; (conv => whnf); refine Exists.intro _ (And.intro (h1) ?_); conv => whnf) | (refine Or.inr (Or.inr (Or.inl ?_)); (conv => whnf); refine Exists.intro _ (And.intro (h1) ?_); conv => whnf) | (refine Exists.intro _ (And.intro (h1) ?_); conv => whnf) | (refine Or.inl ?_; (conv => whnf); refine Exists.intro _ (And.intro (h2) ?_); conv => whnf) | (refine Or.inr (Or.inr (Or.inl ?_)); (conv => whnf); refine Exists.intro _ (And.intro (h2) ?_); conv => whnf) | (refine Exists.intro _ (And.intro (h2) ?_); conv => whnf) | (refine Or.inl ?_; (conv => whnf); refine Exists.intro _ (And.intro (h3) ?_); conv => whnf) | (refine Or.inr (Or.inr (Or.inl ?_)); (conv => whnf); refine Exists.intro _ (And.intro (h3) ?_); conv => whnf) | (refine Exists.intro _ (And.intro (h3) ?_); conv => whnf) | (refine WR_fit ?_ ?_; (focus (first | exact wr_i64 (by omega) | exact wr_u64 (by omega) | exact wr_u8 (by omega) | exact wr_i32 (by omega) | exact wr_u32 (by omega))); conv => whnf) | (refine WR_wrap ?_; conv => whnf) | (refine And.intro (a := indepB _ _ = true) ?_ ?_; (focus kernel_rfl); conv => whnf) | (refine And.intro rfl ?_; conv => whnf) | (refine And.intro ?_ ?_; (focus (first | omega | decide | (dsimp only; omega) | (simp at *; omega))); conv => whnf))
  all_goals first | contradiction | (exfalso; omega) | rfl | trace_state
theorem yres_ok {s : List UInt8} : (yres s).2.2 = 0 ∨ yres s = (0, [], 2) := by
  unfold yres
  split
  · exact Or.inl rfl
  · exact Or.inr rfl
theorem yres_line {s : List UInt8} (h : (yres s).2.2 = 0) : lineR (yres s).1 (yres s).2.1 = (s, 0) ∧ (yres s).2.1.length ≤ 5000 := by
  cases hp : parseR s with
  | none =>
    have : yres s = (0, [], 2) := by unfold yres; rw [hp]
    rw [this] at h
    exact absurd h (by decide)
  | some y =>
    obtain ⟨e, ns⟩ := y
    have hy : yres s = (e, ns, 0) := by unfold yres; rw [hp]
    obtain ⟨h1, h2, h3, h4⟩ := parseR_some hp
    rw [hy]
    refine ⟨?_, by show ns.length ≤ 5000; omega⟩
    show lineR e ns = (s, 0)
    unfold lineR
    rw [if_pos ⟨h1, h3⟩, ← h2]
set_option maxRecDepth 100000 in
set_option maxHeartbeats 2000000 in
theorem law3_c (hT : HasTab G) (hM : HasMax G) (s : List UInt8) : ACalls Tryd.prog G 3 [.str s] (.sb true) := by
  have ha := raw_c hT hM
  by_cases hl : 5000 < s.length
  · refine ACalls.of_WA ttok Tryd.func3 rfl rfl _ rfl ?_
    conv => whnf
    repeat' (first | refine WA_seq ?_ | (refine WA_region ttok ?_; conv => whnf) | (refine WA_draw ttok mixed ?_; conv => whnf) | (refine WA_cond ?_; conv => whnf) | refine WA_block ?_ | (refine WA_skip ?_; conv => whnf) | (refine WA_exit ?_; conv => whnf) | (refine WA_ret ?_; conv => whnf) | (refine And.intro (fun h => ?_) (fun h => ?_) <;> (try simp only [brsA] at h) <;> conv => whnf) | (refine Or.inl ?_; (conv => whnf); refine Exists.intro _ (And.intro (ha) ?_); conv => whnf) | (refine Or.inr (Or.inr (Or.inl ?_)); (conv => whnf); refine Exists.intro _ (And.intro (ha) ?_); conv => whnf) | (refine Exists.intro _ (And.intro (ha) ?_); conv => whnf) | (refine WR_fit ?_ ?_; (focus (first | exact wr_i64 (by omega) | exact wr_u64 (by omega) | exact wr_u8 (by omega) | exact wr_i32 (by omega) | exact wr_u32 (by omega))); conv => whnf) | (refine WR_wrap ?_; conv => whnf) | (refine And.intro (a := indepB _ _ = true) ?_ ?_; (focus kernel_rfl); conv => whnf) | (refine And.intro rfl ?_; conv => whnf) | (refine And.intro ?_ ?_; (focus (first | omega | decide | (dsimp only; omega) | (simp at *; omega))); conv => whnf))
    all_goals first | contradiction | (exfalso; omega) | rfl | trace_state
  · have hp := yparse_c hT hM s
    have hr := rpR_c (G := G) s (by omega)
    have hy := yres_ok (s := s)
    have hln := yres_line (s := s)
    generalize yres s = y at *
    obtain ⟨e, ns, z⟩ := y
    simp only at *
    by_cases hz : z = 0
    · subst hz
      obtain ⟨hln, hnl⟩ := hln rfl
      have hlk := like_c (G := G) e ns (by omega)
      have hli := yline_c hT e ns (by omega)
      rw [hln] at hli
      rw [decide_eq_true rfl] at hr
      refine ACalls.of_WA ttok Tryd.func3 rfl rfl _ rfl ?_
      conv => whnf
      repeat' (first | refine WA_seq ?_ | (refine WA_region ttok ?_; conv => whnf) | (refine WA_draw ttok mixed ?_; conv => whnf) | (refine WA_cond ?_; conv => whnf) | refine WA_block ?_ | (refine WA_skip ?_; conv => whnf) | (refine WA_exit ?_; conv => whnf) | (refine WA_ret ?_; conv => whnf) | (refine And.intro (fun h => ?_) (fun h => ?_) <;> (try simp only [brsA] at h) <;> conv => whnf) | (refine Or.inl ?_; (conv => whnf); refine Exists.intro _ (And.intro (hp) ?_); conv => whnf) | (refine Or.inr (Or.inr (Or.inl ?_)); (conv => whnf); refine Exists.intro _ (And.intro (hp) ?_); conv => whnf) | (refine Exists.intro _ (And.intro (hp) ?_); conv => whnf) | (refine Or.inl ?_; (conv => whnf); refine Exists.intro _ (And.intro (hr) ?_); conv => whnf) | (refine Or.inr (Or.inr (Or.inl ?_)); (conv => whnf); refine Exists.intro _ (And.intro (hr) ?_); conv => whnf) | (refine Exists.intro _ (And.intro (hr) ?_); conv => whnf) | (refine Or.inl ?_; (conv => whnf); refine Exists.intro _ (And.intro (hlk) ?_); conv => whnf) | (refine Or.inr (Or.inr (Or.inl ?_)); (conv => whnf); refine Exists.intro _ (And.intro (hlk) ?_); conv => whnf) | (refine Exists.intro _ (And.intro (hlk) ?_); conv => whnf) | (refine Or.inl ?_; (conv => whnf); refine Exists.intro _ (And.intro (hli) ?_); conv => whnf) | (refine Or.inr (Or.inr (Or.inl ?_)); (conv => whnf); refine Exists.intro _ (And.intro (hli) ?_); conv => whnf) | (refine Exists.intro _ (And.intro (hli) ?_); conv => whnf) | (refine Or.inl ?_; (conv => whnf); refine Exists.intro _ (And.intro (ha) ?_); conv => whnf) | (refine Or.inr (Or.inr (Or.inl ?_)); (conv => whnf); refine Exists.intro _ (And.intro (ha) ?_); conv => whnf) | (refine Exists.intro _ (And.intro (ha) ?_); conv => whnf) | (refine WR_fit ?_ ?_; (focus (first | exact wr_i64 (by omega) | exact wr_u64 (by omega) | exact wr_u8 (by omega) | exact wr_i32 (by omega) | exact wr_u32 (by omega))); conv => whnf) | (refine WR_wrap ?_; conv => whnf) | (refine And.intro (a := indepB _ _ = true) ?_ ?_; (focus kernel_rfl); conv => whnf) | (refine And.intro rfl ?_; conv => whnf) | (refine And.intro ?_ ?_; (focus (first | omega | decide | (dsimp only; omega) | (simp at *; omega))); conv => whnf))
      all_goals first | contradiction | (exfalso; omega) | rfl | trace_state
    · have hy := hy.resolve_left hz
      cases hy
      have hlk := like_c (G := G) 0 [] (by decide)
      rw [decide_eq_false hz] at hr
      refine ACalls.of_WA ttok Tryd.func3 rfl rfl _ rfl ?_
      conv => whnf
      repeat' (first | refine WA_seq ?_ | (refine WA_region ttok ?_; conv => whnf) | (refine WA_draw ttok mixed ?_; conv => whnf) | (refine WA_cond ?_; conv => whnf) | refine WA_block ?_ | (refine WA_skip ?_; conv => whnf) | (refine WA_exit ?_; conv => whnf) | (refine WA_ret ?_; conv => whnf) | (refine And.intro (fun h => ?_) (fun h => ?_) <;> (try simp only [brsA] at h) <;> conv => whnf) | (refine Or.inl ?_; (conv => whnf); refine Exists.intro _ (And.intro (hp) ?_); conv => whnf) | (refine Or.inr (Or.inr (Or.inl ?_)); (conv => whnf); refine Exists.intro _ (And.intro (hp) ?_); conv => whnf) | (refine Exists.intro _ (And.intro (hp) ?_); conv => whnf) | (refine Or.inl ?_; (conv => whnf); refine Exists.intro _ (And.intro (hr) ?_); conv => whnf) | (refine Or.inr (Or.inr (Or.inl ?_)); (conv => whnf); refine Exists.intro _ (And.intro (hr) ?_); conv => whnf) | (refine Exists.intro _ (And.intro (hr) ?_); conv => whnf) | (refine Or.inl ?_; (conv => whnf); refine Exists.intro _ (And.intro (hlk) ?_); conv => whnf) | (refine Or.inr (Or.inr (Or.inl ?_)); (conv => whnf); refine Exists.intro _ (And.intro (hlk) ?_); conv => whnf) | (refine Exists.intro _ (And.intro (hlk) ?_); conv => whnf) | (refine Or.inl ?_; (conv => whnf); refine Exists.intro _ (And.intro (ha) ?_); conv => whnf) | (refine Or.inr (Or.inr (Or.inl ?_)); (conv => whnf); refine Exists.intro _ (And.intro (ha) ?_); conv => whnf) | (refine Exists.intro _ (And.intro (ha) ?_); conv => whnf) | (refine WR_fit ?_ ?_; (focus (first | exact wr_i64 (by omega) | exact wr_u64 (by omega) | exact wr_u8 (by omega) | exact wr_i32 (by omega) | exact wr_u32 (by omega))); conv => whnf) | (refine WR_wrap ?_; conv => whnf) | (refine And.intro (a := indepB _ _ = true) ?_ ?_; (focus kernel_rfl); conv => whnf) | (refine And.intro rfl ?_; conv => whnf) | (refine And.intro ?_ ?_; (focus (first | omega | decide | (dsimp only; omega) | (simp at *; omega))); conv => whnf))
      all_goals first | contradiction | (exfalso; omega) | rfl | (exact absurd trivial ‹_›) | trace_state
set_option maxRecDepth 100000 in
set_option maxHeartbeats 2000000 in
theorem law4_c (hT : HasTab G) (hM : HasMax G) (e : Int) (ns : List Int) : ACalls Tryd.prog G 4 [repA e ns] (.sb true) := by
  have ha := raw_c hT hM
  by_cases hl : 2000 < ns.length
  · refine ACalls.of_WA ttok Tryd.func4 rfl rfl _ rfl ?_
    conv => whnf
    repeat' (first | refine WA_seq ?_ | (refine WA_region ttok ?_; conv => whnf) | (refine WA_draw ttok mixed ?_; conv => whnf) | (refine WA_cond ?_; conv => whnf) | refine WA_block ?_ | (refine WA_skip ?_; conv => whnf) | (refine WA_exit ?_; conv => whnf) | (refine WA_ret ?_; conv => whnf) | (refine And.intro (fun h => ?_) (fun h => ?_) <;> (try simp only [brsA] at h) <;> conv => whnf) | (refine Or.inl ?_; (conv => whnf); refine Exists.intro _ (And.intro (ha) ?_); conv => whnf) | (refine Or.inr (Or.inr (Or.inl ?_)); (conv => whnf); refine Exists.intro _ (And.intro (ha) ?_); conv => whnf) | (refine Exists.intro _ (And.intro (ha) ?_); conv => whnf) | (refine WR_fit ?_ ?_; (focus (first | exact wr_i64 (by omega) | exact wr_u64 (by omega) | exact wr_u8 (by omega) | exact wr_i32 (by omega) | exact wr_u32 (by omega))); conv => whnf) | (refine WR_wrap ?_; conv => whnf) | (refine And.intro (a := indepB _ _ = true) ?_ ?_; (focus kernel_rfl); conv => whnf) | (refine And.intro rfl ?_; conv => whnf) | (refine And.intro ?_ ?_; (focus (first | omega | decide | (dsimp only; omega) | (simp at *; omega))); conv => whnf))
    all_goals first | contradiction | (exfalso; omega) | rfl | trace_state
  · have hli := yline_c hT e ns (by omega)
    have hm1 := ymay_c (G := G) e ns (by omega)
    have hm2 := rymay_c (G := G) e ns (by omega)
    have hw1 := yword_c (G := G) e
    have hw2 := ryword_c (G := G) e
    by_cases hm : mayR e ns
    · rw [decide_eq_true hm] at hm1 hm2
      have hrl := ryline_c (G := G) e ns hm.1 hm.2.2 (by omega)
      have hjs := join_size (wordsOf e ns) (wordsOf_ne ns)
      by_cases hk : totL (wordsOf e ns) ≤ 4097
      · have hlr : lineR e ns = (join (wordsOf e ns) [32], 0) := by unfold lineR; rw [if_pos ⟨hm, hk⟩]
        have hy : yres (join (wordsOf e ns) [32]) = (e, ns, 0) := by unfold yres; rw [parseR_line hm hk]
        have hp := yparse_c hT hM (join (wordsOf e ns) [32])
        rw [hy] at hp
        rw [hlr] at hli
        have hjl := hjs.2 hk
        have hlk := like_c (G := G) e ns (by omega)
        generalize join (wordsOf e ns) [32] = J at *
        refine ACalls.of_WA ttok Tryd.func4 rfl rfl _ rfl ?_
        conv => whnf
        repeat' (first | refine WA_seq ?_ | (refine WA_region ttok ?_; conv => whnf) | (refine WA_draw ttok mixed ?_; conv => whnf) | (refine WA_cond ?_; conv => whnf) | refine WA_block ?_ | (refine WA_skip ?_; conv => whnf) | (refine WA_exit ?_; conv => whnf) | (refine WA_ret ?_; conv => whnf) | (refine And.intro (fun h => ?_) (fun h => ?_) <;> (try simp only [brsA] at h) <;> conv => whnf) | (refine Or.inl ?_; (conv => whnf); refine Exists.intro _ (And.intro (hli) ?_); conv => whnf) | (refine Or.inr (Or.inr (Or.inl ?_)); (conv => whnf); refine Exists.intro _ (And.intro (hli) ?_); conv => whnf) | (refine Exists.intro _ (And.intro (hli) ?_); conv => whnf) | (refine Or.inl ?_; (conv => whnf); refine Exists.intro _ (And.intro (hm1) ?_); conv => whnf) | (refine Or.inr (Or.inr (Or.inl ?_)); (conv => whnf); refine Exists.intro _ (And.intro (hm1) ?_); conv => whnf) | (refine Exists.intro _ (And.intro (hm1) ?_); conv => whnf) | (refine Or.inl ?_; (conv => whnf); refine Exists.intro _ (And.intro (hm2) ?_); conv => whnf) | (refine Or.inr (Or.inr (Or.inl ?_)); (conv => whnf); refine Exists.intro _ (And.intro (hm2) ?_); conv => whnf) | (refine Exists.intro _ (And.intro (hm2) ?_); conv => whnf) | (refine Or.inl ?_; (conv => whnf); refine Exists.intro _ (And.intro (hw1) ?_); conv => whnf) | (refine Or.inr (Or.inr (Or.inl ?_)); (conv => whnf); refine Exists.intro _ (And.intro (hw1) ?_); conv => whnf) | (refine Exists.intro _ (And.intro (hw1) ?_); conv => whnf) | (refine Or.inl ?_; (conv => whnf); refine Exists.intro _ (And.intro (hw2) ?_); conv => whnf) | (refine Or.inr (Or.inr (Or.inl ?_)); (conv => whnf); refine Exists.intro _ (And.intro (hw2) ?_); conv => whnf) | (refine Exists.intro _ (And.intro (hw2) ?_); conv => whnf) | (refine Or.inl ?_; (conv => whnf); refine Exists.intro _ (And.intro (hrl) ?_); conv => whnf) | (refine Or.inr (Or.inr (Or.inl ?_)); (conv => whnf); refine Exists.intro _ (And.intro (hrl) ?_); conv => whnf) | (refine Exists.intro _ (And.intro (hrl) ?_); conv => whnf) | (refine Or.inl ?_; (conv => whnf); refine Exists.intro _ (And.intro (hp) ?_); conv => whnf) | (refine Or.inr (Or.inr (Or.inl ?_)); (conv => whnf); refine Exists.intro _ (And.intro (hp) ?_); conv => whnf) | (refine Exists.intro _ (And.intro (hp) ?_); conv => whnf) | (refine Or.inl ?_; (conv => whnf); refine Exists.intro _ (And.intro (hlk) ?_); conv => whnf) | (refine Or.inr (Or.inr (Or.inl ?_)); (conv => whnf); refine Exists.intro _ (And.intro (hlk) ?_); conv => whnf) | (refine Exists.intro _ (And.intro (hlk) ?_); conv => whnf) | (refine Or.inl ?_; (conv => whnf); refine Exists.intro _ (And.intro (ha) ?_); conv => whnf) | (refine Or.inr (Or.inr (Or.inl ?_)); (conv => whnf); refine Exists.intro _ (And.intro (ha) ?_); conv => whnf) | (refine Exists.intro _ (And.intro (ha) ?_); conv => whnf) | (refine WR_fit ?_ ?_; (focus (first | exact wr_i64 (by omega) | exact wr_u64 (by omega) | exact wr_u8 (by omega) | exact wr_i32 (by omega) | exact wr_u32 (by omega))); conv => whnf) | (refine WR_wrap ?_; conv => whnf) | (refine And.intro (a := indepB _ _ = true) ?_ ?_; (focus kernel_rfl); conv => whnf) | (refine And.intro rfl ?_; conv => whnf) | (refine And.intro ?_ ?_; (focus (first | omega | decide | (dsimp only; omega) | (simp at *; omega))); conv => whnf))
        all_goals first | contradiction | (exfalso; omega) | rfl | (exact absurd trivial ‹_›) | trace_state
      · have hlr : lineR e ns = ([], 1) := by unfold lineR; rw [if_neg (fun h => hk h.2)]
        rw [hlr] at hli
        have hjl : ¬ (join (wordsOf e ns) [32]).length ≤ 4096 := fun h => hk (hjs.1 h)
        generalize join (wordsOf e ns) [32] = J at *
        refine ACalls.of_WA ttok Tryd.func4 rfl rfl _ rfl ?_
        conv => whnf
        repeat' (first | refine WA_seq ?_ | (refine WA_region ttok ?_; conv => whnf) | (refine WA_draw ttok mixed ?_; conv => whnf) | (refine WA_cond ?_; conv => whnf) | refine WA_block ?_ | (refine WA_skip ?_; conv => whnf) | (refine WA_exit ?_; conv => whnf) | (refine WA_ret ?_; conv => whnf) | (refine And.intro (fun h => ?_) (fun h => ?_) <;> (try simp only [brsA] at h) <;> conv => whnf) | (refine Or.inl ?_; (conv => whnf); refine Exists.intro _ (And.intro (hli) ?_); conv => whnf) | (refine Or.inr (Or.inr (Or.inl ?_)); (conv => whnf); refine Exists.intro _ (And.intro (hli) ?_); conv => whnf) | (refine Exists.intro _ (And.intro (hli) ?_); conv => whnf) | (refine Or.inl ?_; (conv => whnf); refine Exists.intro _ (And.intro (hm1) ?_); conv => whnf) | (refine Or.inr (Or.inr (Or.inl ?_)); (conv => whnf); refine Exists.intro _ (And.intro (hm1) ?_); conv => whnf) | (refine Exists.intro _ (And.intro (hm1) ?_); conv => whnf) | (refine Or.inl ?_; (conv => whnf); refine Exists.intro _ (And.intro (hm2) ?_); conv => whnf) | (refine Or.inr (Or.inr (Or.inl ?_)); (conv => whnf); refine Exists.intro _ (And.intro (hm2) ?_); conv => whnf) | (refine Exists.intro _ (And.intro (hm2) ?_); conv => whnf) | (refine Or.inl ?_; (conv => whnf); refine Exists.intro _ (And.intro (hw1) ?_); conv => whnf) | (refine Or.inr (Or.inr (Or.inl ?_)); (conv => whnf); refine Exists.intro _ (And.intro (hw1) ?_); conv => whnf) | (refine Exists.intro _ (And.intro (hw1) ?_); conv => whnf) | (refine Or.inl ?_; (conv => whnf); refine Exists.intro _ (And.intro (hw2) ?_); conv => whnf) | (refine Or.inr (Or.inr (Or.inl ?_)); (conv => whnf); refine Exists.intro _ (And.intro (hw2) ?_); conv => whnf) | (refine Exists.intro _ (And.intro (hw2) ?_); conv => whnf) | (refine Or.inl ?_; (conv => whnf); refine Exists.intro _ (And.intro (hrl) ?_); conv => whnf) | (refine Or.inr (Or.inr (Or.inl ?_)); (conv => whnf); refine Exists.intro _ (And.intro (hrl) ?_); conv => whnf) | (refine Exists.intro _ (And.intro (hrl) ?_); conv => whnf) | (refine Or.inl ?_; (conv => whnf); refine Exists.intro _ (And.intro (ha) ?_); conv => whnf) | (refine Or.inr (Or.inr (Or.inl ?_)); (conv => whnf); refine Exists.intro _ (And.intro (ha) ?_); conv => whnf) | (refine Exists.intro _ (And.intro (ha) ?_); conv => whnf) | (refine WR_fit ?_ ?_; (focus (first | exact wr_i64 (by omega) | exact wr_u64 (by omega) | exact wr_u8 (by omega) | exact wr_i32 (by omega) | exact wr_u32 (by omega))); conv => whnf) | (refine WR_wrap ?_; conv => whnf) | (refine And.intro (a := indepB _ _ = true) ?_ ?_; (focus kernel_rfl); conv => whnf) | (refine And.intro rfl ?_; conv => whnf) | (refine And.intro ?_ ?_; (focus (first | omega | decide | (dsimp only; omega) | (simp at *; omega))); conv => whnf))
        all_goals first | contradiction | (exfalso; omega) | rfl | (exact absurd trivial ‹_›) | trace_state
    · rw [decide_eq_false hm] at hm1 hm2
      have hlr : lineR e ns = ([], 1) := by unfold lineR; rw [if_neg (fun h => hm h.1)]
      rw [hlr] at hli
      refine ACalls.of_WA ttok Tryd.func4 rfl rfl _ rfl ?_
      conv => whnf
      repeat' (first | refine WA_seq ?_ | (refine WA_region ttok ?_; conv => whnf) | (refine WA_draw ttok mixed ?_; conv => whnf) | (refine WA_cond ?_; conv => whnf) | refine WA_block ?_ | (refine WA_skip ?_; conv => whnf) | (refine WA_exit ?_; conv => whnf) | (refine WA_ret ?_; conv => whnf) | (refine And.intro (fun h => ?_) (fun h => ?_) <;> (try simp only [brsA] at h) <;> conv => whnf) | (refine Or.inl ?_; (conv => whnf); refine Exists.intro _ (And.intro (hli) ?_); conv => whnf) | (refine Or.inr (Or.inr (Or.inl ?_)); (conv => whnf); refine Exists.intro _ (And.intro (hli) ?_); conv => whnf) | (refine Exists.intro _ (And.intro (hli) ?_); conv => whnf) | (refine Or.inl ?_; (conv => whnf); refine Exists.intro _ (And.intro (hm1) ?_); conv => whnf) | (refine Or.inr (Or.inr (Or.inl ?_)); (conv => whnf); refine Exists.intro _ (And.intro (hm1) ?_); conv => whnf) | (refine Exists.intro _ (And.intro (hm1) ?_); conv => whnf) | (refine Or.inl ?_; (conv => whnf); refine Exists.intro _ (And.intro (hm2) ?_); conv => whnf) | (refine Or.inr (Or.inr (Or.inl ?_)); (conv => whnf); refine Exists.intro _ (And.intro (hm2) ?_); conv => whnf) | (refine Exists.intro _ (And.intro (hm2) ?_); conv => whnf) | (refine Or.inl ?_; (conv => whnf); refine Exists.intro _ (And.intro (hw1) ?_); conv => whnf) | (refine Or.inr (Or.inr (Or.inl ?_)); (conv => whnf); refine Exists.intro _ (And.intro (hw1) ?_); conv => whnf) | (refine Exists.intro _ (And.intro (hw1) ?_); conv => whnf) | (refine Or.inl ?_; (conv => whnf); refine Exists.intro _ (And.intro (hw2) ?_); conv => whnf) | (refine Or.inr (Or.inr (Or.inl ?_)); (conv => whnf); refine Exists.intro _ (And.intro (hw2) ?_); conv => whnf) | (refine Exists.intro _ (And.intro (hw2) ?_); conv => whnf) | (refine Or.inl ?_; (conv => whnf); refine Exists.intro _ (And.intro (ha) ?_); conv => whnf) | (refine Or.inr (Or.inr (Or.inl ?_)); (conv => whnf); refine Exists.intro _ (And.intro (ha) ?_); conv => whnf) | (refine Exists.intro _ (And.intro (ha) ?_); conv => whnf) | (refine WR_fit ?_ ?_; (focus (first | exact wr_i64 (by omega) | exact wr_u64 (by omega) | exact wr_u8 (by omega) | exact wr_i32 (by omega) | exact wr_u32 (by omega))); conv => whnf) | (refine WR_wrap ?_; conv => whnf) | (refine And.intro (a := indepB _ _ = true) ?_ ?_; (focus kernel_rfl); conv => whnf) | (refine And.intro rfl ?_; conv => whnf) | (refine And.intro ?_ ?_; (focus (first | omega | decide | (dsimp only; omega) | (simp at *; omega))); conv => whnf))
      all_goals first | contradiction | (exfalso; omega) | rfl | (exact absurd trivial ‹_›) | trace_state
end Go.Proofs.YtagokdeflnkplaaDoor

/-
  PROVED: for any lines and any further line the law CutsOf returns true, and the arguments read as they did. Conditions: none.
-/
import Derived.Test.YtcomiiakkhafpaaGreatCut2
import Derived.Test.YtcomiiakkhafpaaGreatAm4
set_option linter.unusedSimpArgs false
set_option linter.unusedSectionVars false
namespace Go.Proofs.YtcomiiakkhafpaaGreat
open Go.Proofs.YtcomiiakkhafpaaGreat.Am Go.Sort Go.Proofs Go.Lib
variable [Inhabited DRT]
variable {G : GInv}
/-! ### The law CutsOf -/
theorem put_len (L : List Cu) (c : Cu) : (putL ltU L c).length ≤ L.length + 1 := by
 unfold putL
 split
 ·omega
 ·simp; omega
theorem rone_len (s : Sg) (l : List Sg) (but : Int) : ∀ k, (rOneK s l but k).length ≤ 2 + 2 * k
 | 0 => Nat.le_refl _
 | k + 1 => by
  have h1 := rone_len s l but k
  have h2 := byL_len s (l.getD k default)
  have h3 : ∀ (M L : List Cu), (M.foldl (putL ltU) L).length ≤ L.length + M.length := by
   intro M
   induction M with
   | nil => intro L; simp
   | cons c M ih =>
    intro L
    have := ih (putL ltU L c)
    have hp : (putL ltU L c).length ≤ L.length + 1 := by
     unfold putL
     split
     ·omega
     ·simp; omega
    rw [List.foldl_cons, List.length_cons]; omega
  unfold rOneK
  split
  ·omega
  ·have := h3 (byL s (l.getD k default)) (rOneK s l but k); omega
set_option maxRecDepth 100000 in
set_option maxHeartbeats 4000000 in
theorem rcone_c (s : Sg) (l : List Sg) (but : Int) (hL : LineS s) (hl : l.length ≤ 400) : ACalls Tryz.prog G 39 [.agg (sgA s), sgsA l, .int .i64 but] (cutsA (rOneK s l but l.length)) := by
 have h1 := rMade_c (G := G) s 0 1 hL (by omega)
 have h2 := rMade_c (G := G) s 1 1 hL (by omega)
 unfold eCu at h1 h2
 refine ACalls.of_WA ttok Tryz.func39 rfl rfl _ rfl ?_
 conv => whnf
 repeat' (first | refine WA_seq ?_ | refine WA_block ?_ | ((first | refine WA_region ttok ?_ | refine WA_draw ttok mixed ?_ | refine WA_cond ?_ | refine WA_skip ?_ | refine WA_exit ?_ | refine WA_ret ?_); conv => whnf) | (refine And.intro (fun h => ?_) (fun h => ?_) <;> (try simp only [brsA] at h) <;> conv => whnf) | (refine Or.inl ?_; (conv => whnf); refine ⟨_, h1, ?_⟩; conv => whnf) | (refine Or.inr (Or.inr (Or.inl ?_)); (conv => whnf); refine ⟨_, h1, ?_⟩; conv => whnf) | (refine Exists.intro _ (And.intro (h1) ?_); conv => whnf) | (refine Or.inl ?_; (conv => whnf); refine ⟨_, h2, ?_⟩; conv => whnf) | (refine Or.inr (Or.inr (Or.inl ?_)); (conv => whnf); refine ⟨_, h2, ?_⟩; conv => whnf) | (refine Exists.intro _ (And.intro (h2) ?_); conv => whnf) | (refine WR_fit ?_ ?_; (focus (first | exact wr_i64 (by omega) | exact wr_u64 (by omega) | exact wr_u8 (by omega) | exact wr_i32 (by omega) | exact wr_u32 (by omega))); conv => whnf) | ((first | refine WR_wrap ?_ | (refine And.intro (a := indepB _ _ = true) ?_ ?_; (focus kernel_rfl)) | refine And.intro rfl ?_ | (refine And.intro ?_ ?_; (focus (first | omega | decide | (dsimp only; omega) | (simp at *; omega))))); conv => whnf))
 refine WA_freeze 1 ?_
 conv => whnf
 repeat' (first | refine WA_seq ?_ | refine WA_block ?_ | ((first | refine WA_region ttok ?_ | refine WA_draw ttok mixed ?_ | refine WA_cond ?_ | refine WA_skip ?_ | refine WA_exit ?_ | refine WA_ret ?_); conv => whnf) | (refine And.intro (fun h => ?_) (fun h => ?_) <;> (try simp only [brsA] at h) <;> conv => whnf) | (refine WR_fit ?_ ?_; (focus (first | exact wr_i64 (by omega) | exact wr_u64 (by omega) | exact wr_u8 (by omega) | exact wr_i32 (by omega) | exact wr_u32 (by omega))); conv => whnf) | ((first | refine WR_wrap ?_ | (refine And.intro (a := indepB _ _ = true) ?_ ?_; (focus kernel_rfl)) | refine And.intro rfl ?_ | (refine And.intro ?_ ?_; (focus (first | omega | decide | (dsimp only; omega) | (simp at *; omega))))); conv => whnf))
 refine WA_loopI (fun k : Nat => k ≤ l.length) (fun k => [(8, .int .i64 (k : Int)), (7, cutsA (rOneK s l but k))]) (fun _ => [.box 45 (sgA s)]) (fun k => l.length - k) 0 (Nat.zero_le _) ?_ ?_
 ·conv => whnf
  repeat (first | exact rfl | exact trivial | exact Or.inl (fun _ _ => rfl) | exact (fun _ => rfl) | exact (fun _ _ => rfl) | exact Or.inl (fun _ hi => absurd hi (Nat.not_lt_zero _)) | ((first | refine And.intro rfl ?_ | refine And.intro (Or.inl (fun _ _ => rfl)) ?_ | refine And.intro (fun _ => rfl) ?_ | refine And.intro (fun _ _ => rfl) ?_ | (refine And.intro ?_ ?_; rotate_left)); conv => whnf))
  all_goals (refine Or.inl fun i hi => ?_; rcases i with _ | _ | _ | _ | i <;> first | rfl | omega)
 ·intro k hk
  have hm := rof_c (G := G) s (l.getD k default)
  have hlen := rone_len s l but k
  have hnx : rOneK s l but (k + 1) = if (k : Int) = but then rOneK s l but k else (byL s (l.getD k default)).foldl (putL ltU) (rOneK s l but k) := rfl
  obtain ⟨L, hLk⟩ : ∃ L, rOneK s l but k = L := ⟨_, rfl⟩
  rw [hLk] at hlen hnx ⊢
  rcases meet_kind s (l.getD k default) with hk0 | hk1 | hk2
  ·have e : byL s (l.getD k default) = [] := by unfold byL; rw [if_neg (by omega), if_neg (by omega)]
   rw [e] at hnx
   generalize meetM s (l.getD k default) = m at *
   obtain ⟨kk, n, mm, d, p, q⟩ := m
   simp only at hk0
   subst hk0
   have hnx : rOneK s l but (k + 1) = if (k : Int) = but then L else L := hnx
   conv => whnf
   repeat' (first | refine WA_seq ?_ | refine WA_block ?_ | ((first | refine WA_region ttok ?_ | refine WA_draw ttok mixed ?_ | refine WA_cond ?_ | refine WA_skip ?_ | refine WA_exit ?_ | refine WA_ret ?_); conv => whnf) | (refine And.intro (fun h => ?_) (fun h => ?_) <;> (try simp only [brsA] at h) <;> conv => whnf) | (refine Or.inl ?_; (conv => whnf); refine ⟨_, hm, ?_⟩; conv => whnf) | (refine Or.inr (Or.inr (Or.inl ?_)); (conv => whnf); refine ⟨_, hm, ?_⟩; conv => whnf) | (refine Exists.intro _ (And.intro (hm) ?_); conv => whnf) | (refine WR_fit ?_ ?_; (focus (first | exact wr_i64 (by omega) | exact wr_u64 (by omega) | exact wr_u8 (by omega) | exact wr_i32 (by omega) | exact wr_u32 (by omega))); conv => whnf) | ((first | refine WR_wrap ?_ | (refine And.intro (a := indepB _ _ = true) ?_ ?_; (focus kernel_rfl)) | refine And.intro rfl ?_ | (refine And.intro ?_ ?_; (focus (first | omega | decide | (dsimp only; omega) | (simp at *; omega))))); conv => whnf))
   all_goals first | contradiction | (exfalso; omega) | skip
   ·rename_i hbut
    rw [if_pos (by assumption)] at hnx
    refine ⟨k + 1, (by show k + 1 ≤ l.length; omega), (by show l.length - (k + 1) < l.length - k; omega), ?_⟩
    conv => whnf
    repeat (first | exact rfl | exact trivial | exact Or.inl (fun _ _ => rfl) | exact (fun _ => rfl) | exact (fun _ _ => rfl) | exact Or.inl (fun _ hi => absurd hi (Nat.not_lt_zero _)) | ((first | refine And.intro rfl ?_ | refine And.intro (Or.inl (fun _ _ => rfl)) ?_ | refine And.intro (fun _ => rfl) ?_ | refine And.intro (fun _ _ => rfl) ?_ | (refine And.intro ?_ ?_; rotate_left)); conv => whnf))
    all_goals (rw [hnx]; try first | rfl | exact Or.inl fun _ _ => rfl | exact ⟨rfl, Or.inl fun _ _ => rfl⟩)
   ·rw [if_neg (by assumption)] at hnx
    refine ⟨k + 1, (by show k + 1 ≤ l.length; omega), (by show l.length - (k + 1) < l.length - k; omega), ?_⟩
    conv => whnf
    repeat (first | exact rfl | exact trivial | exact Or.inl (fun _ _ => rfl) | exact (fun _ => rfl) | exact (fun _ _ => rfl) | exact Or.inl (fun _ hi => absurd hi (Nat.not_lt_zero _)) | ((first | refine And.intro rfl ?_ | refine And.intro (Or.inl (fun _ _ => rfl)) ?_ | refine And.intro (fun _ => rfl) ?_ | refine And.intro (fun _ _ => rfl) ?_ | (refine And.intro ?_ ?_; rotate_left)); conv => whnf))
    all_goals (rw [hnx]; try first | rfl | exact Or.inl fun _ _ => rfl | exact ⟨rfl, Or.inl fun _ _ => rfl⟩)
   ·have ek : k = l.length := by omega
    subst ek
    exact ⟨by rw [hLk], Or.inl fun _ _ => by rw [hLk]⟩
  ·have e : byL s (l.getD k default) = [mkC s (meetM s (l.getD k default)).n (meetM s (l.getD k default)).d] := by unfold byL; rw [if_pos hk1]
   rw [e] at hnx
   obtain ⟨_, _, _, _, _, _, hd, _⟩ := same_place s _ hk1
   have g1 := rMade_c (G := G) s (meetM s (l.getD k default)).n (meetM s (l.getD k default)).d hL hd
   have g2 := cput_c (G := G) L (mkC s (meetM s (l.getD k default)).n (meetM s (l.getD k default)).d) (by omega)
   generalize mkC s (meetM s (l.getD k default)).n (meetM s (l.getD k default)).d = c at *
   unfold eCu at g1 g2
   generalize meetM s (l.getD k default) = m at *
   obtain ⟨kk, n, mm, d, p, q⟩ := m
   simp only at hk1
   subst hk1
   have hnx : rOneK s l but (k + 1) = if (k : Int) = but then L else putL ltU L c := hnx
   conv => whnf
   repeat' (first | refine WA_seq ?_ | refine WA_block ?_ | ((first | refine WA_region ttok ?_ | refine WA_draw ttok mixed ?_ | refine WA_cond ?_ | refine WA_skip ?_ | refine WA_exit ?_ | refine WA_ret ?_); conv => whnf) | (refine And.intro (fun h => ?_) (fun h => ?_) <;> (try simp only [brsA] at h) <;> conv => whnf) | (refine Or.inl ?_; (conv => whnf); refine ⟨_, hm, ?_⟩; conv => whnf) | (refine Or.inr (Or.inr (Or.inl ?_)); (conv => whnf); refine ⟨_, hm, ?_⟩; conv => whnf) | (refine Exists.intro _ (And.intro (hm) ?_); conv => whnf) | (refine Or.inl ?_; (conv => whnf); refine ⟨_, g1, ?_⟩; conv => whnf) | (refine Or.inr (Or.inr (Or.inl ?_)); (conv => whnf); refine ⟨_, g1, ?_⟩; conv => whnf) | (refine Exists.intro _ (And.intro (g1) ?_); conv => whnf) | (refine Or.inl ?_; (conv => whnf); refine ⟨_, g2, ?_⟩; conv => whnf) | (refine Or.inr (Or.inr (Or.inl ?_)); (conv => whnf); refine ⟨_, g2, ?_⟩; conv => whnf) | (refine Exists.intro _ (And.intro (g2) ?_); conv => whnf) | (refine WR_fit ?_ ?_; (focus (first | exact wr_i64 (by omega) | exact wr_u64 (by omega) | exact wr_u8 (by omega) | exact wr_i32 (by omega) | exact wr_u32 (by omega))); conv => whnf) | ((first | refine WR_wrap ?_ | (refine And.intro (a := indepB _ _ = true) ?_ ?_; (focus kernel_rfl)) | refine And.intro rfl ?_ | (refine And.intro ?_ ?_; (focus (first | omega | decide | (dsimp only; omega) | (simp at *; omega))))); conv => whnf))
   all_goals first | contradiction | (exfalso; omega) | skip
   ·rename_i hbut
    rw [if_pos (by assumption)] at hnx
    refine ⟨k + 1, (by show k + 1 ≤ l.length; omega), (by show l.length - (k + 1) < l.length - k; omega), ?_⟩
    conv => whnf
    repeat (first | exact rfl | exact trivial | exact Or.inl (fun _ _ => rfl) | exact (fun _ => rfl) | exact (fun _ _ => rfl) | exact Or.inl (fun _ hi => absurd hi (Nat.not_lt_zero _)) | ((first | refine And.intro rfl ?_ | refine And.intro (Or.inl (fun _ _ => rfl)) ?_ | refine And.intro (fun _ => rfl) ?_ | refine And.intro (fun _ _ => rfl) ?_ | (refine And.intro ?_ ?_; rotate_left)); conv => whnf))
    all_goals (rw [hnx]; try first | rfl | exact Or.inl fun _ _ => rfl | exact ⟨rfl, Or.inl fun _ _ => rfl⟩)
   ·rw [if_neg (by assumption)] at hnx
    refine ⟨k + 1, (by show k + 1 ≤ l.length; omega), (by show l.length - (k + 1) < l.length - k; omega), ?_⟩
    conv => whnf
    repeat (first | exact rfl | exact trivial | exact Or.inl (fun _ _ => rfl) | exact (fun _ => rfl) | exact (fun _ _ => rfl) | exact Or.inl (fun _ hi => absurd hi (Nat.not_lt_zero _)) | ((first | refine And.intro rfl ?_ | refine And.intro (Or.inl (fun _ _ => rfl)) ?_ | refine And.intro (fun _ => rfl) ?_ | refine And.intro (fun _ _ => rfl) ?_ | (refine And.intro ?_ ?_; rotate_left)); conv => whnf))
    all_goals (rw [hnx]; try first | rfl | exact Or.inl fun _ _ => rfl | exact ⟨rfl, Or.inl fun _ _ => rfl⟩)
   ·have ek : k = l.length := by omega
    subst ek
    exact ⟨by rw [hLk], Or.inl fun _ _ => by rw [hLk]⟩
  ·have e : byL s (l.getD k default) = [atC s (meetM s (l.getD k default)).p, atC s (meetM s (l.getD k default)).q] := by unfold byL; rw [if_neg (by omega), if_pos hk2]
   rw [e] at hnx
   have g1 := rcAt_c (G := G) s (meetM s (l.getD k default)).p hL
   have g2 := rcAt_c (G := G) s (meetM s (l.getD k default)).q hL
   have g3 := cput_c (G := G) L (atC s (meetM s (l.getD k default)).p) (by omega)
   have g4 := cput_c (G := G) (putL ltU L (atC s (meetM s (l.getD k default)).p)) (atC s (meetM s (l.getD k default)).q) (by have := put_len L (atC s (meetM s (l.getD k default)).p); omega)
   generalize atC s (meetM s (l.getD k default)).p = c1 at *
   generalize atC s (meetM s (l.getD k default)).q = c2 at *
   unfold eCu at g1 g2 g3 g4
   generalize meetM s (l.getD k default) = m at *
   obtain ⟨kk, n, mm, d, p, q⟩ := m
   simp only at hk2
   subst hk2
   have hnx : rOneK s l but (k + 1) = if (k : Int) = but then L else putL ltU (putL ltU L c1) c2 := hnx
   conv => whnf
   repeat' (first | refine WA_seq ?_ | refine WA_block ?_ | ((first | refine WA_region ttok ?_ | refine WA_draw ttok mixed ?_ | refine WA_cond ?_ | refine WA_skip ?_ | refine WA_exit ?_ | refine WA_ret ?_); conv => whnf) | (refine And.intro (fun h => ?_) (fun h => ?_) <;> (try simp only [brsA] at h) <;> conv => whnf) | (refine Or.inl ?_; (conv => whnf); refine ⟨_, hm, ?_⟩; conv => whnf) | (refine Or.inr (Or.inr (Or.inl ?_)); (conv => whnf); refine ⟨_, hm, ?_⟩; conv => whnf) | (refine Exists.intro _ (And.intro (hm) ?_); conv => whnf) | (refine Or.inl ?_; (conv => whnf); refine ⟨_, g1, ?_⟩; conv => whnf) | (refine Or.inr (Or.inr (Or.inl ?_)); (conv => whnf); refine ⟨_, g1, ?_⟩; conv => whnf) | (refine Exists.intro _ (And.intro (g1) ?_); conv => whnf) | (refine Or.inl ?_; (conv => whnf); refine ⟨_, g2, ?_⟩; conv => whnf) | (refine Or.inr (Or.inr (Or.inl ?_)); (conv => whnf); refine ⟨_, g2, ?_⟩; conv => whnf) | (refine Exists.intro _ (And.intro (g2) ?_); conv => whnf) | (refine Or.inl ?_; (conv => whnf); refine ⟨_, g3, ?_⟩; conv => whnf) | (refine Or.inr (Or.inr (Or.inl ?_)); (conv => whnf); refine ⟨_, g3, ?_⟩; conv => whnf) | (refine Exists.intro _ (And.intro (g3) ?_); conv => whnf) | (refine Or.inl ?_; (conv => whnf); refine ⟨_, g4, ?_⟩; conv => whnf) | (refine Or.inr (Or.inr (Or.inl ?_)); (conv => whnf); refine ⟨_, g4, ?_⟩; conv => whnf) | (refine Exists.intro _ (And.intro (g4) ?_); conv => whnf) | (refine WR_fit ?_ ?_; (focus (first | exact wr_i64 (by omega) | exact wr_u64 (by omega) | exact wr_u8 (by omega) | exact wr_i32 (by omega) | exact wr_u32 (by omega))); conv => whnf) | ((first | refine WR_wrap ?_ | (refine And.intro (a := indepB _ _ = true) ?_ ?_; (focus kernel_rfl)) | refine And.intro rfl ?_ | (refine And.intro ?_ ?_; (focus (first | omega | decide | (dsimp only; omega) | (simp at *; omega))))); conv => whnf))
   all_goals first | contradiction | (exfalso; omega) | skip
   ·rename_i hbut
    rw [if_pos (by assumption)] at hnx
    refine ⟨k + 1, (by show k + 1 ≤ l.length; omega), (by show l.length - (k + 1) < l.length - k; omega), ?_⟩
    conv => whnf
    repeat (first | exact rfl | exact trivial | exact Or.inl (fun _ _ => rfl) | exact (fun _ => rfl) | exact (fun _ _ => rfl) | exact Or.inl (fun _ hi => absurd hi (Nat.not_lt_zero _)) | ((first | refine And.intro rfl ?_ | refine And.intro (Or.inl (fun _ _ => rfl)) ?_ | refine And.intro (fun _ => rfl) ?_ | refine And.intro (fun _ _ => rfl) ?_ | (refine And.intro ?_ ?_; rotate_left)); conv => whnf))
    all_goals (rw [hnx]; try first | rfl | exact Or.inl fun _ _ => rfl | exact ⟨rfl, Or.inl fun _ _ => rfl⟩)
   ·rw [if_neg (by assumption)] at hnx
    refine ⟨k + 1, (by show k + 1 ≤ l.length; omega), (by show l.length - (k + 1) < l.length - k; omega), ?_⟩
    conv => whnf
    repeat (first | exact rfl | exact trivial | exact Or.inl (fun _ _ => rfl) | exact (fun _ => rfl) | exact (fun _ _ => rfl) | exact Or.inl (fun _ hi => absurd hi (Nat.not_lt_zero _)) | ((first | refine And.intro rfl ?_ | refine And.intro (Or.inl (fun _ _ => rfl)) ?_ | refine And.intro (fun _ => rfl) ?_ | refine And.intro (fun _ _ => rfl) ?_ | (refine And.intro ?_ ?_; rotate_left)); conv => whnf))
    all_goals (rw [hnx]; try first | rfl | exact Or.inl fun _ _ => rfl | exact ⟨rfl, Or.inl fun _ _ => rfl⟩)
   ·have ek : k = l.length := by omega
    subst ek
    exact ⟨by rw [hLk], Or.inl fun _ _ => by rw [hLk]⟩
end Go.Proofs.YtcomiiakkhafpaaGreat
namespace Go.Proofs.YtcomiiakkhafpaaGreat
open Go.Proofs.YtcomiiakkhafpaaGreat.Am Go.Sort Go.Proofs Go.Lib
variable [Inhabited DRT]
variable {G : GInv}
/-! ### The law CutsOf -/
def FO (l : List Sg) (i : Nat) : List Cu := rOneK (l.getD i default) l i l.length
theorem FO_ok (l : List Sg) : ∀ i, i < l.length → FO l i = ofF l i := fun i hi => (of_eq l i hi).symm
set_option maxRecDepth 100000 in
set_option maxHeartbeats 4000000 in
theorem cutsOf_bad (hns : ¬ (default : DRT).ns) (l : List Sg) (s : Sg) (h : 24 < l.length ∨ chk l ≠ 0) : ACalls Tryz.prog G 8 [sgsA l, .agg (sgA s)] (.sb true) := by
 have ha := cawake_c (G := G) hns
 by_cases hl : 24 < l.length
 ·refine ACalls.of_WA ttok Tryz.func8 rfl rfl _ rfl ?_
  conv => whnf
  repeat' (first | (exact absurd hl (by omega)) | refine sq ?_ | refine bk ?_ | ((first | refine rg ttok ?_ | refine dw ttok mixed ?_ | refine cd ?_ | refine sk ?_ | refine xt ?_ | refine rt ?_); conv => whnf) | (refine And.intro (fun h => ?_) (fun h => ?_) <;> (try simp only [brsA] at h) <;> conv => whnf) | (refine Or.inl ?_; (conv => whnf); refine ⟨_, ha, ?_⟩; conv => whnf) | ((first | refine wf ?_ | refine wp' ?_ | refine ai ?_ | refine And.intro rfl ?_ | refine an ?_ | fail); conv => whnf))
  all_goals first | contradiction | (exfalso; omega) | rfl | trace_state
 ·have hk : chk l ≠ 0 := by omega
  have h1 := cof_bad (G := G) l hk
  have h2 := rcheck_c (G := G) l
  have h3 := rline_c (G := G) s
  by_cases hL : LineS s
  ·have h4 := one_bad2 (G := G) s l hL hk
   rw [decide_eq_true hL] at h3
   generalize chk l = z at *
   refine ACalls.of_WA ttok Tryz.func8 rfl rfl _ rfl ?_
   conv => whnf
   repeat' (first | (exact absurd trivial (by assumption)) | (contradiction) | refine sq ?_ | refine bk ?_ | ((first | refine rg ttok ?_ | refine dw ttok mixed ?_ | refine cd ?_ | refine sk ?_ | refine xt ?_ | refine rt ?_); conv => whnf) | (refine And.intro (fun h => ?_) (fun h => ?_) <;> (try simp only [brsA] at h) <;> conv => whnf) | (refine Or.inl ?_; (conv => whnf); (first | refine ⟨_, h1, ?_⟩ | refine ⟨_, h2, ?_⟩ | refine ⟨_, h3, ?_⟩ | refine ⟨_, h4, ?_⟩ | refine ⟨_, ha, ?_⟩); conv => whnf) | ((first | refine wf ?_ | refine wp' ?_ | refine ai ?_ | refine And.intro rfl ?_ | refine an ?_ | fail); conv => whnf))
   all_goals first | contradiction | (exfalso; omega) | rfl | (simp; done) | trace_state
  ·have h4 := one_bad1 (G := G) s l hL
   rw [decide_eq_false hL] at h3
   generalize chk l = z at *
   refine ACalls.of_WA ttok Tryz.func8 rfl rfl _ rfl ?_
   conv => whnf
   repeat' (first | (exact absurd trivial (by assumption)) | (contradiction) | refine sq ?_ | refine bk ?_ | ((first | refine rg ttok ?_ | refine dw ttok mixed ?_ | refine cd ?_ | refine sk ?_ | refine xt ?_ | refine rt ?_); conv => whnf) | (refine And.intro (fun h => ?_) (fun h => ?_) <;> (try simp only [brsA] at h) <;> conv => whnf) | (refine Or.inl ?_; (conv => whnf); (first | refine ⟨_, h1, ?_⟩ | refine ⟨_, h2, ?_⟩ | refine ⟨_, h3, ?_⟩ | refine ⟨_, h4, ?_⟩ | refine ⟨_, ha, ?_⟩); conv => whnf) | ((first | refine wf ?_ | refine wp' ?_ | refine ai ?_ | refine And.intro rfl ?_ | refine an ?_ | fail); conv => whnf))
   all_goals first | contradiction | (exfalso; omega) | rfl | (simp; done) | trace_state
set_option maxRecDepth 100000 in
set_option maxHeartbeats 4000000 in
theorem cutsOf_ok (hns : ¬ (default : DRT).ns) (l : List Sg) (s : Sg) (hl : l.length ≤ 24) (hk : chk l = 0) : ACalls Tryz.prog G 8 [sgsA l, .agg (sgA s)] (.sb true) := by
 have ha := cawake_c (G := G) hns
 have h1 := of13_c (G := G) hns l hk (FO l) (FO_ok l)
 have h2 := rcheck_c (G := G) l
 rw [hk] at h2
 have h3 := rline_c (G := G) s
 have hlen : l.length ≤ 400 := by omega
 have hok := (chk_ok hk).2
 by_cases hL : LineS s
 ·have h4 := cone_c (G := G) hns s l hL hk
  have h5 := rcone_c (G := G) s l (-1) hL hlen
  rw [one_eq s l] at h4
  have h6 := csame_c (G := G) (rOneK s l (-1) l.length) (by have := rone_len s l (-1) l.length; omega)
  rw [decide_eq_true hL] at h3
  generalize rOneK s l (-1) l.length = L at *
  refine ACalls.of_WA ttok Tryz.func8 rfl rfl _ rfl ?_
  conv => whnf
  repeat' (first | (exact absurd trivial (by assumption)) | (contradiction) | refine sq ?_ | refine bk ?_ | ((first | refine rg ttok ?_ | refine dw ttok mixed ?_ | refine cd ?_ | refine sk ?_ | refine xt ?_ | refine rt ?_); conv => whnf) | (refine And.intro (fun h => ?_) (fun h => ?_) <;> (try simp only [brsA] at h) <;> conv => whnf) | (refine Or.inl ?_; (conv => whnf); (first | refine ⟨_, h1, ?_⟩ | refine ⟨_, h2, ?_⟩ | refine ⟨_, h3, ?_⟩ | refine ⟨_, h4, ?_⟩ | refine ⟨_, h5, ?_⟩ | refine ⟨_, h6, ?_⟩ | refine ⟨_, ha, ?_⟩); conv => whnf) | ((first | refine wf ?_ | refine wp' ?_ | refine ai ?_ | refine And.intro rfl ?_ | refine an ?_ | fail); conv => whnf))
  all_goals first | contradiction | (exfalso; omega) | skip
  refine WA_loopI (fun i : Nat => i ≤ l.length) (fun i => [(10, .int .i64 (i : Int))]) (fun _ => [.box 45 (sgA s)]) (fun i => l.length - i) 0 (Nat.zero_le _) ?_ ?_
  ·conv => whnf
   repeat (first | exact fa | ((first | refine fb ?_ | (refine And.intro ?_ ?_; rotate_left)); conv => whnf))
  ·intro i hi
   have g1 := fun h : i < l.length => rcone_c (G := G) (l.getD i default) l (i : Int) (hok i h) hlen
   have g2 := csame_c (G := G) (FO l i) (by have := rone_len (l.getD i default) l i l.length; show (rOneK _ _ _ _).length ≤ _; omega)
   have g1 : i < l.length → ACalls Tryz.prog G 39 [.agg (sgA (l.getD i default)), sgsA l, .int .i64 (i : Int)] (cutsA (FO l i)) := g1
   conv => whnf
   repeat (first | refine sq ?_ | refine bk ?_ | ((first | refine rg ttok ?_ | refine dw ttok mixed ?_ | refine cd ?_ | refine sk ?_ | refine xt ?_ | refine rt ?_); conv => whnf))
   refine ⟨fun h => ?_, fun h => ?_⟩
   ·have h := of_decide_eq_true h
    have g1 := g1 (by omega)
    conv => whnf
    repeat' (first | (exact absurd trivial (by assumption)) | refine sq ?_ | refine bk ?_ | ((first | refine rg ttok ?_ | refine dw ttok mixed ?_ | refine cd ?_ | refine sk ?_ | refine xt ?_ | refine rt ?_); conv => whnf) | (refine And.intro (fun h => ?_) (fun h => ?_) <;> (try simp only [brsA] at h) <;> conv => whnf) | (refine Or.inl ?_; (conv => whnf); (first | refine ⟨_, g1, ?_⟩ | refine ⟨_, g2, ?_⟩); conv => whnf) | ((first | refine wf ?_ | refine wp' ?_ | refine ai ?_ | refine And.intro rfl ?_ | refine an ?_ | fail); conv => whnf))
    all_goals first | contradiction | (exfalso; omega) | skip
    ·refine ⟨i + 1, (by show i + 1 ≤ l.length; omega), (by show l.length - (i + 1) < l.length - i; omega), ?_⟩
     conv => whnf
     repeat (first | exact fa | ((first | refine fb ?_ | (refine And.intro ?_ ?_; rotate_left)); conv => whnf))
   ·conv => whnf
    repeat' (first | refine sq ?_ | refine bk ?_ | ((first | refine rg ttok ?_ | refine dw ttok mixed ?_ | refine cd ?_ | refine sk ?_ | refine xt ?_ | refine rt ?_); conv => whnf) | (refine And.intro (fun h => ?_) (fun h => ?_) <;> (try simp only [brsA] at h) <;> conv => whnf) | (refine Or.inl ?_; (conv => whnf); refine ⟨_, ha, ?_⟩; conv => whnf) | ((first | refine wf ?_ | refine wp' ?_ | refine ai ?_ | refine And.intro rfl ?_ | refine an ?_ | fail); conv => whnf))
    all_goals first | contradiction | (exfalso; omega) | rfl | trace_state
 ·have h4 := one_bad1 (G := G) s l hL
  rw [decide_eq_false hL] at h3
  refine ACalls.of_WA ttok Tryz.func8 rfl rfl _ rfl ?_
  conv => whnf
  repeat' (first | (exact absurd trivial (by assumption)) | (contradiction) | refine sq ?_ | refine bk ?_ | ((first | refine rg ttok ?_ | refine dw ttok mixed ?_ | refine cd ?_ | refine sk ?_ | refine xt ?_ | refine rt ?_); conv => whnf) | (refine And.intro (fun h => ?_) (fun h => ?_) <;> (try simp only [brsA] at h) <;> conv => whnf) | (refine Or.inl ?_; (conv => whnf); (first | refine ⟨_, h1, ?_⟩ | refine ⟨_, h2, ?_⟩ | refine ⟨_, h3, ?_⟩ | refine ⟨_, h4, ?_⟩ | refine ⟨_, ha, ?_⟩); conv => whnf) | ((first | refine wf ?_ | refine wp' ?_ | refine ai ?_ | refine And.intro rfl ?_ | refine an ?_ | fail); conv => whnf))
  all_goals first | contradiction | (exfalso; omega) | skip
  refine WA_loopI (fun i : Nat => i ≤ l.length) (fun i => [(10, .int .i64 (i : Int))]) (fun _ => [.box 45 (sgA s)]) (fun i => l.length - i) 0 (Nat.zero_le _) ?_ ?_
  ·conv => whnf
   repeat (first | exact fa | ((first | refine fb ?_ | (refine And.intro ?_ ?_; rotate_left)); conv => whnf))
  ·intro i hi
   have g1 := fun h : i < l.length => rcone_c (G := G) (l.getD i default) l (i : Int) (hok i h) hlen
   have g2 := csame_c (G := G) (FO l i) (by have := rone_len (l.getD i default) l i l.length; show (rOneK _ _ _ _).length ≤ _; omega)
   have g1 : i < l.length → ACalls Tryz.prog G 39 [.agg (sgA (l.getD i default)), sgsA l, .int .i64 (i : Int)] (cutsA (FO l i)) := g1
   conv => whnf
   repeat (first | refine sq ?_ | refine bk ?_ | ((first | refine rg ttok ?_ | refine dw ttok mixed ?_ | refine cd ?_ | refine sk ?_ | refine xt ?_ | refine rt ?_); conv => whnf))
   refine ⟨fun h => ?_, fun h => ?_⟩
   ·have h := of_decide_eq_true h
    have g1 := g1 (by omega)
    conv => whnf
    repeat' (first | (exact absurd trivial (by assumption)) | refine sq ?_ | refine bk ?_ | ((first | refine rg ttok ?_ | refine dw ttok mixed ?_ | refine cd ?_ | refine sk ?_ | refine xt ?_ | refine rt ?_); conv => whnf) | (refine And.intro (fun h => ?_) (fun h => ?_) <;> (try simp only [brsA] at h) <;> conv => whnf) | (refine Or.inl ?_; (conv => whnf); (first | refine ⟨_, g1, ?_⟩ | refine ⟨_, g2, ?_⟩); conv => whnf) | ((first | refine wf ?_ | refine wp' ?_ | refine ai ?_ | refine And.intro rfl ?_ | refine an ?_ | fail); conv => whnf))
    all_goals first | contradiction | (exfalso; omega) | skip
    ·refine ⟨i + 1, (by show i + 1 ≤ l.length; omega), (by show l.length - (i + 1) < l.length - i; omega), ?_⟩
     conv => whnf
     repeat (first | exact fa | ((first | refine fb ?_ | (refine And.intro ?_ ?_; rotate_left)); conv => whnf))
   ·conv => whnf
    repeat' (first | refine sq ?_ | refine bk ?_ | ((first | refine rg ttok ?_ | refine dw ttok mixed ?_ | refine cd ?_ | refine sk ?_ | refine xt ?_ | refine rt ?_); conv => whnf) | (refine And.intro (fun h => ?_) (fun h => ?_) <;> (try simp only [brsA] at h) <;> conv => whnf) | (refine Or.inl ?_; (conv => whnf); refine ⟨_, ha, ?_⟩; conv => whnf) | ((first | refine wf ?_ | refine wp' ?_ | refine ai ?_ | refine And.intro rfl ?_ | refine an ?_ | fail); conv => whnf))
    all_goals first | contradiction | (exfalso; omega) | rfl | trace_state
theorem cutsOf_c (hns : ¬ (default : DRT).ns) (l : List Sg) (s : Sg) : ACalls Tryz.prog G 8 [sgsA l, .agg (sgA s)] (.sb true) := by
 by_cases h : 24 < l.length ∨ chk l ≠ 0
 ·exact cutsOf_bad hns l s h
 ·exact cutsOf_ok hns l s (by omega) (by omega)
end Go.Proofs.YtcomiiakkhafpaaGreat
namespace Go.Proofs.YtcomiiakkhafpaaGreat
open Go.ChangeShapes Go.WideShapes Go.ChangeAt Go.RowKit
open Go.Proofs.YtcomiiakkhafpaaGreat.Am
theorem Tryz.own : ownKnob Tryz.prog.godebug = none := by kernel_rfl
theorem Tryz.laidOut : laidOutB Tryz.prog = true := by kernel_rfl
def gTrue : GInv := ⟨fun _ => True, 0, fun _ _ => Nat.zero_le _, fun _ _ _ _ _ => trivial⟩
theorem u3 : Tryz.prog.underlying 3 = some (.int .i64) := by kernel_rfl
instance drI : Inhabited DRT := ⟨⟨False⟩⟩
theorem o_int : Opens Tryz.prog 3 (fun n : Int => [.int .i64 n]) (fun n => -9223372036854775808 ≤ n ∧ n ≤ 9223372036854775807) := opens_i64 u3
theorem o_pt : Opens Tryz.prog 43 ptA (fun _ => True) :=
 (opens_struct (t := 43) (L := [(3, 0, 1), (3, 1, 1)]) (by kernel_rfl) (by kernel_rfl) (opensF_cons o_int (opensF_cons o_int opensF_nil))).to
  (fun x => (⟨x.1, x.2.1⟩ : Pt)) (fun _ => rfl) (fun _ _ => trivial)
theorem o_seg : Opens Tryz.prog 45 sgA (fun _ => True) :=
 (opens_struct (t := 45) (L := [(43, 0, 2), (43, 2, 2)]) (by kernel_rfl) (by kernel_rfl) (opensF_cons o_pt (opensF_cons o_pt opensF_nil))).to
  (fun x => (⟨x.1, x.2.1⟩ : Sg)) (fun _ => rfl) (fun _ _ => trivial)
theorem o_segs : Opens Tryz.prog 66 (fun l : List Sg => [sgsA l]) (fun _ => True) :=
 (opens_slice (e := 45) (sz := 4) (by kernel_rfl) o_seg (by kernel_rfl) (by omega)).to id (fun _ => rfl) (fun _ _ => trivial)
theorem args2 {im : Nat → Prop} {W : World} {x0 x1 : A} {v0 v1 : Value} (h0 : RelI im W x0 v0) (h1 : RelI im W x1 v1) :
  ∀ j (_ : j < [x0, x1].length) (_ : j < [v0, v1].length), RelI im W [x0, x1][j] [v0, v1][j] := by
 intro j h _
 match j with
 | 0 => exact h0
 | 1 => exact h1
 | j + 2 => exact absurd h (by simp)
set_option maxRecDepth 100000 in
theorem cutsOf_lifted (os : Os) (started : os.Started) (H : Type) (enc : TypeId × Value → H) :
  ReturnsInHanded {} Tryz.checked os 8 .any (Rows.cutsOfSpec.pre6 enc Tryz.prog Tryz.f8 Rows.cutsOfRow.domain false) (Rows.cutsOfSpec.post enc Tryz.prog Tryz.f8 false true false false) := by
 refine returnsInHanded_of_change (C := Tryz.checked) Tryz.own started (by kernel_rfl) Tryz.func8
  (ChangeSpec.witness6 (enc := enc) (C := Tryz.checked) false ⟨#[], #[.slice none 0 0, .agg #[.int .i64 0, .int .i64 0, .int .i64 0, .int .i64 0]], []⟩ 8 (by kernel_rfl) (by kernel_rfl) (by kernel_rfl) (by kernel_rfl)) ?_
 intro W base args ds gs before hval0 hW hcnd _
 have hval : ∀ (j : Nat) t v, Tryz.f8.params[j]? = some t → args[j]? = some v → Value.okWide Tryz.prog W .any base t v := hval0
 have hW' := hW
 obtain ⟨p, q, hA0, hV, rfl, hfz, hnd⟩ := hW
 have hA : DataW.TrodAll enc Tryz.prog W 0 (fun _ => true) true Tryz.f8.params.toList args.toList ds p := hA0
 rw [Tryz.params8] at hA hval
 obtain ⟨v0, v1, d0, d1, p0, p1, rfl, rfl, rfl, h0, h1⟩ := trodAll_two hA
 obtain ⟨rfl, rfl⟩ := trodVars_none hV
 have hlt : ∀ x ∈ p0 ++ p1, x.block < W.heap.size := fun x hx => hW'.lt x (by simpa using hx)
 obtain ⟨l, ok0, r0⟩ := o_segs.cell (im := fun b => b < W.heap.size) h0 (okWide_cell (hval 0 66 v0 rfl rfl) (by kernel_rfl)) (fun x hx => hlt x (by simp [hx]))
 obtain ⟨s, ok1, r1⟩ := o_seg.agg (im := fun b => b < W.heap.size) h1 (okWide_agg (hval 1 45 v1 rfl rfl) (by kernel_rfl)) (fun x hx => hlt x (by simp [hx]))
 refine Calls_mono (calls_true (G := gTrue) (cutsOf_c (fun h : (default : DRT).ns => h) l s) (W := W) (vs := [v0, v1]) (im := fun b => b < W.heap.size) (fun _ h => h) trivial rfl (args2 r0 r1)) ?_
 rintro e W' ⟨rfl, hb⟩
 exact ⟨_, rfl, post_true Tryz.laidOut rfl (by kernel_rfl) Tryz.underlying4 (by kernel_rfl) rfl hW' hb⟩
theorem cutsOf_holds : Rows.CutsOfSaid :=
 OpenClaim.holds_of_wide 8 Tryz.f8 rfl rfl rfl rfl rfl rfl rfl ⟨rfl, rfl, rfl, rfl, rfl⟩ rfl rfl rfl rfl rfl (by kernel_rfl) Tryz.func8 (by kernel_rfl)
  (of_decide_eq_true (by kernel_rfl)) (by unfold Func.isWrapper; first | (rw [if_pos (by decide +kernel)]; kernel_rfl) | (rw [if_neg (by decide +kernel)]; exact ⟨rfl, rfl⟩))
  (fun os started H enc _ => cutsOf_lifted os started H enc)
#print axioms cutsOf_holds
end Go.Proofs.YtcomiiakkhafpaaGreat

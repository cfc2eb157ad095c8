/-
  PROVED: for any lines the law CutsShare returns true, and the arguments read as they did. Conditions: none.
-/
import Derived.Test.YtcomiiakkhafpaaGreatShare1
set_option linter.unusedSimpArgs false
set_option linter.unusedSectionVars false
namespace Go.Proofs.YtcomiiakkhafpaaGreat
open Go.Proofs.YtcomiiakkhafpaaGreat.Am Go.Sort Go.Proofs Go.Lib
variable [Inhabited DRT]
variable {G : GInv}
/-! ### The law CutsShare -/
set_option maxRecDepth 100000 in
set_option maxHeartbeats 8000000 in
theorem cutsShare_c (hns : ¬ (default : DRT).ns) (l : List Sg) : ACalls Tryz.prog G 6 [sgsA l] (.sb true) := by
 have ha := cawake_c (G := G) hns
 have h2 := rcheck_c (G := G) l
 by_cases hl : 24 < l.length
 ·refine ACalls.of_WA ttok Tryz.func6 rfl rfl _ rfl ?_
  conv => whnf
  repeat' (first | (exact absurd hl (by omega)) | refine WA_seq ?_ | refine WA_block ?_ | ((first | refine WA_region ttok ?_ | refine WA_draw ttok mixed ?_ | refine WA_cond ?_ | refine WA_skip ?_ | refine WA_exit ?_ | refine WA_ret ?_); conv => whnf) | (refine And.intro (fun h => ?_) (fun h => ?_) <;> (try simp only [brsA] at h) <;> conv => whnf) | (refine Or.inl ?_; (conv => whnf); refine ⟨_, h2, ?_⟩; conv => whnf) | (refine Or.inr (Or.inr (Or.inl ?_)); (conv => whnf); refine ⟨_, h2, ?_⟩; conv => whnf) | (refine Exists.intro _ (And.intro (h2) ?_); conv => whnf) | (refine Or.inl ?_; (conv => whnf); refine ⟨_, ha, ?_⟩; conv => whnf) | (refine Or.inr (Or.inr (Or.inl ?_)); (conv => whnf); refine ⟨_, ha, ?_⟩; conv => whnf) | (refine Exists.intro _ (And.intro (ha) ?_); conv => whnf) | (refine WR_fit ?_ ?_; (focus (first | exact wr_i64 (by omega) | exact wr_u64 (by omega) | exact wr_u8 (by omega) | exact wr_i32 (by omega) | exact wr_u32 (by omega))); conv => whnf) | ((first | refine WR_wrap ?_ | (refine And.intro (a := indepB _ _ = true) ?_ ?_; (focus kernel_rfl)) | refine And.intro rfl ?_ | (refine And.intro ?_ ?_; (focus (first | omega | decide | (dsimp only; omega) | (simp at *; omega))))); conv => whnf))
  all_goals first | contradiction | (exfalso; omega) | rfl | trace_state
 ·by_cases hk : chk l = 0
  ·rw [hk] at h2
   have hlen : l.length ≤ 24 := by omega
   have hok := (chk_ok hk).2
   have h3 := of13_c (G := G) hns l hk (FS l) (FS_ok l)
   have hF : ∀ i, (FS l i).length ≤ 2 + 2 * l.length := fun i => rone_len (l.getD i default) l i l.length
   have hF2 : ∀ i, 2 ≤ (FS l i).length := fs_two l
   have hAt : ∀ i, i < l.length → ACalls Tryz.prog G 30 [.agg (ptA (l.getD i default).a)] (.agg (spL ((FS l i).getD 0 default).1)) := fun i h => by
    have hL := hok i h
    have hA := rAt0_c (G := G) (l.getD i default).a (by have := hL.1.1; unfold In29 at this; omega) (by have := hL.1.2; unfold In29 at this; omega)
    rw [← spot_begin hL, ← fs_begin l i] at hA
    exact hA
   have hBt : ∀ i, i < l.length → ACalls Tryz.prog G 30 [.agg (ptA (l.getD i default).b)] (.agg (spL ((FS l i).getD ((FS l i).length - 1) default).1)) := fun i h => by
    have hL := hok i h
    have hB := rAt0_c (G := G) (l.getD i default).b (by have := hL.2.1.1; unfold In29 at this; omega) (by have := hL.2.1.2; unfold In29 at this; omega)
    rw [← spot_end hL, ← fs_end l i] at hB
    exact hB
   have hnE : ∀ i k, i < l.length → 0 < k → k < (FS l i).length → spL ((FS l i).getD (k - 1) default).1 ≠ spL ((FS l i).getD k default).1 := fun i k h h1 h2 => fs_ne l i k (hok i h) h1 h2
   have hAh : ∀ i k, 0 < k → k < (FS l i).length → ACalls Tryz.prog G 33 [.agg (eCu ((FS l i).getD (k - 1) default)), .agg (eCu ((FS l i).getD k default))] (.bool true) := fun i k h1 h2 => by
    have := cahead_c (G := G) ((FS l i).getD (k - 1) default) ((FS l i).getD k default)
    rw [decide_eq_true (fs_lt l i k h1 h2)] at this
    exact toBc this
   have hTt := fun i m => share_ok (G := G) l i m hlen hok
   generalize FS l = F at *
   refine ACalls.of_WA ttok Tryz.func6 rfl rfl _ rfl ?_
   conv => whnf
   repeat' (first | (exact absurd trivial (by assumption)) | refine WA_seq ?_ | refine WA_block ?_ | ((first | refine WA_region ttok ?_ | refine WA_draw ttok mixed ?_ | refine WA_cond ?_ | refine WA_skip ?_ | refine WA_exit ?_ | refine WA_ret ?_); conv => whnf) | (refine And.intro (fun h => ?_) (fun h => ?_) <;> (try simp only [brsA] at h) <;> conv => whnf) | (refine Or.inl ?_; (conv => whnf); refine ⟨_, h2, ?_⟩; conv => whnf) | (refine Or.inr (Or.inr (Or.inl ?_)); (conv => whnf); refine ⟨_, h2, ?_⟩; conv => whnf) | (refine Exists.intro _ (And.intro (h2) ?_); conv => whnf) | (refine Or.inl ?_; (conv => whnf); refine ⟨_, h3, ?_⟩; conv => whnf) | (refine Or.inr (Or.inr (Or.inl ?_)); (conv => whnf); refine ⟨_, h3, ?_⟩; conv => whnf) | (refine Exists.intro _ (And.intro (h3) ?_); conv => whnf) | (refine WR_fit ?_ ?_; (focus (first | exact wr_i64 (by omega) | exact wr_u64 (by omega) | exact wr_u8 (by omega) | exact wr_i32 (by omega) | exact wr_u32 (by omega))); conv => whnf) | ((first | refine WR_wrap ?_ | (refine And.intro (a := indepB _ _ = true) ?_ ?_; (focus kernel_rfl)) | refine And.intro rfl ?_ | (refine And.intro ?_ ?_; (focus (first | omega | decide | (dsimp only; omega) | (simp at *; omega))))); conv => whnf))
   all_goals first | contradiction | (exfalso; omega) | skip
   refine WA_loopI (fun i : Nat => i ≤ l.length) (fun i => [(5, .int .i64 (i : Int))]) (fun _ => []) (fun i => l.length - i) 0 (Nat.zero_le _) ?_ ?_
   ·conv => whnf
    repeat (first | exact rfl | exact trivial | exact Or.inl (fun _ _ => rfl) | exact (fun _ => rfl) | exact (fun _ _ => rfl) | exact Or.inl (fun _ hi => absurd hi (Nat.not_lt_zero _)) | ((first | refine And.intro rfl ?_ | refine And.intro (Or.inl (fun _ _ => rfl)) ?_ | refine And.intro (fun _ => rfl) ?_ | refine And.intro (fun _ _ => rfl) ?_ | (refine And.intro ?_ ?_; rotate_left)); conv => whnf))
    all_goals trace_state
   ·intro i hi
    conv => whnf
    repeat (first | refine WA_seq ?_ | refine WA_block ?_ | ((first | refine WA_region ttok ?_ | refine WA_draw ttok mixed ?_ | refine WA_cond ?_ | refine WA_skip ?_ | refine WA_exit ?_ | refine WA_ret ?_); conv => whnf))
    refine ⟨fun h => ?_, fun h => ?_⟩
    ·have h := of_decide_eq_true h
     have hFi : (F (i : Int).toNat).length ≤ 2 + 2 * l.length := hF i
     have h2i : 2 ≤ (F (i : Int).toNat).length := hF2 i
     have hA : ACalls Tryz.prog G 30 [.agg (ptA (l.getD i default).a)] (.agg (spL ((F (i : Int).toNat).getD (Int.toNat 0) default).1)) := hAt i (by omega)
     have hB : ACalls Tryz.prog G 30 [.agg (ptA (l.getD i default).b)] (.agg (spL ((F (i : Int).toNat).getD ((((F (i : Int).toNat).length : Nat) : Int) - 1).toNat default).1)) := by
      have e : ((((F (i : Int).toNat).length : Nat) : Int) - 1).toNat = (F i).length - 1 := by
       rw [Int.toNat_natCast]; omega
      rw [e]; exact hBt i (by omega)
     conv => whnf
     repeat' (first | refine WA_seq ?_ | refine WA_block ?_ | ((first | refine WA_region ttok ?_ | refine WA_draw ttok mixed ?_ | refine WA_cond ?_ | refine WA_skip ?_ | refine WA_exit ?_ | refine WA_ret ?_); conv => whnf) | (refine And.intro (fun h => ?_) (fun h => ?_) <;> (try simp only [brsA] at h) <;> conv => whnf) | (refine Or.inl ?_; (conv => whnf); refine ⟨_, hA, ?_⟩; conv => whnf) | (refine Or.inr (Or.inr (Or.inl ?_)); (conv => whnf); refine ⟨_, hA, ?_⟩; conv => whnf) | (refine Exists.intro _ (And.intro (hA) ?_); conv => whnf) | (refine Or.inl ?_; (conv => whnf); refine ⟨_, hB, ?_⟩; conv => whnf) | (refine Or.inr (Or.inr (Or.inl ?_)); (conv => whnf); refine ⟨_, hB, ?_⟩; conv => whnf) | (refine Exists.intro _ (And.intro (hB) ?_); conv => whnf) | (refine WR_fit ?_ ?_; (focus (first | exact wr_i64 (by omega) | exact wr_u64 (by omega) | exact wr_u8 (by omega) | exact wr_i32 (by omega) | exact wr_u32 (by omega))); conv => whnf) | ((first | refine WR_wrap ?_ | (refine And.intro (a := indepB _ _ = true) ?_ ?_; (focus kernel_rfl)) | refine And.intro rfl ?_ | (refine And.intro ?_ ?_; (focus (first | omega | decide | (dsimp only; omega) | (simp at *; omega))))); conv => whnf))
     all_goals first | contradiction | (exfalso; omega) | (exfalso; simp at h; done) | skip
     rename_i z1 z2
     clear z1 z2
     refine WA_loopI (fun k : Nat => 1 ≤ k ∧ k ≤ (F (i : Int).toNat).length) (fun k => [(6, .int .i64 (k : Int))]) (fun _ => []) (fun k => (F (i : Int).toNat).length - k) 1 ⟨Nat.le_refl _, by omega⟩ ?_ ?_
     ·conv => whnf
      repeat (first | exact rfl | exact trivial | exact Or.inl (fun _ _ => rfl) | exact (fun _ => rfl) | exact (fun _ _ => rfl) | exact Or.inl (fun _ hi => absurd hi (Nat.not_lt_zero _)) | ((first | refine And.intro rfl ?_ | refine And.intro (Or.inl (fun _ _ => rfl)) ?_ | refine And.intro (fun _ => rfl) ?_ | refine And.intro (fun _ _ => rfl) ?_ | (refine And.intro ?_ ?_; rotate_left)); conv => whnf))
      all_goals trace_state
     ·rintro k ⟨hk1, hk2⟩
      have hne : k < (F (i : Int).toNat).length → spL ((F (i : Int).toNat).getD ((k : Int) - 1).toNat default).1 ≠ spL ((F (i : Int).toNat).getD (k : Int).toNat default).1 := fun h => by
       rw [show ((k : Int) - 1).toNat = k - 1 by omega]
       exact hnE i k (by omega) (by omega) h
      have hah : k < (F (i : Int).toNat).length → ACalls Tryz.prog G 33 [.agg (eCu ((F (i : Int).toNat).getD ((k : Int) - 1).toNat default)), .agg (eCu ((F (i : Int).toNat).getD (k : Int).toNat default))] (.bool true) := fun h => by
       rw [show ((k : Int) - 1).toNat = k - 1 by omega]
       exact hAh i k (by omega) h
      conv => whnf
      repeat' (first | refine WA_seq ?_ | refine WA_block ?_ | ((first | refine WA_region ttok ?_ | refine WA_draw ttok mixed ?_ | refine WA_cond ?_ | refine WA_skip ?_ | refine WA_exit ?_ | refine WA_ret ?_); conv => whnf) | (refine And.intro (fun h => ?_) (fun h => ?_) <;> (try simp only [brsA] at h) <;> conv => whnf) | (refine Or.inl ?_; (conv => whnf); refine ⟨_, hah (by omega), ?_⟩; conv => whnf) | (refine Or.inr (Or.inr (Or.inl ?_)); (conv => whnf); refine ⟨_, hah (by omega), ?_⟩; conv => whnf) | (refine Exists.intro _ (And.intro (hah (by omega)) ?_); conv => whnf) | (refine WR_fit ?_ ?_; (focus (first | exact wr_i64 (by omega) | exact wr_u64 (by omega) | exact wr_u8 (by omega) | exact wr_i32 (by omega) | exact wr_u32 (by omega))); conv => whnf) | ((first | refine WR_wrap ?_ | (refine And.intro (a := indepB _ _ = true) ?_ ?_; (focus kernel_rfl)) | refine And.intro rfl ?_ | (refine And.intro ?_ ?_; (focus (first | omega | decide | (dsimp only; omega) | (simp at *; omega))))); conv => whnf))
      all_goals first | contradiction | (exfalso; omega) | skip
      ·exact absurd ((sp_eqb _ _).1 h) (hne (by omega))
      ·refine ⟨k + 1, ⟨by show 1 ≤ k + 1; omega, by show k + 1 ≤ (F (i : Int).toNat).length; omega⟩, (by show (F (i : Int).toNat).length - (k + 1) < (F (i : Int).toNat).length - k; omega), ?_⟩
       conv => whnf
       repeat (first | exact rfl | exact trivial | exact Or.inl (fun _ _ => rfl) | exact (fun _ => rfl) | exact (fun _ _ => rfl) | exact Or.inl (fun _ hi => absurd hi (Nat.not_lt_zero _)) | ((first | refine And.intro rfl ?_ | refine And.intro (Or.inl (fun _ _ => rfl)) ?_ | refine And.intro (fun _ => rfl) ?_ | refine And.intro (fun _ _ => rfl) ?_ | (refine And.intro ?_ ?_; rotate_left)); conv => whnf))
      ·clear hne hah hA hB
       refine WA_loopI (fun m : Nat => m ≤ i) (fun m => [(7, .int .i64 (m : Int))]) (fun _ => []) (fun m => i - m) 0 (Nat.zero_le _) ?_ ?_
       ·conv => whnf
        repeat (first | exact rfl | exact trivial | exact Or.inl (fun _ _ => rfl) | exact (fun _ => rfl) | exact (fun _ _ => rfl) | exact Or.inl (fun _ hi => absurd hi (Nat.not_lt_zero _)) | ((first | refine And.intro rfl ?_ | refine And.intro (Or.inl (fun _ _ => rfl)) ?_ | refine And.intro (fun _ => rfl) ?_ | refine And.intro (fun _ _ => rfl) ?_ | (refine And.intro ?_ ?_; rotate_left)); conv => whnf))
        all_goals trace_state
       ·intro m hm
        have hT := hTt i m
        clear hTt hAt hBt hnE hAh hF hF2 h3
        conv => whnf
        repeat (first | refine WA_seq ?_ | refine WA_block ?_ | ((first | refine WA_region ttok ?_ | refine WA_draw ttok mixed ?_ | refine WA_cond ?_ | refine WA_skip ?_ | refine WA_exit ?_ | refine WA_ret ?_); conv => whnf))
        refine ⟨fun h => ?_, fun h => ?_⟩
        ·have h := of_decide_eq_true h
         have hT := hT (by omega) (by omega)
         rcases hT with ⟨M, e, hM⟩ | ⟨M, c, e, hM, g, u1, u2⟩ | ⟨M, c1, c2, e, hM, g1, g2, u1, u2, u3, u4⟩
         ·obtain ⟨kk, n, mm, d, p, q⟩ := M
          simp only at e
          subst e
          conv => whnf
          repeat' (first | refine WA_seq ?_ | refine WA_block ?_ | ((first | refine WA_region ttok ?_ | refine WA_draw ttok mixed ?_ | refine WA_cond ?_ | refine WA_skip ?_ | refine WA_exit ?_ | refine WA_ret ?_); conv => whnf) | (refine And.intro (fun h => ?_) (fun h => ?_) <;> (try simp only [brsA] at h) <;> conv => whnf) | (refine Or.inl ?_; (conv => whnf); refine ⟨_, hM, ?_⟩; conv => whnf) | (refine Or.inr (Or.inr (Or.inl ?_)); (conv => whnf); refine ⟨_, hM, ?_⟩; conv => whnf) | (refine Exists.intro _ (And.intro (hM) ?_); conv => whnf) | (refine WR_fit ?_ ?_; (focus (first | exact wr_i64 (by omega) | exact wr_u64 (by omega) | exact wr_u8 (by omega) | exact wr_i32 (by omega) | exact wr_u32 (by omega))); conv => whnf) | ((first | refine WR_wrap ?_ | (refine And.intro (a := indepB _ _ = true) ?_ ?_; (focus kernel_rfl)) | refine And.intro rfl ?_ | (refine And.intro ?_ ?_; (focus (first | omega | decide | (dsimp only; omega) | (simp at *; omega))))); conv => whnf))
          all_goals first | contradiction | (exfalso; omega) | skip
          refine ⟨m + 1, (by show m + 1 ≤ i; omega), (by show i - (m + 1) < i - m; omega), ?_⟩
          conv => whnf
          repeat (first | exact rfl | exact trivial | exact Or.inl (fun _ _ => rfl) | exact (fun _ => rfl) | exact (fun _ _ => rfl) | exact Or.inl (fun _ hi => absurd hi (Nat.not_lt_zero _)) | ((first | refine And.intro rfl ?_ | refine And.intro (Or.inl (fun _ _ => rfl)) ?_ | refine And.intro (fun _ => rfl) ?_ | refine And.intro (fun _ _ => rfl) ?_ | (refine And.intro ?_ ?_; rotate_left)); conv => whnf))
         ·obtain ⟨kk, n, mm, d, p, q⟩ := M
          simp only at e g
          subst e
          conv => whnf
          repeat' (first | refine WA_seq ?_ | refine WA_block ?_ | ((first | refine WA_region ttok ?_ | refine WA_draw ttok mixed ?_ | refine WA_cond ?_ | refine WA_skip ?_ | refine WA_exit ?_ | refine WA_ret ?_); conv => whnf) | (refine And.intro (fun h => ?_) (fun h => ?_) <;> (try simp only [brsA] at h) <;> conv => whnf) | (refine Or.inl ?_; (conv => whnf); refine ⟨_, hM, ?_⟩; conv => whnf) | (refine Or.inr (Or.inr (Or.inl ?_)); (conv => whnf); refine ⟨_, hM, ?_⟩; conv => whnf) | (refine Exists.intro _ (And.intro (hM) ?_); conv => whnf) | (refine Or.inl ?_; (conv => whnf); refine ⟨_, g, ?_⟩; conv => whnf) | (refine Or.inr (Or.inr (Or.inl ?_)); (conv => whnf); refine ⟨_, g, ?_⟩; conv => whnf) | (refine Exists.intro _ (And.intro (g) ?_); conv => whnf) | (refine Or.inl ?_; (conv => whnf); refine ⟨_, u1, ?_⟩; conv => whnf) | (refine Or.inr (Or.inr (Or.inl ?_)); (conv => whnf); refine ⟨_, u1, ?_⟩; conv => whnf) | (refine Exists.intro _ (And.intro (u1) ?_); conv => whnf) | (refine Or.inl ?_; (conv => whnf); refine ⟨_, u2, ?_⟩; conv => whnf) | (refine Or.inr (Or.inr (Or.inl ?_)); (conv => whnf); refine ⟨_, u2, ?_⟩; conv => whnf) | (refine Exists.intro _ (And.intro (u2) ?_); conv => whnf) | (refine WR_fit ?_ ?_; (focus (first | exact wr_i64 (by omega) | exact wr_u64 (by omega) | exact wr_u8 (by omega) | exact wr_i32 (by omega) | exact wr_u32 (by omega))); conv => whnf) | ((first | refine WR_wrap ?_ | (refine And.intro (a := indepB _ _ = true) ?_ ?_; (focus kernel_rfl)) | refine And.intro rfl ?_ | (refine And.intro ?_ ?_; (focus (first | omega | decide | (dsimp only; omega) | (simp at *; omega))))); conv => whnf))
          all_goals first | contradiction | (exfalso; omega) | skip
          refine ⟨m + 1, (by show m + 1 ≤ i; omega), (by show i - (m + 1) < i - m; omega), ?_⟩
          conv => whnf
          repeat (first | exact rfl | exact trivial | exact Or.inl (fun _ _ => rfl) | exact (fun _ => rfl) | exact (fun _ _ => rfl) | exact Or.inl (fun _ hi => absurd hi (Nat.not_lt_zero _)) | ((first | refine And.intro rfl ?_ | refine And.intro (Or.inl (fun _ _ => rfl)) ?_ | refine And.intro (fun _ => rfl) ?_ | refine And.intro (fun _ _ => rfl) ?_ | (refine And.intro ?_ ?_; rotate_left)); conv => whnf))
         ·obtain ⟨kk, n, mm, d, p, q⟩ := M
          simp only at e g1 g2
          subst e
          conv => whnf
          repeat' (first | refine WA_seq ?_ | refine WA_block ?_ | ((first | refine WA_region ttok ?_ | refine WA_draw ttok mixed ?_ | refine WA_cond ?_ | refine WA_skip ?_ | refine WA_exit ?_ | refine WA_ret ?_); conv => whnf) | (refine And.intro (fun h => ?_) (fun h => ?_) <;> (try simp only [brsA] at h) <;> conv => whnf) | (refine Or.inl ?_; (conv => whnf); refine ⟨_, hM, ?_⟩; conv => whnf) | (refine Or.inr (Or.inr (Or.inl ?_)); (conv => whnf); refine ⟨_, hM, ?_⟩; conv => whnf) | (refine Exists.intro _ (And.intro (hM) ?_); conv => whnf) | (refine WR_fit ?_ ?_; (focus (first | exact wr_i64 (by omega) | exact wr_u64 (by omega) | exact wr_u8 (by omega) | exact wr_i32 (by omega) | exact wr_u32 (by omega))); conv => whnf) | ((first | refine WR_wrap ?_ | (refine And.intro (a := indepB _ _ = true) ?_ ?_; (focus kernel_rfl)) | refine And.intro rfl ?_ | (refine And.intro ?_ ?_; (focus (first | omega | decide | (dsimp only; omega) | (simp at *; omega))))); conv => whnf))
          all_goals first | contradiction | (exfalso; omega) | skip
          refine Or.inl ?_
          conv => whnf
          refine ⟨_, g1, ?_⟩
          conv => whnf
          repeat' (first | refine WA_seq ?_ | refine WA_block ?_ | ((first | refine WA_region ttok ?_ | refine WA_draw ttok mixed ?_ | refine WA_cond ?_ | refine WA_skip ?_ | refine WA_exit ?_ | refine WA_ret ?_); conv => whnf) | (refine And.intro (fun h => ?_) (fun h => ?_) <;> (try simp only [brsA] at h) <;> conv => whnf) | (refine WR_fit ?_ ?_; (focus (first | exact wr_i64 (by omega) | exact wr_u64 (by omega) | exact wr_u8 (by omega) | exact wr_i32 (by omega) | exact wr_u32 (by omega))); conv => whnf) | ((first | refine WR_wrap ?_ | (refine And.intro (a := indepB _ _ = true) ?_ ?_; (focus kernel_rfl)) | refine And.intro rfl ?_ | (refine And.intro ?_ ?_; (focus (first | omega | decide | (dsimp only; omega) | (simp at *; omega))))); conv => whnf))
          all_goals first | contradiction | (exfalso; omega) | skip
          refine Or.inl ?_
          conv => whnf
          refine ⟨_, u1, ?_⟩
          conv => whnf
          repeat' (first | refine WA_seq ?_ | refine WA_block ?_ | ((first | refine WA_region ttok ?_ | refine WA_draw ttok mixed ?_ | refine WA_cond ?_ | refine WA_skip ?_ | refine WA_exit ?_ | refine WA_ret ?_); conv => whnf) | (refine And.intro (fun h => ?_) (fun h => ?_) <;> (try simp only [brsA] at h) <;> conv => whnf) | (refine WR_fit ?_ ?_; (focus (first | exact wr_i64 (by omega) | exact wr_u64 (by omega) | exact wr_u8 (by omega) | exact wr_i32 (by omega) | exact wr_u32 (by omega))); conv => whnf) | ((first | refine WR_wrap ?_ | (refine And.intro (a := indepB _ _ = true) ?_ ?_; (focus kernel_rfl)) | refine And.intro rfl ?_ | (refine And.intro ?_ ?_; (focus (first | omega | decide | (dsimp only; omega) | (simp at *; omega))))); conv => whnf))
          all_goals first | contradiction | (exfalso; omega) | skip
          refine Or.inl ?_
          conv => whnf
          refine ⟨_, g1, ?_⟩
          conv => whnf
          repeat' (first | refine WA_seq ?_ | refine WA_block ?_ | ((first | refine WA_region ttok ?_ | refine WA_draw ttok mixed ?_ | refine WA_cond ?_ | refine WA_skip ?_ | refine WA_exit ?_ | refine WA_ret ?_); conv => whnf) | (refine And.intro (fun h => ?_) (fun h => ?_) <;> (try simp only [brsA] at h) <;> conv => whnf) | (refine WR_fit ?_ ?_; (focus (first | exact wr_i64 (by omega) | exact wr_u64 (by omega) | exact wr_u8 (by omega) | exact wr_i32 (by omega) | exact wr_u32 (by omega))); conv => whnf) | ((first | refine WR_wrap ?_ | (refine And.intro (a := indepB _ _ = true) ?_ ?_; (focus kernel_rfl)) | refine And.intro rfl ?_ | (refine And.intro ?_ ?_; (focus (first | omega | decide | (dsimp only; omega) | (simp at *; omega))))); conv => whnf))
          all_goals first | contradiction | (exfalso; omega) | skip
          refine Or.inl ?_
          conv => whnf
          refine ⟨_, u2, ?_⟩
          conv => whnf
          repeat' (first | refine WA_seq ?_ | refine WA_block ?_ | ((first | refine WA_region ttok ?_ | refine WA_draw ttok mixed ?_ | refine WA_cond ?_ | refine WA_skip ?_ | refine WA_exit ?_ | refine WA_ret ?_); conv => whnf) | (refine And.intro (fun h => ?_) (fun h => ?_) <;> (try simp only [brsA] at h) <;> conv => whnf) | (refine WR_fit ?_ ?_; (focus (first | exact wr_i64 (by omega) | exact wr_u64 (by omega) | exact wr_u8 (by omega) | exact wr_i32 (by omega) | exact wr_u32 (by omega))); conv => whnf) | ((first | refine WR_wrap ?_ | (refine And.intro (a := indepB _ _ = true) ?_ ?_; (focus kernel_rfl)) | refine And.intro rfl ?_ | (refine And.intro ?_ ?_; (focus (first | omega | decide | (dsimp only; omega) | (simp at *; omega))))); conv => whnf))
          all_goals first | contradiction | (exfalso; omega) | skip
          refine Or.inl ?_
          conv => whnf
          refine ⟨_, g2, ?_⟩
          conv => whnf
          repeat' (first | refine WA_seq ?_ | refine WA_block ?_ | ((first | refine WA_region ttok ?_ | refine WA_draw ttok mixed ?_ | refine WA_cond ?_ | refine WA_skip ?_ | refine WA_exit ?_ | refine WA_ret ?_); conv => whnf) | (refine And.intro (fun h => ?_) (fun h => ?_) <;> (try simp only [brsA] at h) <;> conv => whnf) | (refine WR_fit ?_ ?_; (focus (first | exact wr_i64 (by omega) | exact wr_u64 (by omega) | exact wr_u8 (by omega) | exact wr_i32 (by omega) | exact wr_u32 (by omega))); conv => whnf) | ((first | refine WR_wrap ?_ | (refine And.intro (a := indepB _ _ = true) ?_ ?_; (focus kernel_rfl)) | refine And.intro rfl ?_ | (refine And.intro ?_ ?_; (focus (first | omega | decide | (dsimp only; omega) | (simp at *; omega))))); conv => whnf))
          all_goals first | contradiction | (exfalso; omega) | skip
          refine Or.inl ?_
          conv => whnf
          refine ⟨_, u3, ?_⟩
          conv => whnf
          repeat' (first | refine WA_seq ?_ | refine WA_block ?_ | ((first | refine WA_region ttok ?_ | refine WA_draw ttok mixed ?_ | refine WA_cond ?_ | refine WA_skip ?_ | refine WA_exit ?_ | refine WA_ret ?_); conv => whnf) | (refine And.intro (fun h => ?_) (fun h => ?_) <;> (try simp only [brsA] at h) <;> conv => whnf) | (refine WR_fit ?_ ?_; (focus (first | exact wr_i64 (by omega) | exact wr_u64 (by omega) | exact wr_u8 (by omega) | exact wr_i32 (by omega) | exact wr_u32 (by omega))); conv => whnf) | ((first | refine WR_wrap ?_ | (refine And.intro (a := indepB _ _ = true) ?_ ?_; (focus kernel_rfl)) | refine And.intro rfl ?_ | (refine And.intro ?_ ?_; (focus (first | omega | decide | (dsimp only; omega) | (simp at *; omega))))); conv => whnf))
          all_goals first | contradiction | (exfalso; omega) | skip
          refine Or.inl ?_
          conv => whnf
          refine ⟨_, g2, ?_⟩
          conv => whnf
          repeat' (first | refine WA_seq ?_ | refine WA_block ?_ | ((first | refine WA_region ttok ?_ | refine WA_draw ttok mixed ?_ | refine WA_cond ?_ | refine WA_skip ?_ | refine WA_exit ?_ | refine WA_ret ?_); conv => whnf) | (refine And.intro (fun h => ?_) (fun h => ?_) <;> (try simp only [brsA] at h) <;> conv => whnf) | (refine WR_fit ?_ ?_; (focus (first | exact wr_i64 (by omega) | exact wr_u64 (by omega) | exact wr_u8 (by omega) | exact wr_i32 (by omega) | exact wr_u32 (by omega))); conv => whnf) | ((first | refine WR_wrap ?_ | (refine And.intro (a := indepB _ _ = true) ?_ ?_; (focus kernel_rfl)) | refine And.intro rfl ?_ | (refine And.intro ?_ ?_; (focus (first | omega | decide | (dsimp only; omega) | (simp at *; omega))))); conv => whnf))
          all_goals first | contradiction | (exfalso; omega) | skip
          refine Or.inl ?_
          conv => whnf
          refine ⟨_, u4, ?_⟩
          conv => whnf
          repeat' (first | refine WA_seq ?_ | refine WA_block ?_ | ((first | refine WA_region ttok ?_ | refine WA_draw ttok mixed ?_ | refine WA_cond ?_ | refine WA_skip ?_ | refine WA_exit ?_ | refine WA_ret ?_); conv => whnf) | (refine And.intro (fun h => ?_) (fun h => ?_) <;> (try simp only [brsA] at h) <;> conv => whnf) | (refine WR_fit ?_ ?_; (focus (first | exact wr_i64 (by omega) | exact wr_u64 (by omega) | exact wr_u8 (by omega) | exact wr_i32 (by omega) | exact wr_u32 (by omega))); conv => whnf) | ((first | refine WR_wrap ?_ | (refine And.intro (a := indepB _ _ = true) ?_ ?_; (focus kernel_rfl)) | refine And.intro rfl ?_ | (refine And.intro ?_ ?_; (focus (first | omega | decide | (dsimp only; omega) | (simp at *; omega))))); conv => whnf))
          all_goals first | contradiction | (exfalso; omega) | skip
          refine ⟨m + 1, (by show m + 1 ≤ i; omega), (by show i - (m + 1) < i - m; omega), ?_⟩
          conv => whnf
          repeat (first | exact rfl | exact trivial | exact Or.inl (fun _ _ => rfl) | exact (fun _ => rfl) | exact (fun _ _ => rfl) | exact Or.inl (fun _ hi => absurd hi (Nat.not_lt_zero _)) | ((first | refine And.intro rfl ?_ | refine And.intro (Or.inl (fun _ _ => rfl)) ?_ | refine And.intro (fun _ => rfl) ?_ | refine And.intro (fun _ _ => rfl) ?_ | (refine And.intro ?_ ?_; rotate_left)); conv => whnf))
        ·conv => whnf
         repeat' (first | refine WA_seq ?_ | refine WA_block ?_ | ((first | refine WA_region ttok ?_ | refine WA_draw ttok mixed ?_ | refine WA_cond ?_ | refine WA_skip ?_ | refine WA_exit ?_ | refine WA_ret ?_); conv => whnf) | (refine And.intro (fun h => ?_) (fun h => ?_) <;> (try simp only [brsA] at h) <;> conv => whnf) | (refine WR_fit ?_ ?_; (focus (first | exact wr_i64 (by omega) | exact wr_u64 (by omega) | exact wr_u8 (by omega) | exact wr_i32 (by omega) | exact wr_u32 (by omega))); conv => whnf) | ((first | refine WR_wrap ?_ | (refine And.intro (a := indepB _ _ = true) ?_ ?_; (focus kernel_rfl)) | refine And.intro rfl ?_ | (refine And.intro ?_ ?_; (focus (first | omega | decide | (dsimp only; omega) | (simp at *; omega))))); conv => whnf))
         refine ⟨i + 1, (by show i + 1 ≤ l.length; omega), (by show l.length - (i + 1) < l.length - i; omega), ?_⟩
         conv => whnf
         repeat (first | exact rfl | exact trivial | exact Or.inl (fun _ _ => rfl) | exact (fun _ => rfl) | exact (fun _ _ => rfl) | exact Or.inl (fun _ hi => absurd hi (Nat.not_lt_zero _)) | ((first | refine And.intro rfl ?_ | refine And.intro (Or.inl (fun _ _ => rfl)) ?_ | refine And.intro (fun _ => rfl) ?_ | refine And.intro (fun _ _ => rfl) ?_ | (refine And.intro ?_ ?_; rotate_left)); conv => whnf))
    ·conv => whnf
     repeat' (first | refine WA_seq ?_ | refine WA_block ?_ | ((first | refine WA_region ttok ?_ | refine WA_draw ttok mixed ?_ | refine WA_cond ?_ | refine WA_skip ?_ | refine WA_exit ?_ | refine WA_ret ?_); conv => whnf) | (refine And.intro (fun h => ?_) (fun h => ?_) <;> (try simp only [brsA] at h) <;> conv => whnf) | (refine Or.inl ?_; (conv => whnf); refine ⟨_, ha, ?_⟩; conv => whnf) | (refine Or.inr (Or.inr (Or.inl ?_)); (conv => whnf); refine ⟨_, ha, ?_⟩; conv => whnf) | (refine Exists.intro _ (And.intro (ha) ?_); conv => whnf) | (refine WR_fit ?_ ?_; (focus (first | exact wr_i64 (by omega) | exact wr_u64 (by omega) | exact wr_u8 (by omega) | exact wr_i32 (by omega) | exact wr_u32 (by omega))); conv => whnf) | ((first | refine WR_wrap ?_ | (refine And.intro (a := indepB _ _ = true) ?_ ?_; (focus kernel_rfl)) | refine And.intro rfl ?_ | (refine And.intro ?_ ?_; (focus (first | omega | decide | (dsimp only; omega) | (simp at *; omega))))); conv => whnf))
     all_goals first | contradiction | (exfalso; omega) | rfl | trace_state
  ·generalize chk l = z at *
   refine ACalls.of_WA ttok Tryz.func6 rfl rfl _ rfl ?_
   conv => whnf
   repeat' (first | (exact absurd trivial (by assumption)) | refine WA_seq ?_ | refine WA_block ?_ | ((first | refine WA_region ttok ?_ | refine WA_draw ttok mixed ?_ | refine WA_cond ?_ | refine WA_skip ?_ | refine WA_exit ?_ | refine WA_ret ?_); conv => whnf) | (refine And.intro (fun h => ?_) (fun h => ?_) <;> (try simp only [brsA] at h) <;> conv => whnf) | (refine Or.inl ?_; (conv => whnf); refine ⟨_, h2, ?_⟩; conv => whnf) | (refine Or.inr (Or.inr (Or.inl ?_)); (conv => whnf); refine ⟨_, h2, ?_⟩; conv => whnf) | (refine Exists.intro _ (And.intro (h2) ?_); conv => whnf) | (refine Or.inl ?_; (conv => whnf); refine ⟨_, ha, ?_⟩; conv => whnf) | (refine Or.inr (Or.inr (Or.inl ?_)); (conv => whnf); refine ⟨_, ha, ?_⟩; conv => whnf) | (refine Exists.intro _ (And.intro (ha) ?_); conv => whnf) | (refine WR_fit ?_ ?_; (focus (first | exact wr_i64 (by omega) | exact wr_u64 (by omega) | exact wr_u8 (by omega) | exact wr_i32 (by omega) | exact wr_u32 (by omega))); conv => whnf) | ((first | refine WR_wrap ?_ | (refine And.intro (a := indepB _ _ = true) ?_ ?_; (focus kernel_rfl)) | refine And.intro rfl ?_ | (refine And.intro ?_ ?_; (focus (first | omega | decide | (dsimp only; omega) | (simp at *; omega))))); conv => whnf))
   all_goals first | contradiction | (exfalso; omega) | rfl | trace_state
end Go.Proofs.YtcomiiakkhafpaaGreat
namespace Go.Proofs.YtcomiiakkhafpaaGreat
open Go.ChangeShapes Go.WideShapes Go.ChangeAt Go.RowKit
open Go.Proofs.YtcomiiakkhafpaaGreat.Am
theorem Tryz.own : ownKnob Tryz.prog.godebug = none := by kernel_rfl
theorem Tryz.laidOut : laidOutB Tryz.prog = true := by kernel_rfl
def gTrue : GInv := ⟨fun _ => True, 0, fun _ _ => Nat.zero_le _, fun _ _ _ _ _ => trivial⟩
theorem u3 : Tryz.prog.underlying 3 = some (.int .i64) := by kernel_rfl
instance drI : Inhabited DRT := ⟨⟨False⟩⟩
theorem o_int : Opens Tryz.prog 3 (fun n : Int => [.int .i64 n]) (fun n => -9223372036854775808 ≤ n ∧ n ≤ 9223372036854775807) := opens_i64 u3
theorem o_pt : Opens Tryz.prog 43 ptA (fun _ => True) :=
 (opens_struct (t := 43) (L := [(3, 0, 1), (3, 1, 1)]) (by kernel_rfl) (by kernel_rfl) (opensF_cons o_int (opensF_cons o_int opensF_nil))).to
  (fun x => (⟨x.1, x.2.1⟩ : Pt)) (fun _ => rfl) (fun _ _ => trivial)
theorem o_seg : Opens Tryz.prog 45 sgA (fun _ => True) :=
 (opens_struct (t := 45) (L := [(43, 0, 2), (43, 2, 2)]) (by kernel_rfl) (by kernel_rfl) (opensF_cons o_pt (opensF_cons o_pt opensF_nil))).to
  (fun x => (⟨x.1, x.2.1⟩ : Sg)) (fun _ => rfl) (fun _ _ => trivial)
theorem o_segs : Opens Tryz.prog 66 (fun l : List Sg => [sgsA l]) (fun _ => True) :=
 (opens_slice (e := 45) (sz := 4) (by kernel_rfl) o_seg (by kernel_rfl) (by omega)).to id (fun _ => rfl) (fun _ _ => trivial)
theorem toSb {P : Program} {G : GInv} {f : FuncId} {args : List A} {b : Bool} (h : ACalls P G f args (.bool b)) : ACalls P G f args (.sb b) := by
 refine ⟨h.1, fun im w vs h1 h2 h3 h4 => ?_⟩
 refine Calls_mono (h.2 im w vs h1 h2 h3 h4) ?_
 rintro e w' ⟨v, e1, e2, e3⟩
 refine ⟨v, e1, ?_, e3⟩
 cases e2; exact .sb b
theorem args1 {im : Nat → Prop} {W : World} {x0 : A} {v0 : Value} (h0 : RelI im W x0 v0) :
  ∀ j (_ : j < [x0].length) (_ : j < [v0].length), RelI im W [x0][j] [v0][j] := by
 intro j h _
 match j with
 | 0 => exact h0
 | j + 1 => exact absurd h (by simp)
set_option maxRecDepth 100000 in
theorem cutsShare_lifted (os : Os) (started : os.Started) (H : Type) (enc : TypeId × Value → H) :
  ReturnsInHanded {} Tryz.checked os 6 .any (Rows.cutsShareSpec.pre6 enc Tryz.prog Tryz.f6 Rows.cutsShareRow.domain false) (Rows.cutsShareSpec.post enc Tryz.prog Tryz.f6 false true false false) := by
 refine returnsInHanded_of_change (C := Tryz.checked) Tryz.own started (by kernel_rfl) Tryz.func6
  (ChangeSpec.witness6 (enc := enc) (C := Tryz.checked) false ⟨#[], #[.slice none 0 0], []⟩ 8 (by kernel_rfl) (by kernel_rfl) (by kernel_rfl) (by kernel_rfl)) ?_
 intro W base args ds gs before hval0 hW hcnd _
 have hval : ∀ (j : Nat) t v, Tryz.f6.params[j]? = some t → args[j]? = some v → Value.okWide Tryz.prog W .any base t v := hval0
 have hW' := hW
 obtain ⟨p, q, hA0, hV, rfl, hfz, hnd⟩ := hW
 have hA : DataW.TrodAll enc Tryz.prog W 0 (fun _ => true) true Tryz.f6.params.toList args.toList ds p := hA0
 rw [Tryz.params6] at hA hval
 obtain ⟨v0, d0, rfl, rfl, h0⟩ := trodAll_one hA
 obtain ⟨rfl, rfl⟩ := trodVars_none hV
 have hlt : ∀ x ∈ p, x.block < W.heap.size := fun x hx => hW'.lt x (by simpa using hx)
 obtain ⟨l, ok0, r0⟩ := o_segs.cell (im := fun b => b < W.heap.size) h0 (okWide_cell (hval 0 66 v0 rfl rfl) (by kernel_rfl)) (fun x hx => hlt x (by simp [hx]))
 refine Calls_mono (calls_true (G := gTrue) (cutsShare_c (fun h : (default : DRT).ns => h) l) (W := W) (vs := [v0]) (im := fun b => b < W.heap.size) (fun _ h => h) trivial rfl (args1 r0)) ?_
 rintro e W' ⟨rfl, hb⟩
 exact ⟨_, rfl, post_true Tryz.laidOut rfl (by kernel_rfl) Tryz.underlying4 (by kernel_rfl) rfl hW' hb⟩
theorem cutsShare_holds : Rows.CutsShareSaid :=
 OpenClaim.holds_of_wide 6 Tryz.f6 rfl rfl rfl rfl rfl rfl rfl ⟨rfl, rfl, rfl, rfl, rfl⟩ rfl rfl rfl rfl rfl (by kernel_rfl) Tryz.func6 (by kernel_rfl)
  (of_decide_eq_true (by kernel_rfl)) (by unfold Func.isWrapper; first | (rw [if_pos (by decide +kernel)]; kernel_rfl) | (rw [if_neg (by decide +kernel)]; exact ⟨rfl, rfl⟩))
  (fun os started H enc _ => cutsShare_lifted os started H enc)
#print axioms cutsShare_holds
end Go.Proofs.YtcomiiakkhafpaaGreat

/-
  The walk of the law BoxesOrder.
-/
import Derived.Test.YtfhdmhoeopbhnaaBoxes2
set_option linter.unusedSimpArgs false
namespace Go.Proofs.Ytfhdmhoeopbhnaa
open Go.Proofs.Ytfhdmhoeopbhnaa.Am Go.Sort Go.Proofs
variable {G : GInv}
/-- Has one of the first lines this least X (this greatest Y)? -/
def anyN (p : Nat → Bool) : Nat → Bool
  | 0 => false
  | n + 1 => anyN p n || p n
theorem anyN_true (p : Nat → Bool) : ∀ n i, i < n → p i = true → anyN p n = true
  | n + 1, i, h, hp => by
    rw [anyN]
    rcases Nat.lt_or_eq_of_le (Nat.le_of_lt_succ h) with q | q
    · rw [anyN_true p n i q hp]; rfl
    · subst q; rw [hp]; simp
def plO (l : List Sg) (i : Nat) : Nat := ((ordL l).getD i 0).toNat
theorem plO_eq (l : List Sg) {i : Nat} (h : i < l.length) : (ordL l).getD i 0 = (plO l i : Int) ∧ plO l i < l.length ∧ bx1 l (plO l i) = (sB l).getD i default := by
  have hl := sB_len l
  have e : (ordL l).getD i 0 = ((sB l).getD i default).at' := by
    unfold ordL
    show ((sB l).map (·.at')).getD i 0 = _
    simp [List.getD_eq_getElem?_getD, show i < (sB l).length by omega]
  obtain ⟨j, hj, e2⟩ := sB_get l h
  have e3 : (ordL l).getD i 0 = (j : Int) := by rw [e, ← e2]; rfl
  have e4 : plO l i = j := by unfold plO; rw [e3]; rfl
  rw [e4]
  exact ⟨e3, hj, e2⟩
set_option maxRecDepth 100000 in
set_option maxHeartbeats 4000000 in
theorem law6_c (l : List Sg) : ACalls Try.prog G 6 [sgsA l] (.bool true) := by
  have ha := bawake_c (G := G)
  have hr := rcheck_c (G := G) l
  by_cases h60 : 60 < l.length
  · refine ACalls.of_WA ttok Try.func6 rfl rfl _ rfl ?_
    conv => whnf
    repeat' (first | refine WA_seq ?_ | (refine WA_region ttok ?_; conv => whnf) | (refine WA_draw ttok mixed ?_; conv => whnf) | (refine WA_cond ?_; conv => whnf) | refine WA_block ?_ | (refine WA_skip ?_; conv => whnf) | (refine WA_exit ?_; conv => whnf) | (refine WA_ret ?_; conv => whnf) | (refine And.intro (fun h => ?_) (fun h => ?_) <;> (try simp only [brsA] at h) <;> conv => whnf) | (refine Or.inl ?_; (conv => whnf); refine Exists.intro _ (And.intro (ha) ?_); conv => whnf) | (refine Or.inr (Or.inr (Or.inl ?_)); (conv => whnf); refine Exists.intro _ (And.intro (ha) ?_); conv => whnf) | (refine Exists.intro _ (And.intro (ha) ?_); conv => whnf) | (refine WR_fit ?_ ?_; (focus (first | exact wr_i64 (by omega) | exact wr_u64 (by omega) | exact wr_u8 (by omega) | exact wr_i32 (by omega) | exact wr_u32 (by omega))); conv => whnf) | (refine WR_wrap ?_; conv => whnf) | (refine And.intro (a := indepB _ _ = true) ?_ ?_; (focus kernel_rfl); conv => whnf) | (refine And.intro rfl ?_; conv => whnf) | (refine And.intro ?_ ?_; (focus (first | omega | decide | (dsimp only; omega) | (simp at *; omega))); conv => whnf))
    all_goals first | omega | contradiction
  · by_cases hk : chk l = 0
    · by_cases h0 : l.length = 0
      · have ho := order38_nil (G := G) l h0
        have hh := hull_bad (G := G) l (.inl h0)
        refine ACalls.of_WA ttok Try.func6 rfl rfl _ rfl ?_
        conv => whnf
        repeat' (first | refine WA_seq ?_ | (refine WA_region ttok ?_; conv => whnf) | (refine WA_draw ttok mixed ?_; conv => whnf) | (refine WA_cond ?_; conv => whnf) | refine WA_block ?_ | (refine WA_skip ?_; conv => whnf) | (refine WA_exit ?_; conv => whnf) | (refine WA_ret ?_; conv => whnf) | (refine And.intro (fun h => ?_) (fun h => ?_) <;> (try simp only [brsA] at h) <;> conv => whnf) | (refine Or.inl ?_; (conv => whnf); refine Exists.intro _ (And.intro (ho) ?_); conv => whnf) | (refine Or.inr (Or.inr (Or.inl ?_)); (conv => whnf); refine Exists.intro _ (And.intro (ho) ?_); conv => whnf) | (refine Exists.intro _ (And.intro (ho) ?_); conv => whnf) | (refine Or.inl ?_; (conv => whnf); refine Exists.intro _ (And.intro (hh) ?_); conv => whnf) | (refine Or.inr (Or.inr (Or.inl ?_)); (conv => whnf); refine Exists.intro _ (And.intro (hh) ?_); conv => whnf) | (refine Exists.intro _ (And.intro (hh) ?_); conv => whnf) | (refine Or.inl ?_; (conv => whnf); refine Exists.intro _ (And.intro (hr) ?_); conv => whnf) | (refine Or.inr (Or.inr (Or.inl ?_)); (conv => whnf); refine Exists.intro _ (And.intro (hr) ?_); conv => whnf) | (refine Exists.intro _ (And.intro (hr) ?_); conv => whnf) | (refine Or.inl ?_; (conv => whnf); refine Exists.intro _ (And.intro (ha) ?_); conv => whnf) | (refine Or.inr (Or.inr (Or.inl ?_)); (conv => whnf); refine Exists.intro _ (And.intro (ha) ?_); conv => whnf) | (refine Exists.intro _ (And.intro (ha) ?_); conv => whnf) | (refine WR_fit ?_ ?_; (focus (first | exact wr_i64 (by omega) | exact wr_u64 (by omega) | exact wr_u8 (by omega) | exact wr_i32 (by omega) | exact wr_u32 (by omega))); conv => whnf) | (refine WR_wrap ?_; conv => whnf) | (refine And.intro (a := indepB _ _ = true) ?_ ?_; (focus kernel_rfl); conv => whnf) | (refine And.intro rfl ?_; conv => whnf) | (refine And.intro ?_ ?_; (focus (first | omega | decide | (dsimp only; omega) | (simp at *; omega))); conv => whnf))
        all_goals first | omega | contradiction | (exfalso; omega)
      · have ho := order38_c (G := G) l (by omega) hk
        have hh := hull_c (G := G) l (by omega) hk
        rw [hk] at hr
        refine ACalls.of_WA ttok Try.func6 rfl rfl _ rfl ?_
        have hol : (ordL l).length = l.length := by unfold ordL; rw [List.length_map, srt_len cfB swo_bx, bxK_len]
        conv => whnf
        repeat' (first | refine WA_seq ?_ | (refine WA_region ttok ?_; conv => whnf) | (refine WA_draw ttok mixed ?_; conv => whnf) | (refine WA_cond ?_; conv => whnf) | refine WA_block ?_ | (refine WA_skip ?_; conv => whnf) | (refine WA_exit ?_; conv => whnf) | (refine WA_ret ?_; conv => whnf) | (refine And.intro (fun h => ?_) (fun h => ?_) <;> (try simp only [brsA] at h) <;> conv => whnf) | (refine Or.inl ?_; (conv => whnf); refine Exists.intro _ (And.intro (ho) ?_); conv => whnf) | (refine Or.inr (Or.inr (Or.inl ?_)); (conv => whnf); refine Exists.intro _ (And.intro (ho) ?_); conv => whnf) | (refine Exists.intro _ (And.intro (ho) ?_); conv => whnf) | (refine Or.inl ?_; (conv => whnf); refine Exists.intro _ (And.intro (hh) ?_); conv => whnf) | (refine Or.inr (Or.inr (Or.inl ?_)); (conv => whnf); refine Exists.intro _ (And.intro (hh) ?_); conv => whnf) | (refine Exists.intro _ (And.intro (hh) ?_); conv => whnf) | (refine Or.inl ?_; (conv => whnf); refine Exists.intro _ (And.intro (hr) ?_); conv => whnf) | (refine Or.inr (Or.inr (Or.inl ?_)); (conv => whnf); refine Exists.intro _ (And.intro (hr) ?_); conv => whnf) | (refine Exists.intro _ (And.intro (hr) ?_); conv => whnf) | (refine Or.inl ?_; (conv => whnf); refine Exists.intro _ (And.intro (ha) ?_); conv => whnf) | (refine Or.inr (Or.inr (Or.inl ?_)); (conv => whnf); refine Exists.intro _ (And.intro (ha) ?_); conv => whnf) | (refine Exists.intro _ (And.intro (ha) ?_); conv => whnf) | (refine WR_fit ?_ ?_; (focus (first | exact wr_i64 (by omega) | exact wr_u64 (by omega) | exact wr_u8 (by omega) | exact wr_i32 (by omega) | exact wr_u32 (by omega))); conv => whnf) | (refine WR_wrap ?_; conv => whnf) | (refine And.intro (a := indepB _ _ = true) ?_ ?_; (focus kernel_rfl); conv => whnf) | (refine And.intro rfl ?_; conv => whnf) | (refine And.intro ?_ ?_; (focus (first | omega | decide | (dsimp only; omega) | (simp at *; omega))); conv => whnf))
        all_goals first | omega | contradiction | skip
        generalize hH : hulK l (l.length - 1) = H at *
        refine WA_loopI (fun i : Nat => i ≤ l.length) (fun i => [(8, .int .i64 (i : Int)), (6, .sb (anyN (fun t => (lowS (l.getD (plO l t) default)).x == H.a.x) i)), (7, .sb (anyN (fun t => (highS (l.getD (plO l t) default)).y == H.b.y) i))]) (fun _ => [.box 62 (sgA H)]) (fun i => l.length - i) 0 (by omega) ?_ ?_
        · conv => whnf
          repeat (first | exact rfl | exact trivial | exact Or.inl (fun _ _ => rfl) | exact (fun _ => rfl) | exact (fun _ _ => rfl) | exact Or.inl (fun _ hi => absurd hi (Nat.not_lt_zero _)) | (refine And.intro rfl ?_; conv => whnf) | (refine And.intro (Or.inl (fun _ _ => rfl)) ?_; conv => whnf) | (refine And.intro (fun _ => rfl) ?_; conv => whnf) | (refine And.intro (fun _ _ => rfl) ?_; conv => whnf) | (refine And.intro ?_ ?_; rotate_left; conv => whnf))
        · intro i hi
          conv => whnf
          repeat (first | refine WA_seq ?_ | (refine WA_region ttok ?_; conv => whnf) | (refine WA_draw ttok mixed ?_; conv => whnf) | (refine WA_cond ?_; conv => whnf) | refine WA_block ?_ | (refine WA_skip ?_; conv => whnf) | (refine WA_exit ?_; conv => whnf) | (refine WA_ret ?_; conv => whnf))
          refine ⟨fun h => ?_, fun h => ?_⟩
          · have h := of_decide_eq_true h
            rw [hol] at h
            have hi' : i < l.length := by omega
            obtain ⟨e1, e2, e3⟩ := plO_eq l hi'
            have e1' : (ordL l).getD (i : Int).toNat 0 = (plO l i : Int) := e1
            have hL := (chk_ok hk).2 _ e2
            have h1 := low_c (G := G) (l.getD (plO l i) default)
            have h2 := high_c (G := G) (l.getD (plO l i) default) hL
            have hhl := hulK_le l (l.length - 1) (plO l i) (by omega)
            rw [hH] at hhl
            have hprev : (i : Int) ≠ 0 → 0 ≤ (ordL l).getD ((i : Int) - 1).toNat 0 ∧ (ordL l).getD ((i : Int) - 1).toNat 0 < l.length ∧
                ((lowS (l.getD ((ordL l).getD ((i : Int) - 1).toNat 0).toNat default)).x < (lowS (l.getD (plO l i) default)).x ∨
                  ((lowS (l.getD ((ordL l).getD ((i : Int) - 1).toNat 0).toNat default)).x = (lowS (l.getD (plO l i) default)).x ∧ (ordL l).getD ((i : Int) - 1).toNat 0 < (ordL l).getD (i : Int).toNat 0)) := by
              intro hn
              rw [show ((i : Int) - 1).toNat = i - 1 by omega, e1']
              obtain ⟨p1, p2, p3⟩ := plO_eq l (show i - 1 < l.length by omega)
              have ho := sB_ord l (show i - 1 < i by omega) hi'
              rw [← e3, ← p3] at ho
              rw [p1]
              refine ⟨by omega, by omega, ?_⟩
              exact ho
            have h3 := low_c (G := G) (l.getD ((ordL l).getD ((i : Int) - 1).toNat 0).toNat default)
            conv => whnf
            repeat' (first | refine WA_seq ?_ | (refine WA_region ttok ?_; conv => whnf) | (refine WA_draw ttok mixed ?_; conv => whnf) | (refine WA_cond ?_; conv => whnf) | refine WA_block ?_ | (refine WA_skip ?_; conv => whnf) | (refine WA_exit ?_; conv => whnf) | (refine WA_ret ?_; conv => whnf) | (refine And.intro (fun h => ?_) (fun h => ?_) <;> (try simp only [brsA] at h) <;> conv => whnf) | (refine Or.inl ?_; (conv => whnf); refine Exists.intro _ (And.intro (h1) ?_); conv => whnf) | (refine Or.inr (Or.inr (Or.inl ?_)); (conv => whnf); refine Exists.intro _ (And.intro (h1) ?_); conv => whnf) | (refine Exists.intro _ (And.intro (h1) ?_); conv => whnf) | (refine Or.inl ?_; (conv => whnf); refine Exists.intro _ (And.intro (h2) ?_); conv => whnf) | (refine Or.inr (Or.inr (Or.inl ?_)); (conv => whnf); refine Exists.intro _ (And.intro (h2) ?_); conv => whnf) | (refine Exists.intro _ (And.intro (h2) ?_); conv => whnf) | (refine Or.inl ?_; (conv => whnf); refine Exists.intro _ (And.intro (h3) ?_); conv => whnf) | (refine Or.inr (Or.inr (Or.inl ?_)); (conv => whnf); refine Exists.intro _ (And.intro (h3) ?_); conv => whnf) | (refine Exists.intro _ (And.intro (h3) ?_); conv => whnf) | (refine WR_fit ?_ ?_; (focus (first | exact wr_i64 (by omega) | exact wr_u64 (by omega) | exact wr_u8 (by omega) | exact wr_i32 (by omega) | exact wr_u32 (by omega))); conv => whnf) | (refine WR_wrap ?_; conv => whnf) | (refine And.intro (a := indepB _ _ = true) ?_ ?_; (focus kernel_rfl); conv => whnf) | (refine And.intro rfl ?_; conv => whnf) | (refine And.intro ?_ ?_; (focus (first | omega | decide | (dsimp only; omega) | (simp at *; omega))); conv => whnf))
            all_goals first
              | (exfalso; omega)
              | (refine ⟨i + 1, (by show i + 1 ≤ l.length; omega), (by show l.length - (i + 1) < l.length - i; omega), ?_⟩
                 conv => whnf
                 repeat (first | exact rfl | exact trivial | exact Or.inl (fun _ _ => rfl) | exact (fun _ => rfl) | exact (fun _ _ => rfl) | exact Or.inl (fun _ hi => absurd hi (Nat.not_lt_zero _)) | (refine And.intro rfl ?_; conv => whnf) | (refine And.intro (Or.inl (fun _ _ => rfl)) ?_; conv => whnf) | (refine And.intro (fun _ => rfl) ?_; conv => whnf) | (refine And.intro (fun _ _ => rfl) ?_; conv => whnf) | (refine And.intro ?_ ?_; rotate_left; conv => whnf))
                 all_goals (simp only [anyN, *, Bool.true_or, Bool.false_or]; done))
          · have h := of_decide_eq_false h
            rw [hol] at h
            have e : i = l.length := by omega
            subst e
            have hplh : ∀ j, j < l.length → ∃ t, t < l.length ∧ plO l t = j := by
              intro j hj
              obtain ⟨t, ht, e⟩ := sB_has l hj
              obtain ⟨_, _, p3⟩ := plO_eq l ht
              refine ⟨t, ht, ?_⟩
              rw [e] at p3
              exact Int.ofNat.inj (congrArg Bx.at' p3)
            obtain ⟨j1, g1, g2⟩ := hulK_lo l (l.length - 1)
            obtain ⟨j2, g3, g4⟩ := hulK_hi l (l.length - 1)
            obtain ⟨t1, k1, k2⟩ := hplh j1 (by omega)
            obtain ⟨t2, k3, k4⟩ := hplh j2 (by omega)
            rw [hH] at g2 g4
            have a1 := anyN_true (fun t => (lowS (l.getD (plO l t) default)).x == H.a.x) _ t1 k1 (by simp only [k2]; exact beq_iff_eq.2 g2)
            have a2 := anyN_true (fun t => (highS (l.getD (plO l t) default)).y == H.b.y) _ t2 k3 (by simp only [k4]; exact beq_iff_eq.2 g4)
            conv => whnf
            repeat' (first | refine WA_seq ?_ | (refine WA_region ttok ?_; conv => whnf) | (refine WA_draw ttok mixed ?_; conv => whnf) | (refine WA_cond ?_; conv => whnf) | refine WA_block ?_ | (refine WA_skip ?_; conv => whnf) | (refine WA_exit ?_; conv => whnf) | (refine WA_ret ?_; conv => whnf) | (refine And.intro (fun h => ?_) (fun h => ?_) <;> (try simp only [brsA] at h) <;> conv => whnf) | (refine Or.inl ?_; (conv => whnf); refine Exists.intro _ (And.intro (ha) ?_); conv => whnf) | (refine Or.inr (Or.inr (Or.inl ?_)); (conv => whnf); refine Exists.intro _ (And.intro (ha) ?_); conv => whnf) | (refine Exists.intro _ (And.intro (ha) ?_); conv => whnf) | (refine WR_fit ?_ ?_; (focus (first | exact wr_i64 (by omega) | exact wr_u64 (by omega) | exact wr_u8 (by omega) | exact wr_i32 (by omega) | exact wr_u32 (by omega))); conv => whnf) | (refine WR_wrap ?_; conv => whnf) | (refine And.intro (a := indepB _ _ = true) ?_ ?_; (focus kernel_rfl); conv => whnf) | (refine And.intro rfl ?_; conv => whnf) | (refine And.intro ?_ ?_; (focus (first | omega | decide | (dsimp only; omega) | (simp at *; omega))); conv => whnf))
            all_goals first | contradiction | (simp_all; done) | trace_state
    · have ho := order38_bad (G := G) l hk
      have hh := hull_bad (G := G) l (.inr hk)
      refine ACalls.of_WA ttok Try.func6 rfl rfl _ rfl ?_
      conv => whnf
      repeat' (first | refine WA_seq ?_ | (refine WA_region ttok ?_; conv => whnf) | (refine WA_draw ttok mixed ?_; conv => whnf) | (refine WA_cond ?_; conv => whnf) | refine WA_block ?_ | (refine WA_skip ?_; conv => whnf) | (refine WA_exit ?_; conv => whnf) | (refine WA_ret ?_; conv => whnf) | (refine And.intro (fun h => ?_) (fun h => ?_) <;> (try simp only [brsA] at h) <;> conv => whnf) | (refine Or.inl ?_; (conv => whnf); refine Exists.intro _ (And.intro (ho) ?_); conv => whnf) | (refine Or.inr (Or.inr (Or.inl ?_)); (conv => whnf); refine Exists.intro _ (And.intro (ho) ?_); conv => whnf) | (refine Exists.intro _ (And.intro (ho) ?_); conv => whnf) | (refine Or.inl ?_; (conv => whnf); refine Exists.intro _ (And.intro (hh) ?_); conv => whnf) | (refine Or.inr (Or.inr (Or.inl ?_)); (conv => whnf); refine Exists.intro _ (And.intro (hh) ?_); conv => whnf) | (refine Exists.intro _ (And.intro (hh) ?_); conv => whnf) | (refine Or.inl ?_; (conv => whnf); refine Exists.intro _ (And.intro (hr) ?_); conv => whnf) | (refine Or.inr (Or.inr (Or.inl ?_)); (conv => whnf); refine Exists.intro _ (And.intro (hr) ?_); conv => whnf) | (refine Exists.intro _ (And.intro (hr) ?_); conv => whnf) | (refine Or.inl ?_; (conv => whnf); refine Exists.intro _ (And.intro (ha) ?_); conv => whnf) | (refine Or.inr (Or.inr (Or.inl ?_)); (conv => whnf); refine Exists.intro _ (And.intro (ha) ?_); conv => whnf) | (refine Exists.intro _ (And.intro (ha) ?_); conv => whnf) | (refine WR_fit ?_ ?_; (focus (first | exact wr_i64 (by omega) | exact wr_u64 (by omega) | exact wr_u8 (by omega) | exact wr_i32 (by omega) | exact wr_u32 (by omega))); conv => whnf) | (refine WR_wrap ?_; conv => whnf) | (refine And.intro (a := indepB _ _ = true) ?_ ?_; (focus kernel_rfl); conv => whnf) | (refine And.intro rfl ?_; conv => whnf) | (refine And.intro ?_ ?_; (focus (first | omega | decide | (dsimp only; omega) | (simp at *; omega))); conv => whnf))
      all_goals first | omega | contradiction | (exfalso; omega)
end Go.Proofs.Ytfhdmhoeopbhnaa

/-
  The law's walk.
-/
import Derived.Test.YtekfaocnlejgaaaOf1
set_option linter.unusedSimpArgs false
set_option linter.unusedSectionVars false
set_option linter.unusedVariables false
namespace Go.Proofs.Ytekfaocnlejgaaa
open Go.Proofs.Ytekfaocnlejgaaa.Am Go.Sort Go.Proofs
variable [Inhabited DRT]
variable {G : GInv}
/-! ### The law of changes that are applied -/
theorem light_lt {l : List Rd} (h : LightR l) : Lt l := ⟨by have := h.1; omega, h.2.1⟩
theorem apply_ex (a b : List Rd) (l : List Ch) (ha : Lt a) (hb : Lt b) (hl : a.length + l.length ≤ 1000) : ∃ R E, ACalls Try.prog G 11 [rdsA a, rdsA b, chsA l] (.tup [rdsA R, .int .i64 E]) ∧
    (((allR a ≠ 0 ∨ allR b ≠ 0) ∧ R = [] ∧ E = 1) ∨ (allR a = 0 ∧ allR b = 0 ∧ ((allR (appL a b l l.length) = 0 ∧ R = appL a b l l.length ∧ E = 0) ∨ (allR (appL a b l l.length) ≠ 0 ∧ R = [] ∧ E = 1)))) := by
  by_cases h : allR a = 0 ∧ allR b = 0
  · by_cases h2 : allR (appL a b l l.length) = 0
    · exact ⟨_, _, apply_all a b l ha hb hl h _ _ (.inl ⟨h2, rfl, rfl⟩), .inr ⟨h.1, h.2, .inl ⟨h2, rfl, rfl⟩⟩⟩
    · exact ⟨_, _, apply_all a b l ha hb hl h _ _ (.inr ⟨h2, rfl, rfl⟩), .inr ⟨h.1, h.2, .inr ⟨h2, rfl, rfl⟩⟩⟩
  · have h' : allR a ≠ 0 ∨ allR b ≠ 0 := by omega
    exact ⟨_, _, apply_bad a b l ha hb h', .inl ⟨h', rfl, rfl⟩⟩
set_option maxRecDepth 100000 in
set_option maxHeartbeats 4000000 in
theorem applies_c (hns : ¬ (default : DRT).ns) (a b : List Rd) (l : List Ch) : ACalls Try.prog G 4 [rdsA a, rdsA b, chsA l] (.sb true) := by
  have hw := awake_c (G := G) hns
  have la := light_c (G := G) a
  have lb := light_c (G := G) b
  by_cases hL : LightR a ∧ LightR b ∧ l.length ≤ 30
  · obtain ⟨hLa, hLb, hLl⟩ := hL
    rw [decide_eq_true hLa] at la
    rw [decide_eq_true hLb] at lb
    have ha := light_lt hLa
    have hb := light_lt hLb
    have hla := hLa.1
    have hlb := hLb.1
    obtain ⟨R, E, hap, hRE⟩ := apply_ex (G := G) a b l ha hb (by omega)
    have hct := count_c (G := G) l (by omega)
    have ra := rall_c (G := G) a ha
    have rb := rall_c (G := G) b hb
    refine ACalls.of_WA ttok Try.func4 rfl rfl _ rfl ?_
    conv => whnf
    repeat' (first | (contradiction) | refine WA_seq ?_ | refine WA_block ?_ | ((first | refine WA_region ttok ?_ | refine WA_draw ttok mixed ?_ | refine WA_cond ?_ | refine WA_skip ?_ | refine WA_exit ?_ | refine WA_ret ?_); conv => whnf) | (refine And.intro (fun h => ?_) (fun h => ?_) <;> (try simp only [brsA] at h) <;> conv => whnf) | (refine Or.inl ?_; (conv => whnf); refine ⟨_, la, ?_⟩; conv => whnf) | (refine Or.inr (Or.inr (Or.inl ?_)); (conv => whnf); refine ⟨_, la, ?_⟩; conv => whnf) | (refine Exists.intro _ (And.intro (la) ?_); conv => whnf) | (refine Or.inl ?_; (conv => whnf); refine ⟨_, lb, ?_⟩; conv => whnf) | (refine Or.inr (Or.inr (Or.inl ?_)); (conv => whnf); refine ⟨_, lb, ?_⟩; conv => whnf) | (refine Exists.intro _ (And.intro (lb) ?_); conv => whnf) | (refine Or.inl ?_; (conv => whnf); refine ⟨_, hap, ?_⟩; conv => whnf) | (refine Or.inr (Or.inr (Or.inl ?_)); (conv => whnf); refine ⟨_, hap, ?_⟩; conv => whnf) | (refine Exists.intro _ (And.intro (hap) ?_); conv => whnf) | (refine WR_fit ?_ ?_; (focus (first | exact wr_i64 (by omega) | exact wr_u64 (by omega) | exact wr_u8 (by omega) | exact wr_i32 (by omega) | exact wr_u32 (by omega))); conv => whnf) | ((first | refine WR_wrap ?_ | (refine And.intro (a := indepB _ _ = true) ?_ ?_; (focus kernel_rfl)) | refine And.intro rfl ?_ | (refine And.intro ?_ ?_; (focus (first | omega | decide | (dsimp only; omega) | (simp at *; omega))))); conv => whnf))
    all_goals first | (exfalso; omega) | skip
    refine WA_loopI (fun i : Nat => i ≤ l.length) (fun i => [(10, .int .i64 (i : Int))]) (fun i => [.box 30 [.int .i64 (cntH l 1 i : Nat), .int .i64 (cntH l 2 i : Nat), .int .i64 (cntH l 3 i : Nat)]]) (fun i => l.length - i) 0 (by omega) ?_ ?_
    · conv => whnf
      repeat (first | exact rfl | exact trivial | exact Or.inl (fun _ _ => rfl) | exact (fun _ => rfl) | exact (fun _ _ => rfl) | exact Or.inl (fun _ hi => absurd hi (Nat.not_lt_zero _)) | ((first | refine And.intro rfl ?_ | refine And.intro (Or.inl (fun _ _ => rfl)) ?_ | refine And.intro (fun _ => rfl) ?_ | refine And.intro (fun _ _ => rfl) ?_ | (refine And.intro ?_ ?_; rotate_left)); conv => whnf))
    · intro i hi
      have c1 := cntH_le l 1 i
      have c2 := cntH_le l 2 i
      have c3 := cntH_le l 3 i
      conv => whnf
      repeat (first | refine WA_seq ?_ | refine WA_block ?_ | ((first | refine WA_region ttok ?_ | refine WA_draw ttok mixed ?_ | refine WA_cond ?_ | refine WA_skip ?_ | refine WA_exit ?_ | refine WA_ret ?_); conv => whnf))
      refine ⟨fun h => ?_, fun h => ?_⟩
      · have h : (i : Int) < l.length := of_decide_eq_true h
        conv => whnf
        repeat' (first | refine WA_seq ?_ | refine WA_block ?_ | ((first | refine WA_region ttok ?_ | refine WA_draw ttok mixed ?_ | refine WA_cond ?_ | refine WA_skip ?_ | refine WA_exit ?_ | refine WA_ret ?_); conv => whnf) | (refine And.intro (fun h => ?_) (fun h => ?_) <;> (try simp only [brsA] at h) <;> conv => whnf) | (refine WR_fit ?_ ?_; (focus (first | exact wr_i64 (by omega) | exact wr_u64 (by omega) | exact wr_u8 (by omega) | exact wr_i32 (by omega) | exact wr_u32 (by omega))); conv => whnf) | ((first | refine WR_wrap ?_ | (refine And.intro (a := indepB _ _ = true) ?_ ?_; (focus kernel_rfl)) | refine And.intro rfl ?_ | (refine And.intro ?_ ?_; (focus (first | omega | decide | (dsimp only; omega) | (simp at *; omega))))); conv => whnf))
        all_goals first
          | (have q3 : (l.getD (i : Int).toNat default).how = 1 ∨ (l.getD (i : Int).toNat default).how = 2 ∨ (l.getD (i : Int).toNat default).how = 3 := by omega
             rcases q3 with q | q | q
             all_goals rw [q]
             all_goals repeat' (first | refine WA_seq ?_ | refine WA_block ?_ | ((first | refine WA_region ttok ?_ | refine WA_draw ttok mixed ?_ | refine WA_cond ?_ | refine WA_skip ?_ | refine WA_exit ?_ | refine WA_ret ?_); conv => whnf) | (refine And.intro (fun h => ?_) (fun h => ?_) <;> (try simp only [brsA] at h) <;> conv => whnf) | (refine WR_fit ?_ ?_; (focus (first | exact wr_i64 (by omega) | exact wr_u64 (by omega) | exact wr_u8 (by omega) | exact wr_i32 (by omega) | exact wr_u32 (by omega))); conv => whnf) | ((first | refine WR_wrap ?_ | (refine And.intro (a := indepB _ _ = true) ?_ ?_; (focus kernel_rfl)) | refine And.intro rfl ?_ | (refine And.intro ?_ ?_; (focus (first | omega | decide | (dsimp only; omega) | (simp at *; omega))))); conv => whnf)))
          | skip
        all_goals
          refine ⟨i + 1, (by show i + 1 ≤ l.length; omega), (by show l.length - (i + 1) < l.length - i; omega), ?_⟩
          conv => whnf
          repeat (first | exact rfl | exact trivial | exact Or.inl (fun _ _ => rfl) | exact (fun _ => rfl) | exact (fun _ _ => rfl) | exact Or.inl (fun _ hi => absurd hi (Nat.not_lt_zero _)) | ((first | refine And.intro rfl ?_ | refine And.intro (Or.inl (fun _ _ => rfl)) ?_ | refine And.intro (fun _ => rfl) ?_ | refine And.intro (fun _ _ => rfl) ?_ | (refine And.intro ?_ ?_; rotate_left)); conv => whnf))
        all_goals simp only [Int.toNat_natCast] at *
        all_goals (rw [cntH]; first | (rw [if_pos (by assumption)]; rfl) | (rw [if_neg (by omega)]; rfl))
      · have h : ¬ (i : Int) < l.length := of_decide_eq_false h
        have hi' : i = l.length := by omega
        subst hi'
        conv => whnf
        repeat' (first | (contradiction) | refine WA_seq ?_ | refine WA_block ?_ | ((first | refine WA_region ttok ?_ | refine WA_draw ttok mixed ?_ | refine WA_cond ?_ | refine WA_skip ?_ | refine WA_exit ?_ | refine WA_ret ?_); conv => whnf) | (refine And.intro (fun h => ?_) (fun h => ?_) <;> (try simp only [brsA] at h) <;> conv => whnf) | (refine Or.inl ?_; (conv => whnf); refine ⟨_, hct, ?_⟩; conv => whnf) | (refine Or.inr (Or.inr (Or.inl ?_)); (conv => whnf); refine ⟨_, hct, ?_⟩; conv => whnf) | (refine Exists.intro _ (And.intro (hct) ?_); conv => whnf) | (refine Or.inl ?_; (conv => whnf); refine ⟨_, ra, ?_⟩; conv => whnf) | (refine Or.inr (Or.inr (Or.inl ?_)); (conv => whnf); refine ⟨_, ra, ?_⟩; conv => whnf) | (refine Exists.intro _ (And.intro (ra) ?_); conv => whnf) | (refine Or.inl ?_; (conv => whnf); refine ⟨_, rb, ?_⟩; conv => whnf) | (refine Or.inr (Or.inr (Or.inl ?_)); (conv => whnf); refine ⟨_, rb, ?_⟩; conv => whnf) | (refine Exists.intro _ (And.intro (rb) ?_); conv => whnf) | (refine Or.inl ?_; (conv => whnf); refine ⟨_, hw, ?_⟩; conv => whnf) | (refine Or.inr (Or.inr (Or.inl ?_)); (conv => whnf); refine ⟨_, hw, ?_⟩; conv => whnf) | (refine Exists.intro _ (And.intro (hw) ?_); conv => whnf) | (refine WR_fit ?_ ?_; (focus (first | exact wr_i64 (by omega) | exact wr_u64 (by omega) | exact wr_u8 (by omega) | exact wr_i32 (by omega) | exact wr_u32 (by omega))); conv => whnf) | ((first | refine WR_wrap ?_ | (refine And.intro (a := indepB _ _ = true) ?_ ?_; (focus kernel_rfl)) | refine And.intro rfl ?_ | (refine And.intro ?_ ?_; (focus (first | omega | decide | (dsimp only; omega) | (simp at *; omega))))); conv => whnf))
        · simp at h
        · exfalso
          rcases hRE with ⟨q, rfl, rfl⟩ | ⟨q1, q2, q⟩
          · exact h rfl
          · contradiction
        · exfalso
          rcases hRE with ⟨q, rfl, rfl⟩ | ⟨q1, q2, q⟩
          · exact h rfl
          · contradiction
        · have q1 : allR a = 0 := by assumption
          have q2 : allR b = 0 := by assumption
          have hRE : (allR (appL a b l l.length) = 0 ∧ R = appL a b l l.length ∧ E = 0) ∨ (allR (appL a b l l.length) ≠ 0 ∧ R = [] ∧ E = 1) := by
            rcases hRE with ⟨q, _, _⟩ | ⟨_, _, q⟩
            · omega
            · exact q
          refine WA_freeze 1 ?_
          conv => whnf
          have e0 : appL a b l 0 = a := rfl
          have hpa := allR_pw q1
          have hpb := allR_pw q2
          have eW : ∀ k, rtL (appL a b l k) b (l.getD k default).id = appL a b l (k + 1) := fun k => rtL_eq (pw_app l hpa hpb k) hpb _
          have hlen := appL_len a b l
          have hLt : Lt (appL a b l l.length) := appL_lt ha hb _ (by omega)
          generalize appL a b l = Wk at *
          refine WA_loopI (fun x : Nat × List Rd => x.1 ≤ l.length ∧ Wk x.1 = x.2) (fun x => match x with | (k, o) => [(12, .int .i64 (k : Int)), (11, rdsA o)]) (fun _ => [.box 30 [.int .i64 (cntH l 1 l.length : Nat), .int .i64 (cntH l 2 l.length : Nat), .int .i64 (cntH l 3 l.length : Nat)]]) (fun x => l.length - x.1) (0, a) ⟨by simp, e0⟩ ?_ ?_
          · conv => whnf
            repeat (first | exact rfl | exact trivial | exact Or.inl (fun _ _ => rfl) | exact (fun _ => rfl) | exact (fun _ _ => rfl) | exact Or.inl (fun _ hi => absurd hi (Nat.not_lt_zero _)) | ((first | refine And.intro rfl ?_ | refine And.intro (Or.inl (fun _ _ => rfl)) ?_ | refine And.intro (fun _ => rfl) ?_ | refine And.intro (fun _ _ => rfl) ?_ | (refine And.intro ?_ ?_; rotate_left)); conv => whnf))
            all_goals exact Nat.zero_add _
          · rintro ⟨k, o⟩ ⟨hk, ho⟩
            have hk : k ≤ l.length := hk
            have ho : Wk k = o := ho
            have hlo := hlen k
            rw [ho] at hlo
            have ht := rturn_c (G := G) o b (l.getD k default).id (by omega) (by omega)
            have eK := eW k
            rw [ho] at eK
            rw [eK] at ht
            generalize hW1 : Wk (k + 1) = o1 at ht
            conv => whnf
            repeat (first | refine WA_seq ?_ | refine WA_block ?_ | ((first | refine WA_region ttok ?_ | refine WA_draw ttok mixed ?_ | refine WA_cond ?_ | refine WA_skip ?_ | refine WA_exit ?_ | refine WA_ret ?_); conv => whnf))
            refine ⟨fun h => ?_, fun h => ?_⟩
            · have h : (k : Int) < l.length := of_decide_eq_true h
              conv => whnf
              repeat' (first | refine WA_seq ?_ | refine WA_block ?_ | ((first | refine WA_region ttok ?_ | refine WA_draw ttok mixed ?_ | refine WA_cond ?_ | refine WA_skip ?_ | refine WA_exit ?_ | refine WA_ret ?_); conv => whnf) | (refine And.intro (fun h => ?_) (fun h => ?_) <;> (try simp only [brsA] at h) <;> conv => whnf) | (refine Or.inl ?_; (conv => whnf); refine ⟨_, ht, ?_⟩; conv => whnf) | (refine Or.inr (Or.inr (Or.inl ?_)); (conv => whnf); refine ⟨_, ht, ?_⟩; conv => whnf) | (refine Exists.intro _ (And.intro (ht) ?_); conv => whnf) | (refine WR_fit ?_ ?_; (focus (first | exact wr_i64 (by omega) | exact wr_u64 (by omega) | exact wr_u8 (by omega) | exact wr_i32 (by omega) | exact wr_u32 (by omega))); conv => whnf) | ((first | refine WR_wrap ?_ | (refine And.intro (a := indepB _ _ = true) ?_ ?_; (focus kernel_rfl)) | refine And.intro rfl ?_ | (refine And.intro ?_ ?_; (focus (first | omega | decide | (dsimp only; omega) | (simp at *; omega))))); conv => whnf))
              refine ⟨(k + 1, o1), ⟨by show k + 1 ≤ l.length; omega, hW1⟩, (by show l.length - (k + 1) < l.length - k; omega), ?_⟩
              conv => whnf
              repeat (first | exact rfl | exact trivial | exact Or.inl (fun _ _ => rfl) | exact (fun _ => rfl) | exact (fun _ _ => rfl) | exact Or.inl (fun _ hi => absurd hi (Nat.not_lt_zero _)) | ((first | refine And.intro rfl ?_ | refine And.intro (Or.inl (fun _ _ => rfl)) ?_ | refine And.intro (fun _ => rfl) ?_ | refine And.intro (fun _ _ => rfl) ?_ | (refine And.intro ?_ ?_; rotate_left)); conv => whnf))
            · have h : ¬ (k : Int) < l.length := of_decide_eq_false h
              have hk' : k = l.length := by omega
              subst hk'
              rw [ho] at hRE hLt
              have hr := rall_c (G := G) o hLt
              rcases hRE with ⟨r1, rfl, rfl⟩ | ⟨r1, rfl, rfl⟩
              · rw [r1] at hr
                have hs := sameL_c (G := G) R R hLt
                rw [decide_eq_true rfl] at hs
                conv => whnf
                repeat' (first | (contradiction) | refine WA_seq ?_ | refine WA_block ?_ | ((first | refine WA_region ttok ?_ | refine WA_draw ttok mixed ?_ | refine WA_cond ?_ | refine WA_skip ?_ | refine WA_exit ?_ | refine WA_ret ?_); conv => whnf) | (refine And.intro (fun h => ?_) (fun h => ?_) <;> (try simp only [brsA] at h) <;> conv => whnf) | (refine Or.inl ?_; (conv => whnf); refine ⟨_, hr, ?_⟩; conv => whnf) | (refine Or.inr (Or.inr (Or.inl ?_)); (conv => whnf); refine ⟨_, hr, ?_⟩; conv => whnf) | (refine Exists.intro _ (And.intro (hr) ?_); conv => whnf) | (refine Or.inl ?_; (conv => whnf); refine ⟨_, hs, ?_⟩; conv => whnf) | (refine Or.inr (Or.inr (Or.inl ?_)); (conv => whnf); refine ⟨_, hs, ?_⟩; conv => whnf) | (refine Exists.intro _ (And.intro (hs) ?_); conv => whnf) | (refine Or.inl ?_; (conv => whnf); refine ⟨_, hw, ?_⟩; conv => whnf) | (refine Or.inr (Or.inr (Or.inl ?_)); (conv => whnf); refine ⟨_, hw, ?_⟩; conv => whnf) | (refine Exists.intro _ (And.intro (hw) ?_); conv => whnf) | (refine WR_fit ?_ ?_; (focus (first | exact wr_i64 (by omega) | exact wr_u64 (by omega) | exact wr_u8 (by omega) | exact wr_i32 (by omega) | exact wr_u32 (by omega))); conv => whnf) | ((first | refine WR_wrap ?_ | (refine And.intro (a := indepB _ _ = true) ?_ ?_; (focus kernel_rfl)) | refine And.intro rfl ?_ | (refine And.intro ?_ ?_; (focus (first | omega | decide | (dsimp only; omega) | (simp at *; omega))))); conv => whnf))
              · conv => whnf
                repeat' (first | (contradiction) | refine WA_seq ?_ | refine WA_block ?_ | ((first | refine WA_region ttok ?_ | refine WA_draw ttok mixed ?_ | refine WA_cond ?_ | refine WA_skip ?_ | refine WA_exit ?_ | refine WA_ret ?_); conv => whnf) | (refine And.intro (fun h => ?_) (fun h => ?_) <;> (try simp only [brsA] at h) <;> conv => whnf) | (refine Or.inl ?_; (conv => whnf); refine ⟨_, hr, ?_⟩; conv => whnf) | (refine Or.inr (Or.inr (Or.inl ?_)); (conv => whnf); refine ⟨_, hr, ?_⟩; conv => whnf) | (refine Exists.intro _ (And.intro (hr) ?_); conv => whnf) | (refine Or.inl ?_; (conv => whnf); refine ⟨_, hw, ?_⟩; conv => whnf) | (refine Or.inr (Or.inr (Or.inl ?_)); (conv => whnf); refine ⟨_, hw, ?_⟩; conv => whnf) | (refine Exists.intro _ (And.intro (hw) ?_); conv => whnf) | (refine WR_fit ?_ ?_; (focus (first | exact wr_i64 (by omega) | exact wr_u64 (by omega) | exact wr_u8 (by omega) | exact wr_i32 (by omega) | exact wr_u32 (by omega))); conv => whnf) | ((first | refine WR_wrap ?_ | (refine And.intro (a := indepB _ _ = true) ?_ ?_; (focus kernel_rfl)) | refine And.intro rfl ?_ | (refine And.intro ?_ ?_; (focus (first | omega | decide | (dsimp only; omega) | (simp at *; omega))))); conv => whnf))
        · exfalso
          rcases hRE with ⟨q, rfl, rfl⟩ | ⟨q1, q2, q⟩
          · exact h rfl
          · contradiction
        · exfalso
          rcases hRE with ⟨q, rfl, rfl⟩ | ⟨q1, q2, q⟩
          · exact h rfl
          · contradiction
  · refine ACalls.of_WA ttok Try.func4 rfl rfl _ rfl ?_
    by_cases h1 : LightR a
    · rw [decide_eq_true h1] at la
      by_cases h2 : LightR b
      · rw [decide_eq_true h2] at lb
        have h3 : ¬ l.length ≤ 30 := fun h => hL ⟨h1, h2, h⟩
        conv => whnf
        repeat' (first | (contradiction) | refine WA_seq ?_ | refine WA_block ?_ | ((first | refine WA_region ttok ?_ | refine WA_draw ttok mixed ?_ | refine WA_cond ?_ | refine WA_skip ?_ | refine WA_exit ?_ | refine WA_ret ?_); conv => whnf) | (refine And.intro (fun h => ?_) (fun h => ?_) <;> (try simp only [brsA] at h) <;> conv => whnf) | (refine Or.inl ?_; (conv => whnf); refine ⟨_, la, ?_⟩; conv => whnf) | (refine Or.inr (Or.inr (Or.inl ?_)); (conv => whnf); refine ⟨_, la, ?_⟩; conv => whnf) | (refine Exists.intro _ (And.intro (la) ?_); conv => whnf) | (refine Or.inl ?_; (conv => whnf); refine ⟨_, lb, ?_⟩; conv => whnf) | (refine Or.inr (Or.inr (Or.inl ?_)); (conv => whnf); refine ⟨_, lb, ?_⟩; conv => whnf) | (refine Exists.intro _ (And.intro (lb) ?_); conv => whnf) | (refine Or.inl ?_; (conv => whnf); refine ⟨_, hw, ?_⟩; conv => whnf) | (refine Or.inr (Or.inr (Or.inl ?_)); (conv => whnf); refine ⟨_, hw, ?_⟩; conv => whnf) | (refine Exists.intro _ (And.intro (hw) ?_); conv => whnf) | (refine WR_fit ?_ ?_; (focus (first | exact wr_i64 (by omega) | exact wr_u64 (by omega) | exact wr_u8 (by omega) | exact wr_i32 (by omega) | exact wr_u32 (by omega))); conv => whnf) | ((first | refine WR_wrap ?_ | (refine And.intro (a := indepB _ _ = true) ?_ ?_; (focus kernel_rfl)) | refine And.intro rfl ?_ | (refine And.intro ?_ ?_; (focus (first | omega | decide | (dsimp only; omega) | (simp at *; omega))))); conv => whnf))
        all_goals first | (exfalso; omega) | skip
      · rw [decide_eq_false h2] at lb
        conv => whnf
        repeat' (first | (contradiction) | refine WA_seq ?_ | refine WA_block ?_ | ((first | refine WA_region ttok ?_ | refine WA_draw ttok mixed ?_ | refine WA_cond ?_ | refine WA_skip ?_ | refine WA_exit ?_ | refine WA_ret ?_); conv => whnf) | (refine And.intro (fun h => ?_) (fun h => ?_) <;> (try simp only [brsA] at h) <;> conv => whnf) | (refine Or.inl ?_; (conv => whnf); refine ⟨_, la, ?_⟩; conv => whnf) | (refine Or.inr (Or.inr (Or.inl ?_)); (conv => whnf); refine ⟨_, la, ?_⟩; conv => whnf) | (refine Exists.intro _ (And.intro (la) ?_); conv => whnf) | (refine Or.inl ?_; (conv => whnf); refine ⟨_, lb, ?_⟩; conv => whnf) | (refine Or.inr (Or.inr (Or.inl ?_)); (conv => whnf); refine ⟨_, lb, ?_⟩; conv => whnf) | (refine Exists.intro _ (And.intro (lb) ?_); conv => whnf) | (refine Or.inl ?_; (conv => whnf); refine ⟨_, hw, ?_⟩; conv => whnf) | (refine Or.inr (Or.inr (Or.inl ?_)); (conv => whnf); refine ⟨_, hw, ?_⟩; conv => whnf) | (refine Exists.intro _ (And.intro (hw) ?_); conv => whnf) | (refine WR_fit ?_ ?_; (focus (first | exact wr_i64 (by omega) | exact wr_u64 (by omega) | exact wr_u8 (by omega) | exact wr_i32 (by omega) | exact wr_u32 (by omega))); conv => whnf) | ((first | refine WR_wrap ?_ | (refine And.intro (a := indepB _ _ = true) ?_ ?_; (focus kernel_rfl)) | refine And.intro rfl ?_ | (refine And.intro ?_ ?_; (focus (first | omega | decide | (dsimp only; omega) | (simp at *; omega))))); conv => whnf))
    · rw [decide_eq_false h1] at la
      conv => whnf
      repeat' (first | (contradiction) | refine WA_seq ?_ | refine WA_block ?_ | ((first | refine WA_region ttok ?_ | refine WA_draw ttok mixed ?_ | refine WA_cond ?_ | refine WA_skip ?_ | refine WA_exit ?_ | refine WA_ret ?_); conv => whnf) | (refine And.intro (fun h => ?_) (fun h => ?_) <;> (try simp only [brsA] at h) <;> conv => whnf) | (refine Or.inl ?_; (conv => whnf); refine ⟨_, la, ?_⟩; conv => whnf) | (refine Or.inr (Or.inr (Or.inl ?_)); (conv => whnf); refine ⟨_, la, ?_⟩; conv => whnf) | (refine Exists.intro _ (And.intro (la) ?_); conv => whnf) | (refine Or.inl ?_; (conv => whnf); refine ⟨_, hw, ?_⟩; conv => whnf) | (refine Or.inr (Or.inr (Or.inl ?_)); (conv => whnf); refine ⟨_, hw, ?_⟩; conv => whnf) | (refine Exists.intro _ (And.intro (hw) ?_); conv => whnf) | (refine WR_fit ?_ ?_; (focus (first | exact wr_i64 (by omega) | exact wr_u64 (by omega) | exact wr_u8 (by omega) | exact wr_i32 (by omega) | exact wr_u32 (by omega))); conv => whnf) | ((first | refine WR_wrap ?_ | (refine And.intro (a := indepB _ _ = true) ?_ ?_; (focus kernel_rfl)) | refine And.intro rfl ?_ | (refine And.intro ?_ ?_; (focus (first | omega | decide | (dsimp only; omega) | (simp at *; omega))))); conv => whnf))
end Go.Proofs.Ytekfaocnlejgaaa

/-
  The law's walk.
-/
import Derived.Test.YtekfaocnlejgaaaLaws1
set_option linter.unusedSimpArgs false
set_option linter.unusedSectionVars false
set_option linter.unusedVariables false
namespace Go.Proofs.Ytekfaocnlejgaaa
open Go.Proofs.Ytekfaocnlejgaaa.Am Go.Sort Go.Proofs
variable [Inhabited DRT]
variable {G : GInv}
/-! ### The law of the changes from roads to others -/
theorem cn_snoc (p : List Ch) (c : Ch) (h : Int) : cn (p ++ [c]) h = cn p h + if c.how = h then 1 else 0 := by
  unfold cn
  rw [List.countP_append, List.countP_singleton]
  simp
theorem cn_le (p : List Ch) (h : Int) : cn p h ≤ p.length := List.countP_le_length
theorem ch_eq (c : Ch) (x h : Int) : (c.id == x && (c.how == h && true)) = decide (c = ⟨x, h⟩) := by
  rw [Bool.eq_iff_iff]; simp only [brsE]
  constructor
  · rintro ⟨h1, h2⟩; cases c; simp_all
  · rintro rfl; exact ⟨rfl, rfl⟩
theorem snocB {L : List Ch} {k : Nat} {c : Ch} (hn : ¬ ∃ j, j < k ∧ L.getD j default = c) : (L.getD k default = c ↔ ∃ j, j < k + 1 ∧ L.getD j default = c) := by
  constructor
  · intro h; exact ⟨k, Nat.lt_succ_self k, h⟩
  · rintro ⟨j, h1, h2⟩
    rcases Nat.lt_or_eq_of_le (Nat.le_of_lt_succ h1) with q | q
    · exact absurd ⟨j, q, h2⟩ hn
    · rw [← q]; exact h2
theorem do_bad (hns : ¬ (default : DRT).ns) (a b : List Rd) (hLa : LightR a) (hLb : LightR b) (h : allR a ≠ 0 ∨ allR b ≠ 0) : ACalls Try.prog G 3 [rdsA a, rdsA b] (.sb true) := by
  have hw := awake_c (G := G) hns
  have la := light_c (G := G) a
  have lb := light_c (G := G) b
  rw [decide_eq_true hLa] at la
  rw [decide_eq_true hLb] at lb
  have ha := light_lt hLa
  have hb := light_lt hLb
  have ho := of_bad (G := G) a b ha hb h
  have ra := rall_c (G := G) a ha
  have rb := rall_c (G := G) b hb
  generalize allR a = x at *
  generalize allR b = y at *
  refine ACalls.of_WA ttok Try.func3 rfl rfl _ rfl ?_
  conv => whnf
  repeat' (first | (contradiction) | refine WA_seq ?_ | refine WA_block ?_ | ((first | refine WA_region ttok ?_ | refine WA_draw ttok mixed ?_ | refine WA_cond ?_ | refine WA_skip ?_ | refine WA_exit ?_ | refine WA_ret ?_); conv => whnf) | (refine And.intro (fun h => ?_) (fun h => ?_) <;> (try simp only [brsA] at h) <;> conv => whnf) | (refine Or.inl ?_; (conv => whnf); refine ⟨_, la, ?_⟩; conv => whnf) | (refine Or.inr (Or.inr (Or.inl ?_)); (conv => whnf); refine ⟨_, la, ?_⟩; conv => whnf) | (refine Exists.intro _ (And.intro (la) ?_); conv => whnf) | (refine Or.inl ?_; (conv => whnf); refine ⟨_, lb, ?_⟩; conv => whnf) | (refine Or.inr (Or.inr (Or.inl ?_)); (conv => whnf); refine ⟨_, lb, ?_⟩; conv => whnf) | (refine Exists.intro _ (And.intro (lb) ?_); conv => whnf) | (refine Or.inl ?_; (conv => whnf); refine ⟨_, ho, ?_⟩; conv => whnf) | (refine Or.inr (Or.inr (Or.inl ?_)); (conv => whnf); refine ⟨_, ho, ?_⟩; conv => whnf) | (refine Exists.intro _ (And.intro (ho) ?_); conv => whnf) | (refine Or.inl ?_; (conv => whnf); refine ⟨_, ra, ?_⟩; conv => whnf) | (refine Or.inr (Or.inr (Or.inl ?_)); (conv => whnf); refine ⟨_, ra, ?_⟩; conv => whnf) | (refine Exists.intro _ (And.intro (ra) ?_); conv => whnf) | (refine Or.inl ?_; (conv => whnf); refine ⟨_, rb, ?_⟩; conv => whnf) | (refine Or.inr (Or.inr (Or.inl ?_)); (conv => whnf); refine ⟨_, rb, ?_⟩; conv => whnf) | (refine Exists.intro _ (And.intro (rb) ?_); conv => whnf) | (refine Or.inl ?_; (conv => whnf); refine ⟨_, hw, ?_⟩; conv => whnf) | (refine Or.inr (Or.inr (Or.inl ?_)); (conv => whnf); refine ⟨_, hw, ?_⟩; conv => whnf) | (refine Exists.intro _ (And.intro (hw) ?_); conv => whnf) | (refine WR_fit ?_ ?_; (focus (first | exact wr_i64 (by omega) | exact wr_u64 (by omega) | exact wr_u8 (by omega) | exact wr_i32 (by omega) | exact wr_u32 (by omega))); conv => whnf) | ((first | refine WR_wrap ?_ | (refine And.intro (a := indepB _ _ = true) ?_ ?_; (focus kernel_rfl)) | refine And.intro rfl ?_ | (refine And.intro ?_ ?_; (focus (first | omega | decide | (dsimp only; omega) | (simp at *; omega))))); conv => whnf))
  all_goals first | (exfalso; omega) | skip
theorem do_dark (hns : ¬ (default : DRT).ns) (a b : List Rd) (h : ¬ (LightR a ∧ LightR b)) : ACalls Try.prog G 3 [rdsA a, rdsA b] (.sb true) := by
  have hw := awake_c (G := G) hns
  have la := light_c (G := G) a
  have lb := light_c (G := G) b
  by_cases h1 : LightR a
  · rw [decide_eq_true h1] at la
    rw [decide_eq_false (fun h2 => h ⟨h1, h2⟩)] at lb
    refine ACalls.of_WA ttok Try.func3 rfl rfl _ rfl ?_
    conv => whnf
    repeat' (first | (contradiction) | refine WA_seq ?_ | refine WA_block ?_ | ((first | refine WA_region ttok ?_ | refine WA_draw ttok mixed ?_ | refine WA_cond ?_ | refine WA_skip ?_ | refine WA_exit ?_ | refine WA_ret ?_); conv => whnf) | (refine And.intro (fun h => ?_) (fun h => ?_) <;> (try simp only [brsA] at h) <;> conv => whnf) | (refine Or.inl ?_; (conv => whnf); refine ⟨_, la, ?_⟩; conv => whnf) | (refine Or.inr (Or.inr (Or.inl ?_)); (conv => whnf); refine ⟨_, la, ?_⟩; conv => whnf) | (refine Exists.intro _ (And.intro (la) ?_); conv => whnf) | (refine Or.inl ?_; (conv => whnf); refine ⟨_, lb, ?_⟩; conv => whnf) | (refine Or.inr (Or.inr (Or.inl ?_)); (conv => whnf); refine ⟨_, lb, ?_⟩; conv => whnf) | (refine Exists.intro _ (And.intro (lb) ?_); conv => whnf) | (refine Or.inl ?_; (conv => whnf); refine ⟨_, hw, ?_⟩; conv => whnf) | (refine Or.inr (Or.inr (Or.inl ?_)); (conv => whnf); refine ⟨_, hw, ?_⟩; conv => whnf) | (refine Exists.intro _ (And.intro (hw) ?_); conv => whnf) | (refine WR_fit ?_ ?_; (focus (first | exact wr_i64 (by omega) | exact wr_u64 (by omega) | exact wr_u8 (by omega) | exact wr_i32 (by omega) | exact wr_u32 (by omega))); conv => whnf) | ((first | refine WR_wrap ?_ | (refine And.intro (a := indepB _ _ = true) ?_ ?_; (focus kernel_rfl)) | refine And.intro rfl ?_ | (refine And.intro ?_ ?_; (focus (first | omega | decide | (dsimp only; omega) | (simp at *; omega))))); conv => whnf))
  · rw [decide_eq_false h1] at la
    refine ACalls.of_WA ttok Try.func3 rfl rfl _ rfl ?_
    conv => whnf
    repeat' (first | (contradiction) | refine WA_seq ?_ | refine WA_block ?_ | ((first | refine WA_region ttok ?_ | refine WA_draw ttok mixed ?_ | refine WA_cond ?_ | refine WA_skip ?_ | refine WA_exit ?_ | refine WA_ret ?_); conv => whnf) | (refine And.intro (fun h => ?_) (fun h => ?_) <;> (try simp only [brsA] at h) <;> conv => whnf) | (refine Or.inl ?_; (conv => whnf); refine ⟨_, la, ?_⟩; conv => whnf) | (refine Or.inr (Or.inr (Or.inl ?_)); (conv => whnf); refine ⟨_, la, ?_⟩; conv => whnf) | (refine Exists.intro _ (And.intro (la) ?_); conv => whnf) | (refine Or.inl ?_; (conv => whnf); refine ⟨_, hw, ?_⟩; conv => whnf) | (refine Or.inr (Or.inr (Or.inl ?_)); (conv => whnf); refine ⟨_, hw, ?_⟩; conv => whnf) | (refine Exists.intro _ (And.intro (hw) ?_); conv => whnf) | (refine WR_fit ?_ ?_; (focus (first | exact wr_i64 (by omega) | exact wr_u64 (by omega) | exact wr_u8 (by omega) | exact wr_i32 (by omega) | exact wr_u32 (by omega))); conv => whnf) | ((first | refine WR_wrap ?_ | (refine And.intro (a := indepB _ _ = true) ?_ ?_; (focus kernel_rfl)) | refine And.intro rfl ?_ | (refine And.intro ?_ ?_; (focus (first | omega | decide | (dsimp only; omega) | (simp at *; omega))))); conv => whnf))
set_option maxRecDepth 100000 in
set_option maxHeartbeats 4000000 in
theorem do_ok (hns : ¬ (default : DRT).ns) (a b : List Rd) (hLa : LightR a) (hLb : LightR b) (q1 : allR a = 0) (q2 : allR b = 0) : ACalls Try.prog G 3 [rdsA a, rdsA b] (.sb true) := by
  have hw := awake_c (G := G) hns
  have la := light_c (G := G) a
  have lb := light_c (G := G) b
  rw [decide_eq_true hLa] at la
  rw [decide_eq_true hLb] at lb
  have ha := light_lt hLa
  have hb := light_lt hLb
  have hla := hLa.1
  have hlb := hLb.1
  have hpa := allR_pw q1
  have hpb := allR_pw q2
  have ho := of_ok (G := G) hns a b ha hb ⟨q1, q2⟩
  have ra := rall_c (G := G) a ha
  have rb := rall_c (G := G) b hb
  rw [q1] at ra
  rw [q2] at rb
  obtain ⟨hm, hlen, hcn, hris⟩ := of_facts hpa hpb
  have hpl := psI_len a b
  have hend := psI_end a b
  have hps := psI_succ a b
  have hp0 : psI a b 0 = [] := by simp [psI, ofA]
  have happ := app_all hpa hpb (ofL a b) hm
  have hap1 := apply_all (G := G) a b (ofL a b) ha hb (by have := hpl (a.length + b.length); rw [hend] at this; omega) ⟨q1, q2⟩ b 0 (.inl ⟨by rw [happ]; exact q2, happ.symm, rfl⟩)
  have hap2 := apply_all (G := G) a b [] ha hb (by simp; omega) ⟨q1, q2⟩ a 0 (.inl ⟨q1, rfl, rfl⟩)
  have hap2 : ACalls Try.prog G 11 [rdsA a, rdsA b, .nils] (.tup [rdsA a, .int .i64 0]) := ACalls.fit hap2 (by
    show andL _
    conv => whnf
    repeat (first | exact rfl | exact trivial | exact Or.inl (fun _ _ => rfl) | exact (fun _ => rfl) | exact (fun _ _ => rfl) | exact Or.inl (fun _ hi => absurd hi (Nat.not_lt_zero _)) | ((first | refine And.intro rfl ?_ | refine And.intro (Or.inl (fun _ _ => rfl)) ?_ | refine And.intro (fun _ => rfl) ?_ | refine And.intro (fun _ _ => rfl) ?_ | (refine And.intro ?_ ?_; rotate_left)); conv => whnf)))
  have hs1 := sameL_c (G := G) b b hb
  have hs2 := sameL_c (G := G) a a ha
  rw [decide_eq_true rfl] at hs1 hs2
  have hct := count_c (G := G) (ofL a b) (by have := hpl (a.length + b.length); rw [hend] at this; omega)
  rw [hcn, hcn, hcn, ← hend] at hct
  rw [← hend] at hlen hm
  have hmem : ∀ i, i < a.length + b.length → ∀ c, c ∈ chI a b i → c ∈ ofL a b := fun i hi c hc => (hm c).2 (by rw [hend]; exact chI_mem hi hc)
  have hLn : (ofL a b).length ≤ 420 := by have := hpl (a.length + b.length); omega
  clear happ hm hcn
  generalize ofL a b = L at *
  generalize psI a b = P at *
  refine ACalls.of_WA ttok Try.func3 rfl rfl _ rfl ?_
  conv => whnf
  repeat' (first | (contradiction) | refine WA_seq ?_ | refine WA_block ?_ | ((first | refine WA_region ttok ?_ | refine WA_draw ttok mixed ?_ | refine WA_cond ?_ | refine WA_skip ?_ | refine WA_exit ?_ | refine WA_ret ?_); conv => whnf) | (refine And.intro (fun h => ?_) (fun h => ?_) <;> (try simp only [brsA] at h) <;> conv => whnf) | (refine Or.inl ?_; (conv => whnf); refine ⟨_, la, ?_⟩; conv => whnf) | (refine Or.inr (Or.inr (Or.inl ?_)); (conv => whnf); refine ⟨_, la, ?_⟩; conv => whnf) | (refine Exists.intro _ (And.intro (la) ?_); conv => whnf) | (refine Or.inl ?_; (conv => whnf); refine ⟨_, lb, ?_⟩; conv => whnf) | (refine Or.inr (Or.inr (Or.inl ?_)); (conv => whnf); refine ⟨_, lb, ?_⟩; conv => whnf) | (refine Exists.intro _ (And.intro (lb) ?_); conv => whnf) | (refine Or.inl ?_; (conv => whnf); refine ⟨_, ho, ?_⟩; conv => whnf) | (refine Or.inr (Or.inr (Or.inl ?_)); (conv => whnf); refine ⟨_, ho, ?_⟩; conv => whnf) | (refine Exists.intro _ (And.intro (ho) ?_); conv => whnf) | (refine Or.inl ?_; (conv => whnf); refine ⟨_, ra, ?_⟩; conv => whnf) | (refine Or.inr (Or.inr (Or.inl ?_)); (conv => whnf); refine ⟨_, ra, ?_⟩; conv => whnf) | (refine Exists.intro _ (And.intro (ra) ?_); conv => whnf) | (refine Or.inl ?_; (conv => whnf); refine ⟨_, rb, ?_⟩; conv => whnf) | (refine Or.inr (Or.inr (Or.inl ?_)); (conv => whnf); refine ⟨_, rb, ?_⟩; conv => whnf) | (refine Exists.intro _ (And.intro (rb) ?_); conv => whnf) | (refine WR_fit ?_ ?_; (focus (first | exact wr_i64 (by omega) | exact wr_u64 (by omega) | exact wr_u8 (by omega) | exact wr_i32 (by omega) | exact wr_u32 (by omega))); conv => whnf) | ((first | refine WR_wrap ?_ | (refine And.intro (a := indepB _ _ = true) ?_ ?_; (focus kernel_rfl)) | refine And.intro rfl ?_ | (refine And.intro ?_ ?_; (focus (first | omega | decide | (dsimp only; omega) | (simp at *; omega))))); conv => whnf))
  refine WA_loopI (fun x : Nat × List Ch => x.1 ≤ a.length + b.length ∧ P x.1 = x.2) (fun x => match x with | (i, p) => [(9, .int .i64 (i : Int)), (8, .int .i64 (p.length : Nat))]) (fun x => match x with | (i, p) => [.box 30 [.int .i64 (cn p 1 : Nat), .int .i64 (cn p 2 : Nat), .int .i64 (cn p 3 : Nat)]]) (fun x => a.length + b.length - x.1) (0, []) ⟨by simp, hp0⟩ ?_ ?_
  · conv => whnf
    repeat (first | exact rfl | exact trivial | exact Or.inl (fun _ _ => rfl) | exact (fun _ => rfl) | exact (fun _ _ => rfl) | exact Or.inl (fun _ hi => absurd hi (Nat.not_lt_zero _)) | ((first | refine And.intro rfl ?_ | refine And.intro (Or.inl (fun _ _ => rfl)) ?_ | refine And.intro (fun _ => rfl) ?_ | refine And.intro (fun _ _ => rfl) ?_ | (refine And.intro ?_ ?_; rotate_left)); conv => whnf))
  · rintro ⟨i, p⟩ ⟨hi, hp⟩
    have hi : i ≤ a.length + b.length := hi
    have hp : P i = p := hp
    have hpi := hpl i
    rw [hp] at hpi
    have c1 := cn_le p 1
    have c2 := cn_le p 2
    have c3 := cn_le p 3
    have hsi := hps i
    rw [hp] at hsi
    conv => whnf
    repeat (first | refine WA_seq ?_ | refine WA_block ?_ | ((first | refine WA_region ttok ?_ | refine WA_draw ttok mixed ?_ | refine WA_cond ?_ | refine WA_skip ?_ | refine WA_exit ?_ | refine WA_ret ?_); conv => whnf))
    refine WR_fit (wr_i64 (by omega)) ?_
    conv => whnf
    repeat (first | refine WA_seq ?_ | refine WA_block ?_ | ((first | refine WA_region ttok ?_ | refine WA_draw ttok mixed ?_ | refine WA_cond ?_ | refine WA_skip ?_ | refine WA_exit ?_ | refine WA_ret ?_); conv => whnf))
    refine ⟨fun h => ?_, fun h => ?_⟩
    · have hlt : (i : Int) < a.length + b.length := of_decide_eq_true h
      have hlt' : i < a.length + b.length := by omega
      obtain ⟨k1, k2⟩ := chI_facts hpa hpb i hlt'
      have hmi := hmem i hlt'
      by_cases hia : i < a.length
      · have hx : idI a b i = (a.getD i default).id := by unfold idI; rw [if_pos hia]
        rw [hx] at k1 k2
        have h9 := how_c (G := G) a b (a.getD i default).id ha (by omega)
        generalize howR a b (a.getD i default).id = hh at *
        generalize chI a b i = C at *
        conv => whnf
        repeat' (first | (contradiction) | refine WA_seq ?_ | refine WA_block ?_ | ((first | refine WA_region ttok ?_ | refine WA_draw ttok mixed ?_ | refine WA_cond ?_ | refine WA_skip ?_ | refine WA_exit ?_ | refine WA_ret ?_); conv => whnf) | (refine And.intro (fun h => ?_) (fun h => ?_) <;> (try simp only [brsA] at h) <;> conv => whnf) | (refine Or.inl ?_; (conv => whnf); refine ⟨_, h9, ?_⟩; conv => whnf) | (refine Or.inr (Or.inr (Or.inl ?_)); (conv => whnf); refine ⟨_, h9, ?_⟩; conv => whnf) | (refine Exists.intro _ (And.intro (h9) ?_); conv => whnf) | (refine WR_fit ?_ ?_; (focus (first | exact wr_i64 (by omega) | exact wr_u64 (by omega) | exact wr_u8 (by omega) | exact wr_i32 (by omega) | exact wr_u32 (by omega))); conv => whnf) | ((first | refine WR_wrap ?_ | (refine And.intro (a := indepB _ _ = true) ?_ ?_; (focus kernel_rfl)) | refine And.intro rfl ?_ | (refine And.intro ?_ ?_; (focus (first | omega | decide | (dsimp only; omega) | (simp at *; omega))))); conv => whnf))
        all_goals first | (exfalso; omega) | skip
        · obtain ⟨kC, k3, k4⟩ := k2 (by omega)
          have hin := hmi _ (by rw [kC]; exact List.mem_singleton.2 rfl)
          rw [kC] at hsi
          clear k1 k2 kC hmi
          have q3 : hh = 1 ∨ hh = 2 ∨ hh = 3 := by omega
          rcases q3 with q | q | q
          · subst q
            repeat' (first | refine WA_seq ?_ | refine WA_block ?_ | ((first | refine WA_region ttok ?_ | refine WA_draw ttok mixed ?_ | refine WA_cond ?_ | refine WA_skip ?_ | refine WA_exit ?_ | refine WA_ret ?_); conv => whnf) | (refine And.intro (fun h => ?_) (fun h => ?_) <;> (try simp only [brsA] at h) <;> conv => whnf) | (refine WR_fit ?_ ?_; (focus (first | exact wr_i64 (by omega) | exact wr_u64 (by omega) | exact wr_u8 (by omega) | exact wr_i32 (by omega) | exact wr_u32 (by omega))); conv => whnf) | ((first | refine WR_wrap ?_ | (refine And.intro (a := indepB _ _ = true) ?_ ?_; (focus kernel_rfl)) | refine And.intro rfl ?_ | (refine And.intro ?_ ?_; (focus (first | omega | decide | (dsimp only; omega) | (simp at *; omega))))); conv => whnf))
            refine WA_loopI (fun y : Nat × Bool => y.1 ≤ L.length ∧ (y.2 = true ↔ ∃ j, j < y.1 ∧ L.getD j default = ⟨(a.getD i default).id, 1⟩)) (fun y => match y with | (k, t) => [(13, .int .i64 (k : Int)), (12, .sb t)]) (fun _ => [.box 30 [.int .i64 (cn (p ++ [⟨(a.getD i default).id, 1⟩]) 1 : Nat), .int .i64 (cn (p ++ [⟨(a.getD i default).id, 1⟩]) 2 : Nat), .int .i64 (cn (p ++ [⟨(a.getD i default).id, 1⟩]) 3 : Nat)]]) (fun y => L.length - y.1) (0, false) ⟨by simp, by simp⟩ ?_ ?_
            · conv => whnf
              repeat (first | exact rfl | exact trivial | exact Or.inl (fun _ _ => rfl) | exact (fun _ => rfl) | exact (fun _ _ => rfl) | exact Or.inl (fun _ hi => absurd hi (Nat.not_lt_zero _)) | ((first | refine And.intro rfl ?_ | refine And.intro (Or.inl (fun _ _ => rfl)) ?_ | refine And.intro (fun _ => rfl) ?_ | refine And.intro (fun _ _ => rfl) ?_ | (refine And.intro ?_ ?_; rotate_left)); conv => whnf))
              all_goals (simp only [cn_snoc]; simp)
            · rintro ⟨k, t⟩ ⟨hk, ht⟩
              have hk : k ≤ L.length := hk
              have ht : t = true ↔ ∃ j, j < k ∧ L.getD j default = ⟨(a.getD i default).id, 1⟩ := ht
              conv => whnf
              repeat' (first | (contradiction) | refine WA_seq ?_ | refine WA_block ?_ | ((first | refine WA_region ttok ?_ | refine WA_draw ttok mixed ?_ | refine WA_cond ?_ | refine WA_skip ?_ | refine WA_exit ?_ | refine WA_ret ?_); conv => whnf) | (refine And.intro (fun h => ?_) (fun h => ?_) <;> (try simp only [brsA] at h) <;> conv => whnf) | (refine WR_fit ?_ ?_; (focus (first | exact wr_i64 (by omega) | exact wr_u64 (by omega) | exact wr_u8 (by omega) | exact wr_i32 (by omega) | exact wr_u32 (by omega))); conv => whnf) | ((first | refine WR_wrap ?_ | (refine And.intro (a := indepB _ _ = true) ?_ ?_; (focus kernel_rfl)) | refine And.intro rfl ?_ | (refine And.intro ?_ ?_; (focus (first | omega | decide | (dsimp only; omega) | (simp at *; omega))))); conv => whnf))
              · have h0 : t = false := by assumption
                refine ⟨(k + 1, decide (L.getD k default = ⟨(a.getD i default).id, 1⟩)), ⟨by show k + 1 ≤ L.length; omega, ?_⟩, (by show L.length - (k + 1) < L.length - k; omega), ?_⟩
                · rw [decide_eq_true_iff]
                  exact snocB (by rw [← ht, h0]; exact Bool.noConfusion)
                · conv => whnf
                  repeat (first | exact rfl | exact trivial | exact Or.inl (fun _ _ => rfl) | exact (fun _ => rfl) | exact (fun _ _ => rfl) | exact Or.inl (fun _ hi => absurd hi (Nat.not_lt_zero _)) | ((first | refine And.intro rfl ?_ | refine And.intro (Or.inl (fun _ _ => rfl)) ?_ | refine And.intro (fun _ => rfl) ?_ | refine And.intro (fun _ _ => rfl) ?_ | (refine And.intro ?_ ?_; rotate_left)); conv => whnf))
                  all_goals exact ch_eq _ _ _
              · have h0 : t = true := by assumption
                refine ⟨(k + 1, true), ⟨by show k + 1 ≤ L.length; omega, ?_⟩, (by show L.length - (k + 1) < L.length - k; omega), ?_⟩
                · refine ⟨fun _ => ?_, fun _ => rfl⟩
                  obtain ⟨j, j1, j2⟩ := ht.1 h0
                  exact ⟨j, by show j < k + 1; omega, j2⟩
                · conv => whnf
                  repeat (first | exact rfl | exact trivial | exact Or.inl (fun _ _ => rfl) | exact (fun _ => rfl) | exact (fun _ _ => rfl) | exact Or.inl (fun _ hi => absurd hi (Nat.not_lt_zero _)) | ((first | refine And.intro rfl ?_ | refine And.intro (Or.inl (fun _ _ => rfl)) ?_ | refine And.intro (fun _ => rfl) ?_ | refine And.intro (fun _ _ => rfl) ?_ | (refine And.intro ?_ ?_; rotate_left)); conv => whnf))
              · have h0 : t = false := by assumption
                exfalso
                obtain ⟨j, j1, j2⟩ := List.getElem_of_mem hin
                have : t = true := ht.2 ⟨j, by omega, by simp [List.getD_eq_getElem?_getD, j1, j2]⟩
                rw [h0] at this
                exact Bool.noConfusion this
              · refine ⟨(i + 1, p ++ [⟨(a.getD i default).id, 1⟩]), ⟨by show i + 1 ≤ a.length + b.length; omega, hsi⟩, (by show a.length + b.length - (i + 1) < a.length + b.length - i; omega), ?_⟩
                conv => whnf
                repeat (first | exact rfl | exact trivial | exact Or.inl (fun _ _ => rfl) | exact (fun _ => rfl) | exact (fun _ _ => rfl) | exact Or.inl (fun _ hi => absurd hi (Nat.not_lt_zero _)) | ((first | refine And.intro rfl ?_ | refine And.intro (Or.inl (fun _ _ => rfl)) ?_ | refine And.intro (fun _ => rfl) ?_ | refine And.intro (fun _ _ => rfl) ?_ | (refine And.intro ?_ ?_; rotate_left)); conv => whnf))
                all_goals (simp only [List.length_append, List.length_singleton]; rfl)
          · subst q
            repeat' (first | refine WA_seq ?_ | refine WA_block ?_ | ((first | refine WA_region ttok ?_ | refine WA_draw ttok mixed ?_ | refine WA_cond ?_ | refine WA_skip ?_ | refine WA_exit ?_ | refine WA_ret ?_); conv => whnf) | (refine And.intro (fun h => ?_) (fun h => ?_) <;> (try simp only [brsA] at h) <;> conv => whnf) | (refine WR_fit ?_ ?_; (focus (first | exact wr_i64 (by omega) | exact wr_u64 (by omega) | exact wr_u8 (by omega) | exact wr_i32 (by omega) | exact wr_u32 (by omega))); conv => whnf) | ((first | refine WR_wrap ?_ | (refine And.intro (a := indepB _ _ = true) ?_ ?_; (focus kernel_rfl)) | refine And.intro rfl ?_ | (refine And.intro ?_ ?_; (focus (first | omega | decide | (dsimp only; omega) | (simp at *; omega))))); conv => whnf))
            refine WA_loopI (fun y : Nat × Bool => y.1 ≤ L.length ∧ (y.2 = true ↔ ∃ j, j < y.1 ∧ L.getD j default = ⟨(a.getD i default).id, 2⟩)) (fun y => match y with | (k, t) => [(13, .int .i64 (k : Int)), (12, .sb t)]) (fun _ => [.box 30 [.int .i64 (cn (p ++ [⟨(a.getD i default).id, 2⟩]) 1 : Nat), .int .i64 (cn (p ++ [⟨(a.getD i default).id, 2⟩]) 2 : Nat), .int .i64 (cn (p ++ [⟨(a.getD i default).id, 2⟩]) 3 : Nat)]]) (fun y => L.length - y.1) (0, false) ⟨by simp, by simp⟩ ?_ ?_
            · conv => whnf
              repeat (first | exact rfl | exact trivial | exact Or.inl (fun _ _ => rfl) | exact (fun _ => rfl) | exact (fun _ _ => rfl) | exact Or.inl (fun _ hi => absurd hi (Nat.not_lt_zero _)) | ((first | refine And.intro rfl ?_ | refine And.intro (Or.inl (fun _ _ => rfl)) ?_ | refine And.intro (fun _ => rfl) ?_ | refine And.intro (fun _ _ => rfl) ?_ | (refine And.intro ?_ ?_; rotate_left)); conv => whnf))
              all_goals (simp only [cn_snoc]; simp)
            · rintro ⟨k, t⟩ ⟨hk, ht⟩
              have hk : k ≤ L.length := hk
              have ht : t = true ↔ ∃ j, j < k ∧ L.getD j default = ⟨(a.getD i default).id, 2⟩ := ht
              conv => whnf
              repeat' (first | (contradiction) | refine WA_seq ?_ | refine WA_block ?_ | ((first | refine WA_region ttok ?_ | refine WA_draw ttok mixed ?_ | refine WA_cond ?_ | refine WA_skip ?_ | refine WA_exit ?_ | refine WA_ret ?_); conv => whnf) | (refine And.intro (fun h => ?_) (fun h => ?_) <;> (try simp only [brsA] at h) <;> conv => whnf) | (refine WR_fit ?_ ?_; (focus (first | exact wr_i64 (by omega) | exact wr_u64 (by omega) | exact wr_u8 (by omega) | exact wr_i32 (by omega) | exact wr_u32 (by omega))); conv => whnf) | ((first | refine WR_wrap ?_ | (refine And.intro (a := indepB _ _ = true) ?_ ?_; (focus kernel_rfl)) | refine And.intro rfl ?_ | (refine And.intro ?_ ?_; (focus (first | omega | decide | (dsimp only; omega) | (simp at *; omega))))); conv => whnf))
              · have h0 : t = false := by assumption
                refine ⟨(k + 1, decide (L.getD k default = ⟨(a.getD i default).id, 2⟩)), ⟨by show k + 1 ≤ L.length; omega, ?_⟩, (by show L.length - (k + 1) < L.length - k; omega), ?_⟩
                · rw [decide_eq_true_iff]
                  exact snocB (by rw [← ht, h0]; exact Bool.noConfusion)
                · conv => whnf
                  repeat (first | exact rfl | exact trivial | exact Or.inl (fun _ _ => rfl) | exact (fun _ => rfl) | exact (fun _ _ => rfl) | exact Or.inl (fun _ hi => absurd hi (Nat.not_lt_zero _)) | ((first | refine And.intro rfl ?_ | refine And.intro (Or.inl (fun _ _ => rfl)) ?_ | refine And.intro (fun _ => rfl) ?_ | refine And.intro (fun _ _ => rfl) ?_ | (refine And.intro ?_ ?_; rotate_left)); conv => whnf))
                  all_goals exact ch_eq _ _ _
              · have h0 : t = true := by assumption
                refine ⟨(k + 1, true), ⟨by show k + 1 ≤ L.length; omega, ?_⟩, (by show L.length - (k + 1) < L.length - k; omega), ?_⟩
                · refine ⟨fun _ => ?_, fun _ => rfl⟩
                  obtain ⟨j, j1, j2⟩ := ht.1 h0
                  exact ⟨j, by show j < k + 1; omega, j2⟩
                · conv => whnf
                  repeat (first | exact rfl | exact trivial | exact Or.inl (fun _ _ => rfl) | exact (fun _ => rfl) | exact (fun _ _ => rfl) | exact Or.inl (fun _ hi => absurd hi (Nat.not_lt_zero _)) | ((first | refine And.intro rfl ?_ | refine And.intro (Or.inl (fun _ _ => rfl)) ?_ | refine And.intro (fun _ => rfl) ?_ | refine And.intro (fun _ _ => rfl) ?_ | (refine And.intro ?_ ?_; rotate_left)); conv => whnf))
              · have h0 : t = false := by assumption
                exfalso
                obtain ⟨j, j1, j2⟩ := List.getElem_of_mem hin
                have : t = true := ht.2 ⟨j, by omega, by simp [List.getD_eq_getElem?_getD, j1, j2]⟩
                rw [h0] at this
                exact Bool.noConfusion this
              · refine ⟨(i + 1, p ++ [⟨(a.getD i default).id, 2⟩]), ⟨by show i + 1 ≤ a.length + b.length; omega, hsi⟩, (by show a.length + b.length - (i + 1) < a.length + b.length - i; omega), ?_⟩
                conv => whnf
                repeat (first | exact rfl | exact trivial | exact Or.inl (fun _ _ => rfl) | exact (fun _ => rfl) | exact (fun _ _ => rfl) | exact Or.inl (fun _ hi => absurd hi (Nat.not_lt_zero _)) | ((first | refine And.intro rfl ?_ | refine And.intro (Or.inl (fun _ _ => rfl)) ?_ | refine And.intro (fun _ => rfl) ?_ | refine And.intro (fun _ _ => rfl) ?_ | (refine And.intro ?_ ?_; rotate_left)); conv => whnf))
                all_goals (simp only [List.length_append, List.length_singleton]; rfl)
          · subst q
            repeat' (first | refine WA_seq ?_ | refine WA_block ?_ | ((first | refine WA_region ttok ?_ | refine WA_draw ttok mixed ?_ | refine WA_cond ?_ | refine WA_skip ?_ | refine WA_exit ?_ | refine WA_ret ?_); conv => whnf) | (refine And.intro (fun h => ?_) (fun h => ?_) <;> (try simp only [brsA] at h) <;> conv => whnf) | (refine WR_fit ?_ ?_; (focus (first | exact wr_i64 (by omega) | exact wr_u64 (by omega) | exact wr_u8 (by omega) | exact wr_i32 (by omega) | exact wr_u32 (by omega))); conv => whnf) | ((first | refine WR_wrap ?_ | (refine And.intro (a := indepB _ _ = true) ?_ ?_; (focus kernel_rfl)) | refine And.intro rfl ?_ | (refine And.intro ?_ ?_; (focus (first | omega | decide | (dsimp only; omega) | (simp at *; omega))))); conv => whnf))
            refine WA_loopI (fun y : Nat × Bool => y.1 ≤ L.length ∧ (y.2 = true ↔ ∃ j, j < y.1 ∧ L.getD j default = ⟨(a.getD i default).id, 3⟩)) (fun y => match y with | (k, t) => [(13, .int .i64 (k : Int)), (12, .sb t)]) (fun _ => [.box 30 [.int .i64 (cn (p ++ [⟨(a.getD i default).id, 3⟩]) 1 : Nat), .int .i64 (cn (p ++ [⟨(a.getD i default).id, 3⟩]) 2 : Nat), .int .i64 (cn (p ++ [⟨(a.getD i default).id, 3⟩]) 3 : Nat)]]) (fun y => L.length - y.1) (0, false) ⟨by simp, by simp⟩ ?_ ?_
            · conv => whnf
              repeat (first | exact rfl | exact trivial | exact Or.inl (fun _ _ => rfl) | exact (fun _ => rfl) | exact (fun _ _ => rfl) | exact Or.inl (fun _ hi => absurd hi (Nat.not_lt_zero _)) | ((first | refine And.intro rfl ?_ | refine And.intro (Or.inl (fun _ _ => rfl)) ?_ | refine And.intro (fun _ => rfl) ?_ | refine And.intro (fun _ _ => rfl) ?_ | (refine And.intro ?_ ?_; rotate_left)); conv => whnf))
              all_goals (simp only [cn_snoc]; simp)
            · rintro ⟨k, t⟩ ⟨hk, ht⟩
              have hk : k ≤ L.length := hk
              have ht : t = true ↔ ∃ j, j < k ∧ L.getD j default = ⟨(a.getD i default).id, 3⟩ := ht
              conv => whnf
              repeat' (first | (contradiction) | refine WA_seq ?_ | refine WA_block ?_ | ((first | refine WA_region ttok ?_ | refine WA_draw ttok mixed ?_ | refine WA_cond ?_ | refine WA_skip ?_ | refine WA_exit ?_ | refine WA_ret ?_); conv => whnf) | (refine And.intro (fun h => ?_) (fun h => ?_) <;> (try simp only [brsA] at h) <;> conv => whnf) | (refine WR_fit ?_ ?_; (focus (first | exact wr_i64 (by omega) | exact wr_u64 (by omega) | exact wr_u8 (by omega) | exact wr_i32 (by omega) | exact wr_u32 (by omega))); conv => whnf) | ((first | refine WR_wrap ?_ | (refine And.intro (a := indepB _ _ = true) ?_ ?_; (focus kernel_rfl)) | refine And.intro rfl ?_ | (refine And.intro ?_ ?_; (focus (first | omega | decide | (dsimp only; omega) | (simp at *; omega))))); conv => whnf))
              · have h0 : t = false := by assumption
                refine ⟨(k + 1, decide (L.getD k default = ⟨(a.getD i default).id, 3⟩)), ⟨by show k + 1 ≤ L.length; omega, ?_⟩, (by show L.length - (k + 1) < L.length - k; omega), ?_⟩
                · rw [decide_eq_true_iff]
                  exact snocB (by rw [← ht, h0]; exact Bool.noConfusion)
                · conv => whnf
                  repeat (first | exact rfl | exact trivial | exact Or.inl (fun _ _ => rfl) | exact (fun _ => rfl) | exact (fun _ _ => rfl) | exact Or.inl (fun _ hi => absurd hi (Nat.not_lt_zero _)) | ((first | refine And.intro rfl ?_ | refine And.intro (Or.inl (fun _ _ => rfl)) ?_ | refine And.intro (fun _ => rfl) ?_ | refine And.intro (fun _ _ => rfl) ?_ | (refine And.intro ?_ ?_; rotate_left)); conv => whnf))
                  all_goals exact ch_eq _ _ _
              · have h0 : t = true := by assumption
                refine ⟨(k + 1, true), ⟨by show k + 1 ≤ L.length; omega, ?_⟩, (by show L.length - (k + 1) < L.length - k; omega), ?_⟩
                · refine ⟨fun _ => ?_, fun _ => rfl⟩
                  obtain ⟨j, j1, j2⟩ := ht.1 h0
                  exact ⟨j, by show j < k + 1; omega, j2⟩
                · conv => whnf
                  repeat (first | exact rfl | exact trivial | exact Or.inl (fun _ _ => rfl) | exact (fun _ => rfl) | exact (fun _ _ => rfl) | exact Or.inl (fun _ hi => absurd hi (Nat.not_lt_zero _)) | ((first | refine And.intro rfl ?_ | refine And.intro (Or.inl (fun _ _ => rfl)) ?_ | refine And.intro (fun _ => rfl) ?_ | refine And.intro (fun _ _ => rfl) ?_ | (refine And.intro ?_ ?_; rotate_left)); conv => whnf))
              · have h0 : t = false := by assumption
                exfalso
                obtain ⟨j, j1, j2⟩ := List.getElem_of_mem hin
                have : t = true := ht.2 ⟨j, by omega, by simp [List.getD_eq_getElem?_getD, j1, j2]⟩
                rw [h0] at this
                exact Bool.noConfusion this
              · refine ⟨(i + 1, p ++ [⟨(a.getD i default).id, 3⟩]), ⟨by show i + 1 ≤ a.length + b.length; omega, hsi⟩, (by show a.length + b.length - (i + 1) < a.length + b.length - i; omega), ?_⟩
                conv => whnf
                repeat (first | exact rfl | exact trivial | exact Or.inl (fun _ _ => rfl) | exact (fun _ => rfl) | exact (fun _ _ => rfl) | exact Or.inl (fun _ hi => absurd hi (Nat.not_lt_zero _)) | ((first | refine And.intro rfl ?_ | refine And.intro (Or.inl (fun _ _ => rfl)) ?_ | refine And.intro (fun _ => rfl) ?_ | refine And.intro (fun _ _ => rfl) ?_ | (refine And.intro ?_ ?_; rotate_left)); conv => whnf))
                all_goals (simp only [List.length_append, List.length_singleton]; rfl)
        · refine ⟨(i + 1, p), ⟨by show i + 1 ≤ a.length + b.length; omega, by rw [hsi, k1 (by omega), List.append_nil]⟩, (by show a.length + b.length - (i + 1) < a.length + b.length - i; omega), ?_⟩
          conv => whnf
          repeat (first | exact rfl | exact trivial | exact Or.inl (fun _ _ => rfl) | exact (fun _ => rfl) | exact (fun _ _ => rfl) | exact Or.inl (fun _ hi => absurd hi (Nat.not_lt_zero _)) | ((first | refine And.intro rfl ?_ | refine And.intro (Or.inl (fun _ _ => rfl)) ?_ | refine And.intro (fun _ => rfl) ?_ | refine And.intro (fun _ _ => rfl) ?_ | (refine And.intro ?_ ?_; rotate_left)); conv => whnf))
      · have ei : ((i : Int) - (a.length : Int)).toNat = i - a.length := by omega
        have hx : idI a b i = (b.getD ((i : Int) - (a.length : Int)).toNat default).id := by unfold idI; rw [if_neg hia, ei]
        rw [hx] at k1 k2
        have h9 := how_c (G := G) a b (b.getD ((i : Int) - (a.length : Int)).toNat default).id ha (by omega)
        have h10 := fnd_c (G := G) a (b.getD ((i : Int) - (a.length : Int)).toNat default).id (by omega)
        generalize howR a b (b.getD ((i : Int) - (a.length : Int)).toNat default).id = hh at *
        generalize fnd a (b.getD ((i : Int) - (a.length : Int)).toNat default).id = ff at *
        generalize chI a b i = C at *
        conv => whnf
        repeat' (first | (contradiction) | refine WA_seq ?_ | refine WA_block ?_ | ((first | refine WA_region ttok ?_ | refine WA_draw ttok mixed ?_ | refine WA_cond ?_ | refine WA_skip ?_ | refine WA_exit ?_ | refine WA_ret ?_); conv => whnf) | (refine And.intro (fun h => ?_) (fun h => ?_) <;> (try simp only [brsA] at h) <;> conv => whnf) | (refine Or.inl ?_; (conv => whnf); refine ⟨_, h9, ?_⟩; conv => whnf) | (refine Or.inr (Or.inr (Or.inl ?_)); (conv => whnf); refine ⟨_, h9, ?_⟩; conv => whnf) | (refine Exists.intro _ (And.intro (h9) ?_); conv => whnf) | (refine Or.inl ?_; (conv => whnf); refine ⟨_, h10, ?_⟩; conv => whnf) | (refine Or.inr (Or.inr (Or.inl ?_)); (conv => whnf); refine ⟨_, h10, ?_⟩; conv => whnf) | (refine Exists.intro _ (And.intro (h10) ?_); conv => whnf) | (refine WR_fit ?_ ?_; (focus (first | exact wr_i64 (by omega) | exact wr_u64 (by omega) | exact wr_u8 (by omega) | exact wr_i32 (by omega) | exact wr_u32 (by omega))); conv => whnf) | ((first | refine WR_wrap ?_ | (refine And.intro (a := indepB _ _ = true) ?_ ?_; (focus kernel_rfl)) | refine And.intro rfl ?_ | (refine And.intro ?_ ?_; (focus (first | omega | decide | (dsimp only; omega) | (simp at *; omega))))); conv => whnf))
        all_goals first | (exfalso; omega) | skip
        · refine ⟨(i + 1, p), ⟨by show i + 1 ≤ a.length + b.length; omega, by rw [hsi, k1 (by omega), List.append_nil]⟩, (by show a.length + b.length - (i + 1) < a.length + b.length - i; omega), ?_⟩
          conv => whnf
          repeat (first | exact rfl | exact trivial | exact Or.inl (fun _ _ => rfl) | exact (fun _ => rfl) | exact (fun _ _ => rfl) | exact Or.inl (fun _ hi => absurd hi (Nat.not_lt_zero _)) | ((first | refine And.intro rfl ?_ | refine And.intro (Or.inl (fun _ _ => rfl)) ?_ | refine And.intro (fun _ => rfl) ?_ | refine And.intro (fun _ _ => rfl) ?_ | (refine And.intro ?_ ?_; rotate_left)); conv => whnf))
        · obtain ⟨kC, k3, k4⟩ := k2 (by omega)
          have hin := hmi _ (by rw [kC]; exact List.mem_singleton.2 rfl)
          rw [kC] at hsi
          clear k1 k2 kC hmi
          have q3 : hh = 1 ∨ hh = 2 ∨ hh = 3 := by omega
          rcases q3 with q | q | q
          · subst q
            repeat' (first | refine WA_seq ?_ | refine WA_block ?_ | ((first | refine WA_region ttok ?_ | refine WA_draw ttok mixed ?_ | refine WA_cond ?_ | refine WA_skip ?_ | refine WA_exit ?_ | refine WA_ret ?_); conv => whnf) | (refine And.intro (fun h => ?_) (fun h => ?_) <;> (try simp only [brsA] at h) <;> conv => whnf) | (refine WR_fit ?_ ?_; (focus (first | exact wr_i64 (by omega) | exact wr_u64 (by omega) | exact wr_u8 (by omega) | exact wr_i32 (by omega) | exact wr_u32 (by omega))); conv => whnf) | ((first | refine WR_wrap ?_ | (refine And.intro (a := indepB _ _ = true) ?_ ?_; (focus kernel_rfl)) | refine And.intro rfl ?_ | (refine And.intro ?_ ?_; (focus (first | omega | decide | (dsimp only; omega) | (simp at *; omega))))); conv => whnf))
            refine WA_loopI (fun y : Nat × Bool => y.1 ≤ L.length ∧ (y.2 = true ↔ ∃ j, j < y.1 ∧ L.getD j default = ⟨(b.getD ((i : Int) - (a.length : Int)).toNat default).id, 1⟩)) (fun y => match y with | (k, t) => [(13, .int .i64 (k : Int)), (12, .sb t)]) (fun _ => [.box 30 [.int .i64 (cn (p ++ [⟨(b.getD ((i : Int) - (a.length : Int)).toNat default).id, 1⟩]) 1 : Nat), .int .i64 (cn (p ++ [⟨(b.getD ((i : Int) - (a.length : Int)).toNat default).id, 1⟩]) 2 : Nat), .int .i64 (cn (p ++ [⟨(b.getD ((i : Int) - (a.length : Int)).toNat default).id, 1⟩]) 3 : Nat)]]) (fun y => L.length - y.1) (0, false) ⟨by simp, by simp⟩ ?_ ?_
            · conv => whnf
              repeat (first | exact rfl | exact trivial | exact Or.inl (fun _ _ => rfl) | exact (fun _ => rfl) | exact (fun _ _ => rfl) | exact Or.inl (fun _ hi => absurd hi (Nat.not_lt_zero _)) | ((first | refine And.intro rfl ?_ | refine And.intro (Or.inl (fun _ _ => rfl)) ?_ | refine And.intro (fun _ => rfl) ?_ | refine And.intro (fun _ _ => rfl) ?_ | (refine And.intro ?_ ?_; rotate_left)); conv => whnf))
              all_goals (simp only [cn_snoc]; simp)
            · rintro ⟨k, t⟩ ⟨hk, ht⟩
              have hk : k ≤ L.length := hk
              have ht : t = true ↔ ∃ j, j < k ∧ L.getD j default = ⟨(b.getD ((i : Int) - (a.length : Int)).toNat default).id, 1⟩ := ht
              conv => whnf
              repeat' (first | (contradiction) | refine WA_seq ?_ | refine WA_block ?_ | ((first | refine WA_region ttok ?_ | refine WA_draw ttok mixed ?_ | refine WA_cond ?_ | refine WA_skip ?_ | refine WA_exit ?_ | refine WA_ret ?_); conv => whnf) | (refine And.intro (fun h => ?_) (fun h => ?_) <;> (try simp only [brsA] at h) <;> conv => whnf) | (refine WR_fit ?_ ?_; (focus (first | exact wr_i64 (by omega) | exact wr_u64 (by omega) | exact wr_u8 (by omega) | exact wr_i32 (by omega) | exact wr_u32 (by omega))); conv => whnf) | ((first | refine WR_wrap ?_ | (refine And.intro (a := indepB _ _ = true) ?_ ?_; (focus kernel_rfl)) | refine And.intro rfl ?_ | (refine And.intro ?_ ?_; (focus (first | omega | decide | (dsimp only; omega) | (simp at *; omega))))); conv => whnf))
              · have h0 : t = false := by assumption
                refine ⟨(k + 1, decide (L.getD k default = ⟨(b.getD ((i : Int) - (a.length : Int)).toNat default).id, 1⟩)), ⟨by show k + 1 ≤ L.length; omega, ?_⟩, (by show L.length - (k + 1) < L.length - k; omega), ?_⟩
                · rw [decide_eq_true_iff]
                  exact snocB (by rw [← ht, h0]; exact Bool.noConfusion)
                · conv => whnf
                  repeat (first | exact rfl | exact trivial | exact Or.inl (fun _ _ => rfl) | exact (fun _ => rfl) | exact (fun _ _ => rfl) | exact Or.inl (fun _ hi => absurd hi (Nat.not_lt_zero _)) | ((first | refine And.intro rfl ?_ | refine And.intro (Or.inl (fun _ _ => rfl)) ?_ | refine And.intro (fun _ => rfl) ?_ | refine And.intro (fun _ _ => rfl) ?_ | (refine And.intro ?_ ?_; rotate_left)); conv => whnf))
                  all_goals exact ch_eq _ _ _
              · have h0 : t = true := by assumption
                refine ⟨(k + 1, true), ⟨by show k + 1 ≤ L.length; omega, ?_⟩, (by show L.length - (k + 1) < L.length - k; omega), ?_⟩
                · refine ⟨fun _ => ?_, fun _ => rfl⟩
                  obtain ⟨j, j1, j2⟩ := ht.1 h0
                  exact ⟨j, by show j < k + 1; omega, j2⟩
                · conv => whnf
                  repeat (first | exact rfl | exact trivial | exact Or.inl (fun _ _ => rfl) | exact (fun _ => rfl) | exact (fun _ _ => rfl) | exact Or.inl (fun _ hi => absurd hi (Nat.not_lt_zero _)) | ((first | refine And.intro rfl ?_ | refine And.intro (Or.inl (fun _ _ => rfl)) ?_ | refine And.intro (fun _ => rfl) ?_ | refine And.intro (fun _ _ => rfl) ?_ | (refine And.intro ?_ ?_; rotate_left)); conv => whnf))
              · have h0 : t = false := by assumption
                exfalso
                obtain ⟨j, j1, j2⟩ := List.getElem_of_mem hin
                have : t = true := ht.2 ⟨j, by omega, by simp [List.getD_eq_getElem?_getD, j1, j2]⟩
                rw [h0] at this
                exact Bool.noConfusion this
              · refine ⟨(i + 1, p ++ [⟨(b.getD ((i : Int) - (a.length : Int)).toNat default).id, 1⟩]), ⟨by show i + 1 ≤ a.length + b.length; omega, hsi⟩, (by show a.length + b.length - (i + 1) < a.length + b.length - i; omega), ?_⟩
                conv => whnf
                repeat (first | exact rfl | exact trivial | exact Or.inl (fun _ _ => rfl) | exact (fun _ => rfl) | exact (fun _ _ => rfl) | exact Or.inl (fun _ hi => absurd hi (Nat.not_lt_zero _)) | ((first | refine And.intro rfl ?_ | refine And.intro (Or.inl (fun _ _ => rfl)) ?_ | refine And.intro (fun _ => rfl) ?_ | refine And.intro (fun _ _ => rfl) ?_ | (refine And.intro ?_ ?_; rotate_left)); conv => whnf))
                all_goals (simp only [List.length_append, List.length_singleton]; rfl)
          · subst q
            repeat' (first | refine WA_seq ?_ | refine WA_block ?_ | ((first | refine WA_region ttok ?_ | refine WA_draw ttok mixed ?_ | refine WA_cond ?_ | refine WA_skip ?_ | refine WA_exit ?_ | refine WA_ret ?_); conv => whnf) | (refine And.intro (fun h => ?_) (fun h => ?_) <;> (try simp only [brsA] at h) <;> conv => whnf) | (refine WR_fit ?_ ?_; (focus (first | exact wr_i64 (by omega) | exact wr_u64 (by omega) | exact wr_u8 (by omega) | exact wr_i32 (by omega) | exact wr_u32 (by omega))); conv => whnf) | ((first | refine WR_wrap ?_ | (refine And.intro (a := indepB _ _ = true) ?_ ?_; (focus kernel_rfl)) | refine And.intro rfl ?_ | (refine And.intro ?_ ?_; (focus (first | omega | decide | (dsimp only; omega) | (simp at *; omega))))); conv => whnf))
            refine WA_loopI (fun y : Nat × Bool => y.1 ≤ L.length ∧ (y.2 = true ↔ ∃ j, j < y.1 ∧ L.getD j default = ⟨(b.getD ((i : Int) - (a.length : Int)).toNat default).id, 2⟩)) (fun y => match y with | (k, t) => [(13, .int .i64 (k : Int)), (12, .sb t)]) (fun _ => [.box 30 [.int .i64 (cn (p ++ [⟨(b.getD ((i : Int) - (a.length : Int)).toNat default).id, 2⟩]) 1 : Nat), .int .i64 (cn (p ++ [⟨(b.getD ((i : Int) - (a.length : Int)).toNat default).id, 2⟩]) 2 : Nat), .int .i64 (cn (p ++ [⟨(b.getD ((i : Int) - (a.length : Int)).toNat default).id, 2⟩]) 3 : Nat)]]) (fun y => L.length - y.1) (0, false) ⟨by simp, by simp⟩ ?_ ?_
            · conv => whnf
              repeat (first | exact rfl | exact trivial | exact Or.inl (fun _ _ => rfl) | exact (fun _ => rfl) | exact (fun _ _ => rfl) | exact Or.inl (fun _ hi => absurd hi (Nat.not_lt_zero _)) | ((first | refine And.intro rfl ?_ | refine And.intro (Or.inl (fun _ _ => rfl)) ?_ | refine And.intro (fun _ => rfl) ?_ | refine And.intro (fun _ _ => rfl) ?_ | (refine And.intro ?_ ?_; rotate_left)); conv => whnf))
              all_goals (simp only [cn_snoc]; simp)
            · rintro ⟨k, t⟩ ⟨hk, ht⟩
              have hk : k ≤ L.length := hk
              have ht : t = true ↔ ∃ j, j < k ∧ L.getD j default = ⟨(b.getD ((i : Int) - (a.length : Int)).toNat default).id, 2⟩ := ht
              conv => whnf
              repeat' (first | (contradiction) | refine WA_seq ?_ | refine WA_block ?_ | ((first | refine WA_region ttok ?_ | refine WA_draw ttok mixed ?_ | refine WA_cond ?_ | refine WA_skip ?_ | refine WA_exit ?_ | refine WA_ret ?_); conv => whnf) | (refine And.intro (fun h => ?_) (fun h => ?_) <;> (try simp only [brsA] at h) <;> conv => whnf) | (refine WR_fit ?_ ?_; (focus (first | exact wr_i64 (by omega) | exact wr_u64 (by omega) | exact wr_u8 (by omega) | exact wr_i32 (by omega) | exact wr_u32 (by omega))); conv => whnf) | ((first | refine WR_wrap ?_ | (refine And.intro (a := indepB _ _ = true) ?_ ?_; (focus kernel_rfl)) | refine And.intro rfl ?_ | (refine And.intro ?_ ?_; (focus (first | omega | decide | (dsimp only; omega) | (simp at *; omega))))); conv => whnf))
              · have h0 : t = false := by assumption
                refine ⟨(k + 1, decide (L.getD k default = ⟨(b.getD ((i : Int) - (a.length : Int)).toNat default).id, 2⟩)), ⟨by show k + 1 ≤ L.length; omega, ?_⟩, (by show L.length - (k + 1) < L.length - k; omega), ?_⟩
                · rw [decide_eq_true_iff]
                  exact snocB (by rw [← ht, h0]; exact Bool.noConfusion)
                · conv => whnf
                  repeat (first | exact rfl | exact trivial | exact Or.inl (fun _ _ => rfl) | exact (fun _ => rfl) | exact (fun _ _ => rfl) | exact Or.inl (fun _ hi => absurd hi (Nat.not_lt_zero _)) | ((first | refine And.intro rfl ?_ | refine And.intro (Or.inl (fun _ _ => rfl)) ?_ | refine And.intro (fun _ => rfl) ?_ | refine And.intro (fun _ _ => rfl) ?_ | (refine And.intro ?_ ?_; rotate_left)); conv => whnf))
                  all_goals exact ch_eq _ _ _
              · have h0 : t = true := by assumption
                refine ⟨(k + 1, true), ⟨by show k + 1 ≤ L.length; omega, ?_⟩, (by show L.length - (k + 1) < L.length - k; omega), ?_⟩
                · refine ⟨fun _ => ?_, fun _ => rfl⟩
                  obtain ⟨j, j1, j2⟩ := ht.1 h0
                  exact ⟨j, by show j < k + 1; omega, j2⟩
                · conv => whnf
                  repeat (first | exact rfl | exact trivial | exact Or.inl (fun _ _ => rfl) | exact (fun _ => rfl) | exact (fun _ _ => rfl) | exact Or.inl (fun _ hi => absurd hi (Nat.not_lt_zero _)) | ((first | refine And.intro rfl ?_ | refine And.intro (Or.inl (fun _ _ => rfl)) ?_ | refine And.intro (fun _ => rfl) ?_ | refine And.intro (fun _ _ => rfl) ?_ | (refine And.intro ?_ ?_; rotate_left)); conv => whnf))
              · have h0 : t = false := by assumption
                exfalso
                obtain ⟨j, j1, j2⟩ := List.getElem_of_mem hin
                have : t = true := ht.2 ⟨j, by omega, by simp [List.getD_eq_getElem?_getD, j1, j2]⟩
                rw [h0] at this
                exact Bool.noConfusion this
              · refine ⟨(i + 1, p ++ [⟨(b.getD ((i : Int) - (a.length : Int)).toNat default).id, 2⟩]), ⟨by show i + 1 ≤ a.length + b.length; omega, hsi⟩, (by show a.length + b.length - (i + 1) < a.length + b.length - i; omega), ?_⟩
                conv => whnf
                repeat (first | exact rfl | exact trivial | exact Or.inl (fun _ _ => rfl) | exact (fun _ => rfl) | exact (fun _ _ => rfl) | exact Or.inl (fun _ hi => absurd hi (Nat.not_lt_zero _)) | ((first | refine And.intro rfl ?_ | refine And.intro (Or.inl (fun _ _ => rfl)) ?_ | refine And.intro (fun _ => rfl) ?_ | refine And.intro (fun _ _ => rfl) ?_ | (refine And.intro ?_ ?_; rotate_left)); conv => whnf))
                all_goals (simp only [List.length_append, List.length_singleton]; rfl)
          · subst q
            repeat' (first | refine WA_seq ?_ | refine WA_block ?_ | ((first | refine WA_region ttok ?_ | refine WA_draw ttok mixed ?_ | refine WA_cond ?_ | refine WA_skip ?_ | refine WA_exit ?_ | refine WA_ret ?_); conv => whnf) | (refine And.intro (fun h => ?_) (fun h => ?_) <;> (try simp only [brsA] at h) <;> conv => whnf) | (refine WR_fit ?_ ?_; (focus (first | exact wr_i64 (by omega) | exact wr_u64 (by omega) | exact wr_u8 (by omega) | exact wr_i32 (by omega) | exact wr_u32 (by omega))); conv => whnf) | ((first | refine WR_wrap ?_ | (refine And.intro (a := indepB _ _ = true) ?_ ?_; (focus kernel_rfl)) | refine And.intro rfl ?_ | (refine And.intro ?_ ?_; (focus (first | omega | decide | (dsimp only; omega) | (simp at *; omega))))); conv => whnf))
            refine WA_loopI (fun y : Nat × Bool => y.1 ≤ L.length ∧ (y.2 = true ↔ ∃ j, j < y.1 ∧ L.getD j default = ⟨(b.getD ((i : Int) - (a.length : Int)).toNat default).id, 3⟩)) (fun y => match y with | (k, t) => [(13, .int .i64 (k : Int)), (12, .sb t)]) (fun _ => [.box 30 [.int .i64 (cn (p ++ [⟨(b.getD ((i : Int) - (a.length : Int)).toNat default).id, 3⟩]) 1 : Nat), .int .i64 (cn (p ++ [⟨(b.getD ((i : Int) - (a.length : Int)).toNat default).id, 3⟩]) 2 : Nat), .int .i64 (cn (p ++ [⟨(b.getD ((i : Int) - (a.length : Int)).toNat default).id, 3⟩]) 3 : Nat)]]) (fun y => L.length - y.1) (0, false) ⟨by simp, by simp⟩ ?_ ?_
            · conv => whnf
              repeat (first | exact rfl | exact trivial | exact Or.inl (fun _ _ => rfl) | exact (fun _ => rfl) | exact (fun _ _ => rfl) | exact Or.inl (fun _ hi => absurd hi (Nat.not_lt_zero _)) | ((first | refine And.intro rfl ?_ | refine And.intro (Or.inl (fun _ _ => rfl)) ?_ | refine And.intro (fun _ => rfl) ?_ | refine And.intro (fun _ _ => rfl) ?_ | (refine And.intro ?_ ?_; rotate_left)); conv => whnf))
              all_goals (simp only [cn_snoc]; simp)
            · rintro ⟨k, t⟩ ⟨hk, ht⟩
              have hk : k ≤ L.length := hk
              have ht : t = true ↔ ∃ j, j < k ∧ L.getD j default = ⟨(b.getD ((i : Int) - (a.length : Int)).toNat default).id, 3⟩ := ht
              conv => whnf
              repeat' (first | (contradiction) | refine WA_seq ?_ | refine WA_block ?_ | ((first | refine WA_region ttok ?_ | refine WA_draw ttok mixed ?_ | refine WA_cond ?_ | refine WA_skip ?_ | refine WA_exit ?_ | refine WA_ret ?_); conv => whnf) | (refine And.intro (fun h => ?_) (fun h => ?_) <;> (try simp only [brsA] at h) <;> conv => whnf) | (refine WR_fit ?_ ?_; (focus (first | exact wr_i64 (by omega) | exact wr_u64 (by omega) | exact wr_u8 (by omega) | exact wr_i32 (by omega) | exact wr_u32 (by omega))); conv => whnf) | ((first | refine WR_wrap ?_ | (refine And.intro (a := indepB _ _ = true) ?_ ?_; (focus kernel_rfl)) | refine And.intro rfl ?_ | (refine And.intro ?_ ?_; (focus (first | omega | decide | (dsimp only; omega) | (simp at *; omega))))); conv => whnf))
              · have h0 : t = false := by assumption
                refine ⟨(k + 1, decide (L.getD k default = ⟨(b.getD ((i : Int) - (a.length : Int)).toNat default).id, 3⟩)), ⟨by show k + 1 ≤ L.length; omega, ?_⟩, (by show L.length - (k + 1) < L.length - k; omega), ?_⟩
                · rw [decide_eq_true_iff]
                  exact snocB (by rw [← ht, h0]; exact Bool.noConfusion)
                · conv => whnf
                  repeat (first | exact rfl | exact trivial | exact Or.inl (fun _ _ => rfl) | exact (fun _ => rfl) | exact (fun _ _ => rfl) | exact Or.inl (fun _ hi => absurd hi (Nat.not_lt_zero _)) | ((first | refine And.intro rfl ?_ | refine And.intro (Or.inl (fun _ _ => rfl)) ?_ | refine And.intro (fun _ => rfl) ?_ | refine And.intro (fun _ _ => rfl) ?_ | (refine And.intro ?_ ?_; rotate_left)); conv => whnf))
                  all_goals exact ch_eq _ _ _
              · have h0 : t = true := by assumption
                refine ⟨(k + 1, true), ⟨by show k + 1 ≤ L.length; omega, ?_⟩, (by show L.length - (k + 1) < L.length - k; omega), ?_⟩
                · refine ⟨fun _ => ?_, fun _ => rfl⟩
                  obtain ⟨j, j1, j2⟩ := ht.1 h0
                  exact ⟨j, by show j < k + 1; omega, j2⟩
                · conv => whnf
                  repeat (first | exact rfl | exact trivial | exact Or.inl (fun _ _ => rfl) | exact (fun _ => rfl) | exact (fun _ _ => rfl) | exact Or.inl (fun _ hi => absurd hi (Nat.not_lt_zero _)) | ((first | refine And.intro rfl ?_ | refine And.intro (Or.inl (fun _ _ => rfl)) ?_ | refine And.intro (fun _ => rfl) ?_ | refine And.intro (fun _ _ => rfl) ?_ | (refine And.intro ?_ ?_; rotate_left)); conv => whnf))
              · have h0 : t = false := by assumption
                exfalso
                obtain ⟨j, j1, j2⟩ := List.getElem_of_mem hin
                have : t = true := ht.2 ⟨j, by omega, by simp [List.getD_eq_getElem?_getD, j1, j2]⟩
                rw [h0] at this
                exact Bool.noConfusion this
              · refine ⟨(i + 1, p ++ [⟨(b.getD ((i : Int) - (a.length : Int)).toNat default).id, 3⟩]), ⟨by show i + 1 ≤ a.length + b.length; omega, hsi⟩, (by show a.length + b.length - (i + 1) < a.length + b.length - i; omega), ?_⟩
                conv => whnf
                repeat (first | exact rfl | exact trivial | exact Or.inl (fun _ _ => rfl) | exact (fun _ => rfl) | exact (fun _ _ => rfl) | exact Or.inl (fun _ hi => absurd hi (Nat.not_lt_zero _)) | ((first | refine And.intro rfl ?_ | refine And.intro (Or.inl (fun _ _ => rfl)) ?_ | refine And.intro (fun _ => rfl) ?_ | refine And.intro (fun _ _ => rfl) ?_ | (refine And.intro ?_ ?_; rotate_left)); conv => whnf))
                all_goals (simp only [List.length_append, List.length_singleton]; rfl)
        · refine ⟨(i + 1, p), ⟨by show i + 1 ≤ a.length + b.length; omega, by rw [hsi, k1 (by omega), List.append_nil]⟩, (by show a.length + b.length - (i + 1) < a.length + b.length - i; omega), ?_⟩
          conv => whnf
          repeat (first | exact rfl | exact trivial | exact Or.inl (fun _ _ => rfl) | exact (fun _ => rfl) | exact (fun _ _ => rfl) | exact Or.inl (fun _ hi => absurd hi (Nat.not_lt_zero _)) | ((first | refine And.intro rfl ?_ | refine And.intro (Or.inl (fun _ _ => rfl)) ?_ | refine And.intro (fun _ => rfl) ?_ | refine And.intro (fun _ _ => rfl) ?_ | (refine And.intro ?_ ?_; rotate_left)); conv => whnf))
    · have h : ¬ (i : Int) < a.length + b.length := of_decide_eq_false h
      have hi' : i = a.length + b.length := by omega
      subst hi'
      rw [hp] at hlen hct
      conv => whnf
      repeat' (first | refine WA_seq ?_ | refine WA_block ?_ | ((first | refine WA_region ttok ?_ | refine WA_draw ttok mixed ?_ | refine WA_cond ?_ | refine WA_skip ?_ | refine WA_exit ?_ | refine WA_ret ?_); conv => whnf) | (refine And.intro (fun h => ?_) (fun h => ?_) <;> (try simp only [brsA] at h) <;> conv => whnf) | (refine WR_fit ?_ ?_; (focus (first | exact wr_i64 (by omega) | exact wr_u64 (by omega) | exact wr_u8 (by omega) | exact wr_i32 (by omega) | exact wr_u32 (by omega))); conv => whnf) | ((first | refine WR_wrap ?_ | (refine And.intro (a := indepB _ _ = true) ?_ ?_; (focus kernel_rfl)) | refine And.intro rfl ?_ | (refine And.intro ?_ ?_; (focus (first | omega | decide | (dsimp only; omega) | (simp at *; omega))))); conv => whnf))
      refine WA_loopI (fun k : Nat => 1 ≤ k) (fun k => [(14, .int .i64 (k : Int))]) (fun _ => [.box 30 [.int .i64 (cn p 1 : Nat), .int .i64 (cn p 2 : Nat), .int .i64 (cn p 3 : Nat)]]) (fun k => L.length - k) 1 (by omega) ?_ ?_
      · conv => whnf
        repeat (first | exact rfl | exact trivial | exact Or.inl (fun _ _ => rfl) | exact (fun _ => rfl) | exact (fun _ _ => rfl) | exact Or.inl (fun _ hi => absurd hi (Nat.not_lt_zero _)) | ((first | refine And.intro rfl ?_ | refine And.intro (Or.inl (fun _ _ => rfl)) ?_ | refine And.intro (fun _ => rfl) ?_ | refine And.intro (fun _ _ => rfl) ?_ | (refine And.intro ?_ ?_; rotate_left)); conv => whnf))
      · intro k hk
        have ek : ((k : Int) - 1).toNat = k - 1 := by omega
        have hk : 1 ≤ k := hk
        conv => whnf
        repeat' (first | (contradiction) | refine WA_seq ?_ | refine WA_block ?_ | ((first | refine WA_region ttok ?_ | refine WA_draw ttok mixed ?_ | refine WA_cond ?_ | refine WA_skip ?_ | refine WA_exit ?_ | refine WA_ret ?_); conv => whnf) | (refine And.intro (fun h => ?_) (fun h => ?_) <;> (try simp only [brsA] at h) <;> conv => whnf) | (refine Or.inl ?_; (conv => whnf); refine ⟨_, hap1, ?_⟩; conv => whnf) | (refine Or.inr (Or.inr (Or.inl ?_)); (conv => whnf); refine ⟨_, hap1, ?_⟩; conv => whnf) | (refine Exists.intro _ (And.intro (hap1) ?_); conv => whnf) | (refine Or.inl ?_; (conv => whnf); refine ⟨_, hap2, ?_⟩; conv => whnf) | (refine Or.inr (Or.inr (Or.inl ?_)); (conv => whnf); refine ⟨_, hap2, ?_⟩; conv => whnf) | (refine Exists.intro _ (And.intro (hap2) ?_); conv => whnf) | (refine Or.inl ?_; (conv => whnf); refine ⟨_, hct, ?_⟩; conv => whnf) | (refine Or.inr (Or.inr (Or.inl ?_)); (conv => whnf); refine ⟨_, hct, ?_⟩; conv => whnf) | (refine Exists.intro _ (And.intro (hct) ?_); conv => whnf) | (refine Or.inl ?_; (conv => whnf); refine ⟨_, hs1, ?_⟩; conv => whnf) | (refine Or.inr (Or.inr (Or.inl ?_)); (conv => whnf); refine ⟨_, hs1, ?_⟩; conv => whnf) | (refine Exists.intro _ (And.intro (hs1) ?_); conv => whnf) | (refine Or.inl ?_; (conv => whnf); refine ⟨_, hs2, ?_⟩; conv => whnf) | (refine Or.inr (Or.inr (Or.inl ?_)); (conv => whnf); refine ⟨_, hs2, ?_⟩; conv => whnf) | (refine Exists.intro _ (And.intro (hs2) ?_); conv => whnf) | (refine Or.inl ?_; (conv => whnf); refine ⟨_, hw, ?_⟩; conv => whnf) | (refine Or.inr (Or.inr (Or.inl ?_)); (conv => whnf); refine ⟨_, hw, ?_⟩; conv => whnf) | (refine Exists.intro _ (And.intro (hw) ?_); conv => whnf) | (refine WR_fit ?_ ?_; (focus (first | exact wr_i64 (by omega) | exact wr_u64 (by omega) | exact wr_u8 (by omega) | exact wr_i32 (by omega) | exact wr_u32 (by omega))); conv => whnf) | ((first | refine WR_wrap ?_ | (refine And.intro (a := indepB _ _ = true) ?_ ?_; (focus kernel_rfl)) | refine And.intro rfl ?_ | (refine And.intro ?_ ?_; (focus (first | omega | decide | (dsimp only; omega) | (simp at *; omega))))); conv => whnf))
        all_goals (try simp only [ek] at *)
        · have h : (L.getD k default).id ≤ (L.getD (k - 1) default).id := h
          have := hris k (by omega) (by omega)
          omega
        · refine ⟨k + 1, by omega, by omega, ?_⟩
          conv => whnf
          repeat (first | exact rfl | exact trivial | exact Or.inl (fun _ _ => rfl) | exact (fun _ => rfl) | exact (fun _ _ => rfl) | exact Or.inl (fun _ hi => absurd hi (Nat.not_lt_zero _)) | ((first | refine And.intro rfl ?_ | refine And.intro (Or.inl (fun _ _ => rfl)) ?_ | refine And.intro (fun _ => rfl) ?_ | refine And.intro (fun _ _ => rfl) ?_ | (refine And.intro ?_ ?_; rotate_left)); conv => whnf))
        · simp at h
        · omega
theorem diffOf_c (hns : ¬ (default : DRT).ns) (a b : List Rd) : ACalls Try.prog G 3 [rdsA a, rdsA b] (.sb true) := by
  by_cases hL : LightR a ∧ LightR b
  · by_cases h : allR a = 0 ∧ allR b = 0
    · exact do_ok hns a b hL.1 hL.2 h.1 h.2
    · exact do_bad hns a b hL.1 hL.2 (by omega)
  · exact do_dark hns a b hL
end Go.Proofs.Ytekfaocnlejgaaa

/-
  PROVED: for every two lines the law MeetTurns returns true, and the arguments read as they did. Conditions: none but those of the given row.
-/
import Derived.Test.YtagokdeflnkplaaMeet3
import Derived.Test.YtagokdeflnkplaaAm4
set_option linter.unusedSimpArgs false
namespace Go.Proofs.Ytagokdeflnkplaa
open Go.Proofs.Ytagokdeflnkplaa.Am Go.Sort Go.Proofs
/-! ### Seen from the other line -/
def trn (m : Mt) : Mt := ⟨m.k, m.m, m.n, m.d, m.p, m.q⟩
theorem touch_comm {s t : Sg} (h : TouchP s t) : TouchP t s := by
  obtain ⟨h1, h2, h3⟩ := h
  refine ⟨h2, h1, ?_⟩
  rcases h3 with h | h | h | h | ⟨h, h'⟩
  · exact Or.inr (Or.inr (Or.inl h))
  · exact Or.inr (Or.inr (Or.inr (Or.inl h)))
  · exact Or.inl h
  · exact Or.inr (Or.inl h)
  · exact Or.inr (Or.inr (Or.inr (Or.inr ⟨h', h⟩)))
theorem rD_comm (s t : Sg) : rD t s = -rD s t := by unfold rD; grind
theorem rN_comm (s t : Sg) : rN t s = -rM s t := by unfold rN rM; grind
theorem rM_comm (s t : Sg) : rM t s = -rN s t := by unfold rN rM; grind
theorem cross_comm (s t : Sg) (h : rD s t ≠ 0) : refCross t s = trn (refCross s t) := by
  unfold refCross trn
  rw [rD_comm s t, rN_comm s t, rM_comm s t]
  by_cases hd : rD s t < 0
  · rw [if_pos hd, if_neg (by omega)]
  · rw [if_neg hd, if_pos (by omega)]
    simp
/-- The place of a meeting lies within the line. -/
def Wi (d n : Int) : Prop := (0 < d → 0 ≤ n ∧ n ≤ d) ∧ (d < 0 → d ≤ n ∧ n ≤ 0)
theorem wi_cross (ux uy vx vy wx wy : Int) (h : ux * wy - uy * wx = 0) : (ux * vy - uy * vx) * (ux * wx + uy * wy) = (wx * vy - wy * vx) * (ux * ux + uy * uy) := by grind
theorem wi_on {s t : Sg} {p : Pt} (h : OnP s p) (hn : (p.x - s.a.x) * (t.b.y - t.a.y) - (p.y - s.a.y) * (t.b.x - t.a.x) = rN s t) : Wi (rD s t) (rN s t) := by
  obtain ⟨hs, hp, hc, h0, h1⟩ := h
  have hL := len_pos hs
  have e := wi_cross (s.b.x - s.a.x) (s.b.y - s.a.y) (t.b.x - t.a.x) (t.b.y - t.a.y) (p.x - s.a.x) (p.y - s.a.y) hc
  rw [hn] at e
  have b := betw (u := rD s t) (v := rN s t) (D := dotP s.a s.b p) (L := dotP s.a s.b s.b) hL h0 h1 e
  exact ⟨fun hd => b.1 (by omega), fun hd => b.2 (by omega)⟩
theorem wi_s {s t : Sg} {p : Pt} (h : OnP s p) (hp : p = t.a ∨ p = t.b) : Wi (rD s t) (rN s t) ∧ Wi (rD s t) (rM s t) := by
  constructor
  · refine wi_on h ?_
    rcases hp with hp | hp
    · subst hp; rfl
    · subst hp; unfold rN; grind
  · obtain ⟨hs, _, hc, _, _⟩ := h
    have e1 := rm_eq s t
    have e2 := rd2_eq s t
    have : rM s t = 0 ∨ rM s t = rD s t := by
      rcases hp with hp | hp
      · subst hp; omega
      · subst hp; omega
    unfold Wi
    omega
theorem wi_neg {d n : Int} (h : Wi (-d) (-n)) : Wi d n := by unfold Wi at *; omega
theorem wi_touch {s t : Sg} (hT : TouchP s t) : Wi (rD s t) (rN s t) ∧ Wi (rD s t) (rM s t) := by
  obtain ⟨hs, ht, h⟩ := hT
  have sw : ∀ p, OnP t p → p = s.a ∨ p = s.b → Wi (rD s t) (rN s t) ∧ Wi (rD s t) (rM s t) := fun p h hp => by
    have := wi_s h hp
    rw [rD_comm s t, rN_comm s t, rM_comm s t] at this
    exact ⟨wi_neg this.2, wi_neg this.1⟩
  rcases h with h | h | h | h | ⟨h1, h2⟩
  · exact wi_s h (Or.inl rfl)
  · exact wi_s h (Or.inr rfl)
  · exact sw _ h (Or.inl rfl)
  · exact sw _ h (Or.inr rfl)
  · rw [crsF_eq (All3_line hs ht.1), crsF_eq (All3_line hs ht.2.1)] at h1
    rw [crsF_eq (All3_line ht hs.1), crsF_eq (All3_line ht hs.2.1)] at h2
    have e1 := rm_eq s t
    have e2 := rd2_eq s t
    have e3 := rd_eq s t
    have e4 := rn_eq s t
    unfold Opp at h1 h2
    unfold Wi
    omega
theorem cross_bd {s t : Sg} (hT : TouchP s t) (hd : rD s t ≠ 0) : 0 ≤ (refCross s t).n ∧ (refCross s t).n ≤ (refCross s t).d ∧ 0 ≤ (refCross s t).m ∧ (refCross s t).m ≤ (refCross s t).d ∧ (refCross s t).k = 1 := by
  have h := wi_touch hT
  unfold Wi at h
  by_cases hn : rD s t < 0
  · have e : refCross s t = ⟨1, -(rN s t), -(rM s t), -(rD s t), ⟨0, 0⟩, ⟨0, 0⟩⟩ := by unfold refCross; rw [if_pos hn]
    rw [e]
    refine ⟨?_, ?_, ?_, ?_, rfl⟩ <;> dsimp only <;> omega
  · have e : refCross s t = ⟨1, rN s t, rM s t, rD s t, ⟨0, 0⟩, ⟨0, 0⟩⟩ := by unfold refCross; rw [if_neg hn]
    rw [e]
    refine ⟨?_, ?_, ?_, ?_, rfl⟩ <;> dsimp only <;> omega
/-! ### The overlap -/
theorem along_comm {s t : Sg} (hT : TouchP s t) (h : AlongP s t) : AlongP t s := (along_iff t s (touch_comm hT)).2 (by rw [rD_comm, (along_iff s t hT).1 h]; rfl)
theorem aff {s t : Sg} (hA : AlongP s t) : ∃ a b L : Int, 0 < L ∧ a ≠ 0 ∧ ∀ p, crs s.a s.b p = 0 → L * dotP t.a t.b p = a * dotP s.a s.b p + b := by
  have hA' := hA
  obtain ⟨hs, ht, ca, cb⟩ := hA
  rw [crsF_eq (All3_line hs ht.1)] at ca
  rw [crsF_eq (All3_line hs ht.2.1)] at cb
  obtain ⟨hL, hne, _⟩ := one_dim hA'
  refine ⟨dotP s.a s.b t.b - dotP s.a s.b t.a, -((dotP s.a s.b t.b - dotP s.a s.b t.a) * dotP s.a s.b t.a), dotP s.a s.b s.b, hL, by omega, fun p hp => ?_⟩
  have uv : (s.b.x - s.a.x) * (t.b.y - t.a.y) - (s.b.y - s.a.y) * (t.b.x - t.a.x) = 0 := sub_par (show (s.b.x - s.a.x) * (t.b.y - s.a.y) - (s.b.y - s.a.y) * (t.b.x - s.a.x) = 0 from cb) ca
  have dv : dotP s.a s.b t.b - dotP s.a s.b t.a = (s.b.x - s.a.x) * (t.b.x - t.a.x) + (s.b.y - s.a.y) * (t.b.y - t.a.y) := by unfold dotP; grind
  have dw : dotP s.a s.b p - dotP s.a s.b t.a = (s.b.x - s.a.x) * (p.x - t.a.x) + (s.b.y - s.a.y) * (p.y - t.a.y) := by unfold dotP; grind
  have l2 := lagr (s.b.x - s.a.x) (s.b.y - s.a.y) (t.b.x - t.a.x) (t.b.y - t.a.y) (p.x - t.a.x) (p.y - t.a.y)
  rw [uv, ← dv, ← dw, Int.zero_mul, Int.add_zero] at l2
  have l2 : (dotP s.a s.b t.b - dotP s.a s.b t.a) * (dotP s.a s.b p - dotP s.a s.b t.a) = dotP s.a s.b s.b * dotP t.a t.b p := l2
  rw [← l2, Int.mul_sub]
  omega
theorem both_comm {s t : Sg} {p : Pt} (h : BothP s t p) : BothP t s p := ⟨h.2, h.1⟩
theorem ends_comm {s t : Sg} {p : Pt} (h : p ∈ endsL s t) : p ∈ endsL t s := by
  unfold endsL at *
  simp only [List.mem_cons, List.not_mem_nil, or_false] at *
  rcases h with h | h | h | h <;> simp [h]
/-- The least and the greatest common end. -/
structure Exts (s t : Sg) (f l : Pt) : Prop where
  fe : f ∈ endsL s t
  fb : BothP s t f
  le : l ∈ endsL s t
  lb : BothP s t l
  mm : ∀ p ∈ endsL s t, BothP s t p → dotF s.a s.b f ≤ dotF s.a s.b p ∧ dotF s.a s.b p ≤ dotF s.a s.b l
def ovM (s t : Sg) (f l : Pt) : Mt := if f ≠ l then ⟨2, 0, 0, 0, f, l⟩ else ⟨1, if f = s.b then 1 else 0, if f = t.b then 1 else 0, 1, ⟨0, 0⟩, ⟨0, 0⟩⟩
theorem exts {s t : Sg} (hT : TouchP s t) (hA : AlongP s t) : ∃ f l, Exts s t f l ∧ refOver s t = ovM s t f l := by
  obtain ⟨p0, m0, b0⟩ := touch_both hT hA
  have hF := FI_four s t
  have hsm : (flK s t 4).sm = true := by
    cases h : (flK s t 4).sm
    · exact absurd b0 (hF.1 h p0 m0)
    · rfl
  obtain ⟨f1, f2, l1, l2, hmm⟩ := hF.2 hsm
  exact ⟨(flK s t 4).f, (flK s t 4).l, ⟨f1, f2, l1, l2, hmm⟩, rfl⟩
theorem exts_uniq {s t : Sg} {f l f' l' : Pt} (h : Exts s t f l) (h' : Exts t s f' l') (hA : AlongP s t) : (f' = f ∧ l' = l) ∨ (f' = l ∧ l' = f) := by
  have hs := hA.1
  have ht := hA.2.1
  obtain ⟨a, b, L, hL, ha, haf⟩ := aff hA
  have dS : ∀ p, BothP s t p → dotF s.a s.b p = dotP s.a s.b p ∧ crs s.a s.b p = 0 := fun p hp => ⟨(on_all hp.1).2.2, (on_all hp.1).2.1⟩
  have dT : ∀ p, BothP s t p → dotF t.a t.b p = dotP t.a t.b p := fun p hp => (on_all hp.2).2.2
  have f'b := both_comm h'.fb
  have l'b := both_comm h'.lb
  have k1 := h.mm f' (ends_comm h'.fe) f'b
  have k2 := h.mm l' (ends_comm h'.le) l'b
  have k3 := h'.mm f (ends_comm h.fe) (both_comm h.fb)
  have k4 := h'.mm l (ends_comm h.le) (both_comm h.lb)
  rw [(dS _ h.fb).1, (dS _ h.lb).1, (dS _ f'b).1] at k1
  rw [(dS _ h.fb).1, (dS _ h.lb).1, (dS _ l'b).1] at k2
  rw [dT _ f'b, dT _ l'b, dT _ h.fb] at k3
  rw [dT _ f'b, dT _ l'b, dT _ h.lb] at k4
  have q1 := haf f (dS _ h.fb).2
  have q2 := haf l (dS _ h.lb).2
  have q3 := haf f' (dS _ f'b).2
  have q4 := haf l' (dS _ l'b).2
  have inj : ∀ p q, BothP s t p → BothP s t q → dotP s.a s.b p = dotP s.a s.b q → p = q := fun p q hp hq h => dot_inj hs (dS _ hp).2 (dS _ hq).2 h
  have m : ∀ x y : Int, x ≤ y → L * x ≤ L * y := fun x y h => Int.mul_le_mul_of_nonneg_left h (by omega)
  have m1 := m _ _ k3.1
  have m2 := m _ _ k3.2
  have m3 := m _ _ k4.1
  have m4 := m _ _ k4.2
  rw [q1, q3] at m1; rw [q1, q4] at m2; rw [q2, q3] at m3; rw [q2, q4] at m4
  rcases Int.lt_or_gt_of_ne ha with hn | hp
  · right
    have r : ∀ x y : Int, a * x ≤ a * y → y ≤ x := fun x y h => Int.not_lt.1 fun q => by have := Int.mul_lt_mul_of_neg_left q hn; omega
    exact ⟨inj _ _ f'b h.lb (Int.le_antisymm k1.2 (r _ _ (by omega))), inj _ _ l'b h.fb (Int.le_antisymm (r _ _ (by omega)) k2.1)⟩
  · left
    have r : ∀ x y : Int, a * x ≤ a * y → x ≤ y := fun x y h => Int.le_of_mul_le_mul_left h hp
    exact ⟨inj _ _ f'b h.fb (Int.le_antisymm (r _ _ (by omega)) k1.1), inj _ _ l'b h.lb (Int.le_antisymm k2.2 (r _ _ (by omega)))⟩
/-- The theorem of either way. -/
def TurnOk (m n : Mt) : Prop := (m.k = 2 → n.k = 2 ∧ ((n.p = m.p ∧ n.q = m.q) ∨ (n.p = m.q ∧ n.q = m.p)) ∧ m.p ≠ m.q) ∧
  (m.k ≠ 2 → trn m = n ∧ 0 ≤ m.n ∧ m.n ≤ m.d ∧ 0 ≤ m.m ∧ m.m ≤ m.d)
theorem ov_turn {s t : Sg} {f l f' l' : Pt} (h : (f' = f ∧ l' = l) ∨ (f' = l ∧ l' = f)) : TurnOk (ovM s t f l) (ovM t s f' l') := by
  unfold ovM
  by_cases hf : f = l
  · have e1 : f' = f := by
      rcases h with h | h
      · exact h.1
      · rw [h.1, hf]
    have e2 : l' = f := by
      rcases h with h | h
      · rw [h.2, hf]
      · exact h.2
    subst hf
    rw [e1, e2, if_neg (fun h => h rfl), if_neg (fun h : ¬ f = f => h rfl)]
    refine ⟨fun h => absurd h (by dsimp only; omega), fun _ => ⟨rfl, ?_⟩⟩
    dsimp only
    refine ⟨?_, ?_, ?_, ?_⟩ <;> split <;> omega
  · have e : f' ≠ l' := by
      rcases h with h | h
      · rw [h.1, h.2]; exact hf
      · rw [h.1, h.2]; exact fun e => hf e.symm
    rw [if_pos hf, if_pos e]
    exact ⟨fun _ => ⟨rfl, h, hf⟩, fun h => absurd rfl h⟩
theorem turns (s t : Sg) : TurnOk (meetM s t) (meetM t s) := by
  unfold meetM
  by_cases hT : TouchP s t
  · have hT' := touch_comm hT
    rw [if_pos hT, if_pos hT']
    by_cases hd : rD s t = 0
    · have hA := (along_iff s t hT).2 hd
      rw [if_pos hd, if_pos (by rw [rD_comm, hd]; rfl)]
      obtain ⟨f, l, h1, h2⟩ := exts hT hA
      obtain ⟨f', l', h3, h4⟩ := exts hT' (along_comm hT hA)
      rw [h2, h4]
      exact ov_turn (exts_uniq h1 h3 hA)
    · rw [if_neg hd, if_neg (by rw [rD_comm]; omega), cross_comm s t hd]
      have b := cross_bd hT hd
      exact ⟨fun h => by omega, fun _ => ⟨rfl, b.1, b.2.1, b.2.2.1, b.2.2.2.1⟩⟩
  · rw [if_neg hT, if_neg (fun h => hT (touch_comm h))]
    exact ⟨fun h => absurd h (by decide), fun _ => ⟨rfl, by decide, by decide, by decide, by decide⟩⟩
end Go.Proofs.Ytagokdeflnkplaa
set_option linter.unusedSimpArgs false
namespace Go.Proofs.Ytagokdeflnkplaa
open Go.Proofs.Ytagokdeflnkplaa.Am Go.Sort Go.Proofs
variable {G : GInv}
set_option maxRecDepth 100000 in
theorem turn_c (m : Mt) : ACalls Try.prog G 9 [.agg (mtA m)] (.agg (mtA (trn m))) := by
  refine ACalls.of_WA ttok Try.func9 rfl rfl _ rfl ?_
  conv => whnf
  repeat' (first | refine WA_seq ?_ | (refine WA_region ttok ?_; conv => whnf) | (refine WA_draw ttok mixed ?_; conv => whnf) | (refine WA_cond ?_; conv => whnf) | refine WA_block ?_ | (refine WA_skip ?_; conv => whnf) | (refine WA_exit ?_; conv => whnf) | (refine WA_ret ?_; conv => whnf) | (refine And.intro (fun h => ?_) (fun h => ?_) <;> (try simp only [brsA] at h) <;> conv => whnf) | (refine WR_fit ?_ ?_; (focus (first | exact wr_i64 (by omega) | exact wr_u64 (by omega) | exact wr_u8 (by omega) | exact wr_i32 (by omega) | exact wr_u32 (by omega))); conv => whnf) | (refine WR_wrap ?_; conv => whnf) | (refine And.intro (a := indepB _ _ = true) ?_ ?_; (focus kernel_rfl); conv => whnf) | (refine And.intro rfl ?_; conv => whnf) | (refine And.intro ?_ ?_; (focus (first | omega | decide | (dsimp only; omega) | (simp at *; omega))); conv => whnf))
  all_goals rfl
theorem turns_xy {m n : Mt} (h : TurnOk m n) :
    (m.k = 2 → n.k = 2 ∧ ((n.p.x = m.p.x ∧ n.p.y = m.p.y ∧ n.q.x = m.q.x ∧ n.q.y = m.q.y) ∨ (n.p.x = m.q.x ∧ n.p.y = m.q.y ∧ n.q.x = m.p.x ∧ n.q.y = m.p.y)) ∧ ¬ (m.p.x = m.q.x ∧ m.p.y = m.q.y)) ∧
    (m.k ≠ 2 → (n.k = m.k ∧ n.n = m.m ∧ n.m = m.n ∧ n.d = m.d ∧ n.p.x = m.p.x ∧ n.p.y = m.p.y ∧ n.q.x = m.q.x ∧ n.q.y = m.q.y) ∧ 0 ≤ m.n ∧ m.n ≤ m.d ∧ 0 ≤ m.m ∧ m.m ≤ m.d) := by
  obtain ⟨h1, h2⟩ := h
  refine ⟨fun q => ?_, fun q => ?_⟩
  · obtain ⟨a, b, c⟩ := h1 q
    refine ⟨a, ?_, fun e => c ?_⟩
    · rcases b with ⟨b1, b2⟩ | ⟨b1, b2⟩
      · rw [b1, b2]; exact Or.inl ⟨rfl, rfl, rfl, rfl⟩
      · rw [b1, b2]; exact Or.inr ⟨rfl, rfl, rfl, rfl⟩
    · obtain ⟨e1, e2⟩ := e
      obtain ⟨_, _, _, _, ⟨_, _⟩, ⟨_, _⟩⟩ := m
      simp only at e1 e2
      rw [e1, e2]
  · obtain ⟨a, b⟩ := h2 q
    subst a
    exact ⟨⟨rfl, rfl, rfl, rfl, rfl, rfl, rfl, rfl⟩, b⟩
set_option maxRecDepth 100000 in
set_option maxHeartbeats 1000000 in
theorem turns_c (s t : Sg) : ACalls Try.prog G 3 [.agg (sgA s), .agg (sgA t)] (.sb true) := by
  have h1 := of_c (G := G) s t
  have h2 := of_c (G := G) t s
  have hk := turns s t
  generalize meetM s t = m at *
  generalize meetM t s = n at *
  have h3 := turn_c (G := G) m
  have h4 := turn_c (G := G) (trn m)
  rw [show trn (trn m) = m from rfl] at h4
  have hq := mt_eq m
  refine ACalls.of_WA ttok Try.func3 rfl rfl _ rfl ?_
  conv => whnf
  repeat' (first | refine WA_seq ?_ | (refine WA_region ttok ?_; conv => whnf) | (refine WA_draw ttok mixed ?_; conv => whnf) | (refine WA_cond ?_; conv => whnf) | refine WA_block ?_ | (refine WA_skip ?_; conv => whnf) | (refine WA_exit ?_; conv => whnf) | (refine WA_ret ?_; conv => whnf) | (refine And.intro (fun h => ?_) (fun h => ?_) <;> (try simp only [brsA] at h) <;> conv => whnf) | (refine Or.inl ?_; (conv => whnf); refine Exists.intro _ (And.intro (h1) ?_); conv => whnf) | (refine Or.inr (Or.inr (Or.inl ?_)); (conv => whnf); refine Exists.intro _ (And.intro (h1) ?_); conv => whnf) | (refine Exists.intro _ (And.intro (h1) ?_); conv => whnf) | (refine Or.inl ?_; (conv => whnf); refine Exists.intro _ (And.intro (h2) ?_); conv => whnf) | (refine Or.inr (Or.inr (Or.inl ?_)); (conv => whnf); refine Exists.intro _ (And.intro (h2) ?_); conv => whnf) | (refine Exists.intro _ (And.intro (h2) ?_); conv => whnf) | (refine Or.inl ?_; (conv => whnf); refine Exists.intro _ (And.intro (h3) ?_); conv => whnf) | (refine Or.inr (Or.inr (Or.inl ?_)); (conv => whnf); refine Exists.intro _ (And.intro (h3) ?_); conv => whnf) | (refine Exists.intro _ (And.intro (h3) ?_); conv => whnf) | (refine Or.inl ?_; (conv => whnf); refine Exists.intro _ (And.intro (h4) ?_); conv => whnf) | (refine Or.inr (Or.inr (Or.inl ?_)); (conv => whnf); refine Exists.intro _ (And.intro (h4) ?_); conv => whnf) | (refine Exists.intro _ (And.intro (h4) ?_); conv => whnf) | (refine Or.inl ?_; (conv => whnf); refine Exists.intro _ (And.intro (awake_c) ?_); conv => whnf) | (refine Or.inr (Or.inr (Or.inl ?_)); (conv => whnf); refine Exists.intro _ (And.intro (awake_c) ?_); conv => whnf) | (refine Exists.intro _ (And.intro (awake_c) ?_); conv => whnf) | (refine WR_fit ?_ ?_; (focus (first | exact wr_i64 (by omega) | exact wr_u64 (by omega) | exact wr_u8 (by omega) | exact wr_i32 (by omega) | exact wr_u32 (by omega))); conv => whnf) | (refine WR_wrap ?_; conv => whnf) | (refine And.intro (a := indepB _ _ = true) ?_ ?_; (focus kernel_rfl); conv => whnf) | (refine And.intro rfl ?_; conv => whnf) | (refine And.intro ?_ ?_; (focus (first | omega | decide | (dsimp only; omega) | (simp at *; omega))); conv => whnf))
  all_goals
    have hk := turns_xy hk
    clear h1 h2 h3 h4
    exfalso
    simp only [trn, Bool.and_true, Bool.and_eq_true, beq_iff_eq, Bool.and_eq_false_iff, beq_eq_false_iff_ne, bne_iff_ne, ne_eq] at *
    first | omega | (simp_all; done) | trace_state
end Go.Proofs.Ytagokdeflnkplaa
set_option linter.unusedSimpArgs false
namespace Go.Proofs.Ytagokdeflnkplaa
open Go.ChangeShapes Go.WideShapes Go.ChangeAt Go.RowKit
open Go.Proofs.Ytagokdeflnkplaa.Am
theorem Try.own : ownKnob Try.prog.godebug = none := by kernel_rfl
theorem Try.laidOut : laidOutB Try.prog = true := by kernel_rfl
def gTrue : GInv := ⟨fun _ => True, 0, fun _ _ => Nat.zero_le _, fun _ _ _ _ _ => trivial⟩
theorem u3 : Try.prog.underlying 3 = some (.int .i64) := by kernel_rfl
theorem o_int : Opens Try.prog 3 (fun n : Int => [.int .i64 n]) (fun n => -9223372036854775808 ≤ n ∧ n ≤ 9223372036854775807) := opens_i64 u3
theorem o_pt : Opens Try.prog 23 ptA (fun _ => True) :=
  (opens_struct (t := 23) (L := [(3, 0, 1), (3, 1, 1)]) (by kernel_rfl) (by kernel_rfl) (opensF_cons o_int (opensF_cons o_int opensF_nil))).to
    (fun x => (⟨x.1, x.2.1⟩ : Pt)) (fun _ => rfl) (fun _ _ => trivial)
theorem o_seg : Opens Try.prog 25 sgA (fun _ => True) :=
  (opens_struct (t := 25) (L := [(23, 0, 2), (23, 2, 2)]) (by kernel_rfl) (by kernel_rfl) (opensF_cons o_pt (opensF_cons o_pt opensF_nil))).to
    (fun x => (⟨x.1, x.2.1⟩ : Sg)) (fun _ => rfl) (fun _ _ => trivial)
theorem toSb {P : Program} {G : GInv} {f : FuncId} {args : List A} {b : Bool} (h : ACalls P G f args (.bool b)) : ACalls P G f args (.sb b) := by
  refine ⟨h.1, fun im w vs h1 h2 h3 h4 => ?_⟩
  refine Calls_mono (h.2 im w vs h1 h2 h3 h4) ?_
  rintro e w' ⟨v, e1, e2, e3⟩
  refine ⟨v, e1, ?_, e3⟩
  cases e2; exact .sb b
theorem args2 {im : Nat → Prop} {W : World} {x0 x1 : A} {v0 v1 : Value} (h0 : RelI im W x0 v0) (h1 : RelI im W x1 v1) :
    ∀ j (_ : j < [x0, x1].length) (_ : j < [v0, v1].length), RelI im W [x0, x1][j] [v0, v1][j] := by
  intro j h _
  match j with
  | 0 => exact h0
  | 1 => exact h1
  | j + 2 => exact absurd h (by simp)
set_option maxRecDepth 100000 in
theorem meetTurns_lifted (os : Os) (started : os.Started) (H : Type) (enc : TypeId × Value → H) :
    ReturnsInHanded {} Try.checked os 3 .any (Rows.meetTurnsSpec.pre6 enc Try.prog Try.f3 Rows.meetTurnsRow.domain false) (Rows.meetTurnsSpec.post enc Try.prog Try.f3 false true false false) := by
  refine returnsInHanded_of_change (C := Try.checked) Try.own started (by kernel_rfl) Try.func3
    (ChangeSpec.witness6 (enc := enc) (C := Try.checked) false ⟨#[], #[.agg #[.int .i64 0, .int .i64 0, .int .i64 0, .int .i64 0], .agg #[.int .i64 0, .int .i64 0, .int .i64 0, .int .i64 0]], []⟩ 8 (by kernel_rfl) (by kernel_rfl) (by kernel_rfl) (by kernel_rfl)) ?_
  intro W base args ds gs before hval0 hW hcnd _
  have hval : ∀ (j : Nat) t v, Try.f3.params[j]? = some t → args[j]? = some v → Value.okWide Try.prog W .any base t v := hval0
  have hW' := hW
  obtain ⟨p, q, hA0, hV, rfl, hfz, hnd⟩ := hW
  have hA : DataW.TrodAll enc Try.prog W 0 (fun _ => true) true Try.f3.params.toList args.toList ds p := hA0
  rw [Try.params3] at hA hval
  obtain ⟨v0, v1, d0, d1, p0, p1, rfl, rfl, rfl, h0, h1⟩ := trodAll_two hA
  obtain ⟨rfl, rfl⟩ := trodVars_none hV
  have hlt : ∀ x ∈ p0 ++ p1, x.block < W.heap.size := fun x hx => hW'.lt x (by simpa using hx)
  obtain ⟨s, ok0, r0⟩ := o_seg.agg (im := fun b => b < W.heap.size) h0 (okWide_agg (hval 0 25 v0 rfl rfl) (by kernel_rfl)) (fun x hx => hlt x (by simp [hx]))
  obtain ⟨t, ok1, r1⟩ := o_seg.agg (im := fun b => b < W.heap.size) h1 (okWide_agg (hval 1 25 v1 rfl rfl) (by kernel_rfl)) (fun x hx => hlt x (by simp [hx]))
  refine Calls_mono (calls_true (G := gTrue) (turns_c s t) (W := W) (vs := [v0, v1]) (im := fun b => b < W.heap.size) (fun _ h => h) trivial rfl (args2 r0 r1)) ?_
  rintro e W' ⟨rfl, hb⟩
  exact ⟨_, rfl, post_true Try.laidOut rfl (by kernel_rfl) Try.underlying4 (by kernel_rfl) rfl hW' hb⟩
theorem meetTurns_holds : Rows.MeetTurnsSaid :=
  OpenClaim.holds_of_wide 3 Try.f3 rfl rfl rfl rfl rfl rfl rfl ⟨rfl, rfl, rfl, rfl, rfl⟩ rfl rfl rfl rfl rfl (by kernel_rfl) Try.func3 (by kernel_rfl)
    (of_decide_eq_true (by kernel_rfl)) (by unfold Func.isWrapper; first | (rw [if_pos (by decide +kernel)]; kernel_rfl) | (rw [if_neg (by decide +kernel)]; exact ⟨rfl, rfl⟩))
    (fun os started H enc _ => meetTurns_lifted os started H enc)
#print axioms meetTurns_holds
end Go.Proofs.Ytagokdeflnkplaa

/-
  The walks of the reference's Bare, near, May; they answer as verb.May.
-/
import Derived.Test.YtagokdeflnkplaaDoorVerb2
set_option linter.unusedSimpArgs false
namespace Go.Proofs.YtagokdeflnkplaaDoor
open Go.Proofs.YtagokdeflnkplaaDoor.Am Go.Lib
variable {G : GInv}
/-! ### The reference: commands that may be -/
def bareC (c : Cm) : Cm :=
  if c.k = 1 then ⟨c.k, c.rid, c.pts, c.ws, c.ow, 0, 0, 0, false, (0, 0), (0, 0)⟩ else
  if c.k = 2 ∨ c.k = 6 ∨ c.k = 11 ∨ c.k = 12 then ⟨c.k, 0, [], [], false, c.id, 0, 0, false, (0, 0), (0, 0)⟩ else
  if c.k = 4 ∨ c.k = 5 then ⟨c.k, 0, [], [], false, 0, c.bf, c.bt, c.bo, (0, 0), (0, 0)⟩ else
  if c.k = 8 then ⟨c.k, 0, [], [], false, 0, 0, 0, false, c.p, (0, 0)⟩ else
  if c.k = 9 ∨ c.k = 10 then ⟨c.k, 0, [], [], false, 0, 0, 0, false, c.p, c.q⟩ else
  ⟨c.k, 0, [], [], false, 0, 0, 0, false, (0, 0), (0, 0)⟩
set_option maxRecDepth 100000 in
set_option maxHeartbeats 4000000 in
theorem bare_c (c : Cm) : ACalls Tryd.prog G 70 [.agg (cmA c)] (.agg (cmA (bareC c))) := by
  unfold bareC
  by_cases h1 : c.k = 1
  · rw [if_pos h1]
    refine ACalls.of_WA ttok Tryd.func70 rfl rfl _ rfl ?_
    conv => whnf
    repeat' (first | refine WA_seq ?_ | (refine WA_region ttok ?_; conv => whnf) | (refine WA_draw ttok mixed ?_; conv => whnf) | (refine WA_cond ?_; conv => whnf) | refine WA_block ?_ | (refine WA_skip ?_; conv => whnf) | (refine WA_exit ?_; conv => whnf) | (refine WA_ret ?_; conv => whnf) | (refine And.intro (fun h => ?_) (fun h => ?_) <;> (try simp only [brsA] at h) <;> conv => whnf) | (refine WR_fit ?_ ?_; (focus (first | exact wr_i64 (by omega) | exact wr_u64 (by omega) | exact wr_u8 (by omega) | exact wr_i32 (by omega) | exact wr_u32 (by omega))); conv => whnf) | (refine WR_wrap ?_; conv => whnf) | (refine And.intro (a := indepB _ _ = true) ?_ ?_; (focus kernel_rfl); conv => whnf) | (refine And.intro rfl ?_; conv => whnf) | (refine And.intro ?_ ?_; (focus (first | omega | decide | (dsimp only; omega) | (simp at *; omega))); conv => whnf))
    all_goals first | contradiction | (exfalso; omega) | skip
    all_goals first | rfl | exact ⟨Or.inl fun _ _ => rfl, rfl, Or.inl fun _ _ => rfl, rfl, rfl, rfl, rfl, rfl, rfl, rfl, rfl, rfl⟩ | trace_state
  · rw [if_neg h1]
    refine ACalls.of_WA ttok Tryd.func70 rfl rfl _ rfl ?_
    conv => whnf
    repeat' (first | refine WA_seq ?_ | (refine WA_region ttok ?_; conv => whnf) | (refine WA_draw ttok mixed ?_; conv => whnf) | (refine WA_cond ?_; conv => whnf) | refine WA_block ?_ | (refine WA_skip ?_; conv => whnf) | (refine WA_exit ?_; conv => whnf) | (refine WA_ret ?_; conv => whnf) | (refine And.intro (fun h => ?_) (fun h => ?_) <;> (try simp only [brsA] at h) <;> conv => whnf) | (refine WR_fit ?_ ?_; (focus (first | exact wr_i64 (by omega) | exact wr_u64 (by omega) | exact wr_u8 (by omega) | exact wr_i32 (by omega) | exact wr_u32 (by omega))); conv => whnf) | (refine WR_wrap ?_; conv => whnf) | (refine And.intro (a := indepB _ _ = true) ?_ ?_; (focus kernel_rfl); conv => whnf) | (refine And.intro rfl ?_; conv => whnf) | (refine And.intro ?_ ?_; (focus (first | omega | decide | (dsimp only; omega) | (simp at *; omega))); conv => whnf))
    all_goals first | contradiction | (exfalso; omega) | skip
    all_goals first | rw [if_pos (by omega)] | rw [if_neg (by omega), if_pos (by omega)] | rw [if_neg (by omega), if_neg (by omega), if_pos (by omega)] | rw [if_neg (by omega), if_neg (by omega), if_neg (by omega), if_pos (by omega)] | rw [if_neg (by omega), if_neg (by omega), if_neg (by omega), if_neg (by omega)] | skip
    all_goals first | rfl | exact ⟨rfl, rfl, rfl, rfl, rfl, rfl, rfl, rfl, rfl, rfl, rfl, rfl, rfl⟩ | (repeat (first | exact rfl | exact trivial | exact Or.inl (fun _ _ => rfl) | exact (fun _ => rfl) | exact (fun _ _ => rfl) | exact Or.inl (fun _ hi => absurd hi (Nat.not_lt_zero _)) | (refine And.intro rfl ?_; conv => whnf) | (refine And.intro (Or.inl (fun _ _ => rfl)) ?_; conv => whnf) | (refine And.intro (fun _ => rfl) ?_; conv => whnf) | (refine And.intro (fun _ _ => rfl) ?_; conv => whnf) | (refine And.intro ?_ ?_; rotate_left; conv => whnf)))
set_option maxRecDepth 100000 in
set_option maxHeartbeats 4000000 in
theorem rnear_c (l : List Int) (n : Nat) (row : Nat → List A) (hl : l.length = n) (hn : n ≤ 1000000) (hr : ∀ j, j < n → row j = [.int .i64 (l.getD j 0)]) : ACalls Tryd.prog G 71 [.sl n 1 row] (.sb (decide (nearL l))) := by
  refine ACalls.fit (args := [intsA l]) ?_ (by
    subst hl
    conv => whnf
    exact ⟨rfl, Or.inl hr⟩)
  refine ACalls.of_WA ttok Tryd.func71 rfl rfl _ rfl ?_
  conv => whnf
  repeat' (first | refine WA_seq ?_ | (refine WA_region ttok ?_; conv => whnf) | (refine WA_draw ttok mixed ?_; conv => whnf) | (refine WA_cond ?_; conv => whnf) | refine WA_block ?_ | (refine WA_skip ?_; conv => whnf) | (refine WA_exit ?_; conv => whnf) | (refine WA_ret ?_; conv => whnf) | (refine And.intro (fun h => ?_) (fun h => ?_) <;> (try simp only [brsA] at h) <;> conv => whnf) | (refine WR_fit ?_ ?_; (focus (first | exact wr_i64 (by omega) | exact wr_u64 (by omega) | exact wr_u8 (by omega) | exact wr_i32 (by omega) | exact wr_u32 (by omega))); conv => whnf) | (refine WR_wrap ?_; conv => whnf) | (refine And.intro (a := indepB _ _ = true) ?_ ?_; (focus kernel_rfl); conv => whnf) | (refine And.intro rfl ?_; conv => whnf) | (refine And.intro ?_ ?_; (focus (first | omega | decide | (dsimp only; omega) | (simp at *; omega))); conv => whnf))
  refine WA_loopI (fun i : Nat => i ≤ l.length ∧ ∀ j, j < i → near60 (l.getD j 0)) (fun i => [(3, .int .i64 (i : Int))]) (fun _ => []) (fun i => l.length - i) 0 ⟨by omega, fun j hj => absurd hj (by omega)⟩ ?_ ?_
  · conv => whnf
    repeat (first | exact rfl | exact trivial | exact Or.inl (fun _ _ => rfl) | exact (fun _ => rfl) | exact (fun _ _ => rfl) | exact Or.inl (fun _ hi => absurd hi (Nat.not_lt_zero _)) | (refine And.intro rfl ?_; conv => whnf) | (refine And.intro (Or.inl (fun _ _ => rfl)) ?_; conv => whnf) | (refine And.intro (fun _ => rfl) ?_; conv => whnf) | (refine And.intro (fun _ _ => rfl) ?_; conv => whnf) | (refine And.intro ?_ ?_; rotate_left; conv => whnf))
  · rintro i ⟨hi, he⟩
    have ei : ((i : Nat) : Int).toNat = i := Int.toNat_natCast i
    have hx : i < l.length → nearL l → near60 (l.getD i 0) := fun a b => b i a
    conv => whnf
    repeat' (first | refine WA_seq ?_ | (refine WA_region ttok ?_; conv => whnf) | (refine WA_draw ttok mixed ?_; conv => whnf) | (refine WA_cond ?_; conv => whnf) | refine WA_block ?_ | (refine WA_skip ?_; conv => whnf) | (refine WA_exit ?_; conv => whnf) | (refine WA_ret ?_; conv => whnf) | (refine And.intro (fun h => ?_) (fun h => ?_) <;> (try simp only [brsA] at h) <;> conv => whnf) | (refine WR_fit ?_ ?_; (focus (first | exact wr_i64 (by omega) | exact wr_u64 (by omega) | exact wr_u8 (by omega) | exact wr_i32 (by omega) | exact wr_u32 (by omega))); conv => whnf) | (refine WR_wrap ?_; conv => whnf) | (refine And.intro (a := indepB _ _ = true) ?_ ?_; (focus kernel_rfl); conv => whnf) | (refine And.intro rfl ?_; conv => whnf) | (refine And.intro ?_ ?_; (focus (first | omega | decide | (dsimp only; omega) | (simp at *; omega))); conv => whnf))
    all_goals first | contradiction | (exfalso; omega) | skip
    · rename_i h
      rw [ei] at h
      exact (decide_eq_false fun q => by have := hx (by omega) q; unfold near60 at this; omega).symm
    · have hlo : ¬ l.getD (i : Int).toNat 0 < -1152921504606846976 := by assumption
      rw [ei] at hlo h
      refine ⟨i + 1, ⟨by omega, upto_succ he (by unfold near60; omega)⟩, (by show l.length - (i + 1) < l.length - i; omega), ?_⟩
      conv => whnf
      repeat (first | exact rfl | exact trivial | exact Or.inl (fun _ _ => rfl) | exact (fun _ => rfl) | exact (fun _ _ => rfl) | exact Or.inl (fun _ hi => absurd hi (Nat.not_lt_zero _)) | (refine And.intro rfl ?_; conv => whnf) | (refine And.intro (Or.inl (fun _ _ => rfl)) ?_; conv => whnf) | (refine And.intro (fun _ => rfl) ?_; conv => whnf) | (refine And.intro (fun _ _ => rfl) ?_; conv => whnf) | (refine And.intro ?_ ?_; rotate_left; conv => whnf))
    · rename_i h
      rw [ei] at h
      exact (decide_eq_false fun q => by have := hx (by omega) q; unfold near60 at this; omega).symm
    · exact (decide_eq_true fun j hj => he j (by omega)).symm
def two (p : Pr) : List Int := [p.1, p.2]
def eight (c : Cm) : List Int := [c.id, c.bf, c.bt, c.p.1, c.p.2, c.q.1, c.q.2, c.rid]
def nearP (l : List Pr) : Prop := ∀ i, i < l.length → nearL (two (l.getD i (0, 0)))
instance (l : List Pr) : Decidable (nearP l) := inferInstanceAs (Decidable (∀ i, i < l.length → nearL (two (l.getD i (0, 0)))))
def okR2 (c : Cm) : Prop := c.k = 1 → 1 ≤ c.pts.length ∧ c.pts.length ≤ 100 ∧ c.ws.length + 1 = c.pts.length
instance (c : Cm) : Decidable (okR2 c) := inferInstanceAs (Decidable (_ → _))
def rmayV (c : Cm) : Prop := nameL c.k ≠ [] ∧ c = bareC c ∧ nearL (eight c) ∧ nearL c.ws ∧ nearP c.pts ∧ okR2 c
instance (c : Cm) : Decidable (rmayV c) := inferInstanceAs (Decidable (_ ∧ _))
set_option maxRecDepth 100000 in
set_option maxHeartbeats 8000000 in
theorem rmay_c (c : Cm) (hp : c.pts.length ≤ 1000000) (hw : c.ws.length ≤ 1000000) : ACalls Tryd.prog G 37 [.agg (cmA c)] (.sb (decide (rmayV c))) := by
  have hn := rvname_c (G := G) c.k
  have hb := bare_c (G := G) c
  have hs := rsame_c (G := G) c (bareC c) hp hw
  have h8 := rnear_c (G := G) (eight c) 8 (fun i => takeL 1 (List.drop (i * 1) [.int .i64 c.id, .int .i64 c.bf, .int .i64 c.bt, .int .i64 c.p.1, .int .i64 c.p.2, .int .i64 c.q.1, .int .i64 c.q.2, .int .i64 c.rid])) rfl (by omega) (fun j hj => by
    have : j = 0 ∨ j = 1 ∨ j = 2 ∨ j = 3 ∨ j = 4 ∨ j = 5 ∨ j = 6 ∨ j = 7 := by omega
    rcases this with e | e | e | e | e | e | e | e <;> subst e <;> rfl)
  have hW := rnear_c (G := G) c.ws c.ws.length (fun i => [.int .i64 (c.ws.getD i 0)]) rfl hw (fun _ _ => rfl)
  have h2 := fun (p : Pr) => rnear_c (G := G) (two p) 2 (fun i => takeL 1 (List.drop (i * 1) [.int .i64 p.1, .int .i64 p.2])) rfl (by omega) (fun j hj => by
    have : j = 0 ∨ j = 1 := by omega
    rcases this with e | e <;> subst e <;> rfl)
  have hv : decide (rmayV c) = true ↔ (nameL c.k ≠ [] ∧ decide (c = bareC c) = true ∧ decide (nearL (eight c)) = true ∧ decide (nearL c.ws) = true ∧ nearP c.pts ∧ okR2 c) := by
    rw [decide_eq_true_iff, decide_eq_true_iff, decide_eq_true_iff, decide_eq_true_iff]; rfl
  generalize decide (rmayV c) = V at *
  generalize decide (c = bareC c) = S at *
  generalize bareC c = B at *
  generalize decide (nearL (eight c)) = N8 at *
  generalize decide (nearL c.ws) = NW at *
  have hvF : ¬ (nameL c.k ≠ [] ∧ S = true ∧ N8 = true ∧ NW = true ∧ nearP c.pts ∧ okR2 c) → false = V := fun q => by
    cases hV : V
    · rfl
    · exact absurd (hv.1 hV) q
  have hvT : (nameL c.k ≠ [] ∧ S = true ∧ N8 = true ∧ NW = true ∧ nearP c.pts ∧ okR2 c) → true = V := fun q => (hv.2 q).symm
  clear hv
  refine ACalls.of_WA ttok Tryd.func37 rfl rfl _ rfl ?_
  conv => whnf
  repeat' (first | refine WA_seq ?_ | (refine WA_region ttok ?_; conv => whnf) | (refine WA_draw ttok mixed ?_; conv => whnf) | (refine WA_cond ?_; conv => whnf) | refine WA_block ?_ | (refine WA_skip ?_; conv => whnf) | (refine WA_exit ?_; conv => whnf) | (refine WA_ret ?_; conv => whnf) | (refine And.intro (fun h => ?_) (fun h => ?_) <;> (try simp only [brsA] at h) <;> conv => whnf) | (refine Or.inl ?_; (conv => whnf); refine Exists.intro _ (And.intro (hn) ?_); conv => whnf) | (refine Or.inr (Or.inr (Or.inl ?_)); (conv => whnf); refine Exists.intro _ (And.intro (hn) ?_); conv => whnf) | (refine Exists.intro _ (And.intro (hn) ?_); conv => whnf) | (refine Or.inl ?_; (conv => whnf); refine Exists.intro _ (And.intro (hb) ?_); conv => whnf) | (refine Or.inr (Or.inr (Or.inl ?_)); (conv => whnf); refine Exists.intro _ (And.intro (hb) ?_); conv => whnf) | (refine Exists.intro _ (And.intro (hb) ?_); conv => whnf) | (refine Or.inl ?_; (conv => whnf); refine Exists.intro _ (And.intro (hs) ?_); conv => whnf) | (refine Or.inr (Or.inr (Or.inl ?_)); (conv => whnf); refine Exists.intro _ (And.intro (hs) ?_); conv => whnf) | (refine Exists.intro _ (And.intro (hs) ?_); conv => whnf) | (refine Or.inl ?_; (conv => whnf); refine Exists.intro _ (And.intro (h8) ?_); conv => whnf) | (refine Or.inr (Or.inr (Or.inl ?_)); (conv => whnf); refine Exists.intro _ (And.intro (h8) ?_); conv => whnf) | (refine Exists.intro _ (And.intro (h8) ?_); conv => whnf) | (refine Or.inl ?_; (conv => whnf); refine Exists.intro _ (And.intro (hW) ?_); conv => whnf) | (refine Or.inr (Or.inr (Or.inl ?_)); (conv => whnf); refine Exists.intro _ (And.intro (hW) ?_); conv => whnf) | (refine Exists.intro _ (And.intro (hW) ?_); conv => whnf) | (refine WR_fit ?_ ?_; (focus (first | exact wr_i64 (by omega) | exact wr_u64 (by omega) | exact wr_u8 (by omega) | exact wr_i32 (by omega) | exact wr_u32 (by omega))); conv => whnf) | (refine WR_wrap ?_; conv => whnf) | (refine And.intro (a := indepB _ _ = true) ?_ ?_; (focus kernel_rfl); conv => whnf) | (refine And.intro rfl ?_; conv => whnf) | (refine And.intro ?_ ?_; (focus (first | omega | decide | (dsimp only; omega) | (simp at *; omega))); conv => whnf))
  all_goals first | contradiction | (exfalso; omega) | skip
  all_goals first | exact hvF (fun q => absurd q.1 (by simp_all)) | exact hvF (fun q => absurd q.2.1 (by simp_all)) | exact hvF (fun q => absurd q.2.2.1 (by simp_all)) | exact hvF (fun q => absurd q.2.2.2.1 (by simp_all)) | skip
  have ok4 : nameL c.k ≠ [] ∧ S = true ∧ N8 = true ∧ NW = true := ⟨by assumption, by assumption, by assumption, by assumption⟩
  clear hn hb hs h8 hW
  have hvF : ¬ (nearP c.pts ∧ okR2 c) → false = V := fun q => hvF fun z => q z.2.2.2.2
  have hvT : nearP c.pts ∧ okR2 c → true = V := fun q => hvT ⟨ok4.1, ok4.2.1, ok4.2.2.1, ok4.2.2.2, q⟩
  refine WA_loopI (fun i : Nat => i ≤ c.pts.length ∧ ∀ j, j < i → nearL (two (c.pts.getD j (0, 0)))) (fun i => [(3, .int .i64 (i : Int)), (39, .junk)]) (fun _ => [.box 56 (cmA c)]) (fun i => c.pts.length - i) 0 ⟨by omega, fun j hj => absurd hj (by omega)⟩ ?_ ?_
  · conv => whnf
    repeat (first | exact rfl | exact trivial | exact Or.inl (fun _ _ => rfl) | exact (fun _ => rfl) | exact (fun _ _ => rfl) | exact Or.inl (fun _ hi => absurd hi (Nat.not_lt_zero _)) | (refine And.intro rfl ?_; conv => whnf) | (refine And.intro (Or.inl (fun _ _ => rfl)) ?_; conv => whnf) | (refine And.intro (fun _ => rfl) ?_; conv => whnf) | (refine And.intro (fun _ _ => rfl) ?_; conv => whnf) | (refine And.intro ?_ ?_; rotate_left; conv => whnf))
  · rintro i ⟨hi, he⟩
    have ei : ((i : Nat) : Int).toNat = i := Int.toNat_natCast i
    have hc := h2 (c.pts.getD (i : Int).toNat (0, 0))
    have hx : i < c.pts.length → nearP c.pts → nearL (two (c.pts.getD i (0, 0))) := fun a b => b i a
    have hdd : decide (nearL (two (c.pts.getD (i : Int).toNat (0, 0)))) = decide (nearL (two (c.pts.getD i (0, 0)))) := by rw [ei]
    generalize hD : decide (nearL (two (c.pts.getD (i : Int).toNat (0, 0)))) = D at *
    by_cases him : i < c.pts.length
    · conv => whnf
      repeat' (first | refine WA_seq ?_ | (refine WA_region ttok ?_; conv => whnf) | (refine WA_draw ttok mixed ?_; conv => whnf) | (refine WA_cond ?_; conv => whnf) | refine WA_block ?_ | (refine WA_skip ?_; conv => whnf) | (refine WA_exit ?_; conv => whnf) | (refine WA_ret ?_; conv => whnf) | (refine And.intro (fun h => ?_) (fun h => ?_) <;> (try simp only [brsA] at h) <;> conv => whnf) | (refine Or.inl ?_; (conv => whnf); refine Exists.intro _ (And.intro (hc) ?_); conv => whnf) | (refine Or.inr (Or.inr (Or.inl ?_)); (conv => whnf); refine Exists.intro _ (And.intro (hc) ?_); conv => whnf) | (refine Exists.intro _ (And.intro (hc) ?_); conv => whnf) | (refine WR_fit ?_ ?_; (focus (first | exact wr_i64 (by omega) | exact wr_u64 (by omega) | exact wr_u8 (by omega) | exact wr_i32 (by omega) | exact wr_u32 (by omega))); conv => whnf) | (refine WR_wrap ?_; conv => whnf) | (refine And.intro (a := indepB _ _ = true) ?_ ?_; (focus kernel_rfl); conv => whnf) | (refine And.intro rfl ?_; conv => whnf) | (refine And.intro ?_ ?_; (focus (first | omega | decide | (dsimp only; omega) | (simp at *; omega))); conv => whnf))
      all_goals first | contradiction | (exfalso; omega) | skip
      · rename_i h
        exact hvF fun q => absurd (hx him q.1) (of_decide_eq_false (hdd.symm.trans h))
      · rename_i h
        refine ⟨i + 1, ⟨by omega, upto_succ he (of_decide_eq_true (hdd.symm.trans h))⟩, (by show c.pts.length - (i + 1) < c.pts.length - i; omega), ?_⟩
        conv => whnf
        repeat (first | exact rfl | exact trivial | exact Or.inl (fun _ _ => rfl) | exact (fun _ => rfl) | exact (fun _ _ => rfl) | exact Or.inl (fun _ hi => absurd hi (Nat.not_lt_zero _)) | (refine And.intro rfl ?_; conv => whnf) | (refine And.intro (Or.inl (fun _ _ => rfl)) ?_; conv => whnf) | (refine And.intro (fun _ => rfl) ?_; conv => whnf) | (refine And.intro (fun _ _ => rfl) ?_; conv => whnf) | (refine And.intro ?_ ?_; rotate_left; conv => whnf))
    · obtain rfl : i = c.pts.length := by omega
      have hok : okR2 c → true = V := fun q => hvT ⟨fun j hj => he j hj, q⟩
      have hno : ¬ okR2 c → false = V := fun q => hvF fun z => q z.2
      unfold okR2 at hok hno
      conv => whnf
      repeat' (first | refine WA_seq ?_ | (refine WA_region ttok ?_; conv => whnf) | (refine WA_draw ttok mixed ?_; conv => whnf) | (refine WA_cond ?_; conv => whnf) | refine WA_block ?_ | (refine WA_skip ?_; conv => whnf) | (refine WA_exit ?_; conv => whnf) | (refine WA_ret ?_; conv => whnf) | (refine And.intro (fun h => ?_) (fun h => ?_) <;> (try simp only [brsA] at h) <;> conv => whnf) | (refine WR_fit ?_ ?_; (focus (first | exact wr_i64 (by omega) | exact wr_u64 (by omega) | exact wr_u8 (by omega) | exact wr_i32 (by omega) | exact wr_u32 (by omega))); conv => whnf) | (refine WR_wrap ?_; conv => whnf) | (refine And.intro (a := indepB _ _ = true) ?_ ?_; (focus kernel_rfl); conv => whnf) | (refine And.intro rfl ?_; conv => whnf) | (refine And.intro ?_ ?_; (focus (first | omega | decide | (dsimp only; omega) | (simp at *; omega))); conv => whnf))
      all_goals first | contradiction | (exfalso; omega) | skip
      all_goals first
        | exact hno (fun z => by have := z (by assumption); omega)
        | exact hok (fun z => absurd z (by assumption))
        | skip
      by_cases q : c.ws.length + 1 = c.pts.length
      · rw [beq_iff_eq.2 (show (c.ws.length : Int) + 1 = c.pts.length by omega)]
        exact hok (fun _ => ⟨by omega, by omega, q⟩)
      · rw [beq_eq_false_iff_ne.2 (show (c.ws.length : Int) + 1 ≠ c.pts.length by omega)]
        exact hno (fun z => q (z (by assumption)).2.2)
end Go.Proofs.YtagokdeflnkplaaDoor
set_option linter.unusedSimpArgs false
namespace Go.Proofs.YtagokdeflnkplaaDoor
open Go.Proofs.YtagokdeflnkplaaDoor.Am Go.Lib
theorem rd_all (rid : Int) (pts : List Pr) (ws : List Int) (h : pts.length = ws.length + 1) :
    rdPts ((List.range (3 * ws.length + 3)).map (allR rid pts ws)) = pts ∧ rdWs ((List.range (3 * ws.length + 3)).map (allR rid pts ws)) = ws ∧ ((List.range (3 * ws.length + 3)).map (allR rid pts ws)).getD 0 0 = rid := by
  have hl : ((List.range (3 * ws.length + 3)).map (allR rid pts ws)).length = 3 * ws.length + 3 := by simp
  have hg : ∀ j, j < 3 * ws.length + 3 → ((List.range (3 * ws.length + 3)).map (allR rid pts ws)).getD j 0 = allR rid pts ws j := fun j hj => range_getD _ _ _ _ hj
  generalize (List.range (3 * ws.length + 3)).map (allR rid pts ws) = L at *
  have e1 : L.length / 3 = ws.length + 1 := by omega
  have ha := allR_at rid pts ws
  refine ⟨?_, ?_, (hg 0 (by omega)).trans (ha 0).2.2.2⟩
  · refine prs_ext (by rw [rdPts_len]; omega) fun i hi => ?_
    rw [rdPts_len] at hi
    rw [rdPts_get L i (by omega), hg _ (by omega), hg _ (by omega), (ha i).1, (ha i).2.1]
  · refine intsv_ext (by rw [rdWs_len]; omega) fun i hi => ?_
    rw [rdWs_len] at hi
    rw [rdWs_get L i (by omega), hg _ (by omega), (ha i).2.2.1]
theorem near_two (p : Pr) : nearL (two p) ↔ near60 p.1 ∧ near60 p.2 := by rw [near_all]; simp [two]
theorem near_all1 (rid : Int) (pts : List Pr) (ws : List Int) (h : pts.length = ws.length + 1) : nearL ((List.range (3 * ws.length + 3)).map (allR rid pts ws)) ↔ near60 rid ∧ nearP pts ∧ nearL ws := by
  have hl : ((List.range (3 * ws.length + 3)).map (allR rid pts ws)).length = 3 * ws.length + 3 := by simp
  have hg : ∀ j, j < 3 * ws.length + 3 → ((List.range (3 * ws.length + 3)).map (allR rid pts ws)).getD j 0 = allR rid pts ws j := fun j hj => range_getD _ _ _ _ hj
  generalize (List.range (3 * ws.length + 3)).map (allR rid pts ws) = L at *
  have ha := allR_at rid pts ws
  constructor
  · intro q
    have key : ∀ j, j < 3 * ws.length + 3 → near60 (allR rid pts ws j) := fun j hj => by rw [← hg j hj]; exact q j (by omega)
    refine ⟨by have := key 0 (by omega); rwa [(ha 0).2.2.2] at this, fun i hi => ?_, fun i hi => ?_⟩
    · rw [near_two]
      have k1 := key (3 * i + 1) (by omega)
      have k2 := key (3 * i + 2) (by omega)
      rw [(ha i).1] at k1
      rw [(ha i).2.1] at k2
      exact ⟨k1, k2⟩
    · have k3 := key (3 * i + 3) (by omega)
      rwa [(ha i).2.2.1] at k3
  · rintro ⟨q1, q2, q3⟩ j hj
    rw [hl] at hj
    rw [hg j hj]
    have h3 : j = 0 ∨ (∃ i, j = 3 * i + 1) ∨ (∃ i, j = 3 * i + 2) ∨ ∃ i, j = 3 * i + 3 := by
      have : j % 3 = 0 ∨ j % 3 = 1 ∨ j % 3 = 2 := by omega
      rcases this with h | h | h
      · by_cases h0 : j = 0
        · exact Or.inl h0
        · exact Or.inr (Or.inr (Or.inr ⟨j / 3 - 1, by omega⟩))
      · exact Or.inr (Or.inl ⟨j / 3, by omega⟩)
      · exact Or.inr (Or.inr (Or.inl ⟨j / 3, by omega⟩))
    rcases h3 with rfl | ⟨i, rfl⟩ | ⟨i, rfl⟩ | ⟨i, rfl⟩
    · rwa [(ha 0).2.2.2]
    · rw [(ha i).1]; exact ((near_two _).1 (q2 i (by omega))).1
    · rw [(ha i).2.1]; exact ((near_two _).1 (q2 i (by omega))).2
    · rw [(ha i).2.2.1]; exact q3 i (by omega)
theorem near0 : near60 0 := by unfold near60; omega
theorem near_eight (c : Cm) : nearL (eight c) ↔ near60 c.id ∧ near60 c.bf ∧ near60 c.bt ∧ near60 c.p.1 ∧ near60 c.p.2 ∧ near60 c.q.1 ∧ near60 c.q.2 ∧ near60 c.rid := by rw [near_all]; simp [eight]
theorem nearP_nil : nearP [] := fun i hi => absurd hi (by simp)
theorem nearL_nil : nearL [] := fun i hi => absurd hi (by simp)
theorem near_l1 (a : Int) : nearL [a] ↔ near60 a := by rw [near_all]; simp
theorem near_l2 (a b : Int) : nearL [a, b] ↔ near60 a ∧ near60 b := by rw [near_all]; simp
theorem near_l4 (a b c d : Int) : nearL [a, b, c, d] ↔ near60 a ∧ near60 b ∧ near60 c ∧ near60 d := by rw [near_all]; simp
set_option maxRecDepth 100000 in
set_option maxHeartbeats 4000000 in
theorem vmay_iff (c : Cm) : rmayV c ↔ mayV c := by
  by_cases hn : nameL c.k = []
  · exact ⟨fun q => absurd hn q.1, fun q => absurd hn q.1⟩
  have hk : 1 ≤ c.k ∧ c.k ≤ 13 := by
    apply Classical.byContradiction
    intro q; exact hn (nameL_ne.2 q)
  have a := kind13 hk
  obtain ⟨k, rid, pts, ws, ow, id, bf, bt, bo, ⟨p1, p2⟩, ⟨q1, q2⟩⟩ := c
  simp only at hn hk a
  unfold rmayV mayV
  rw [near_eight]
  rcases a with a | a | a | a | a | a | a | a | a | a | a | a | a <;> subst a
  · have hR : okR2 ⟨1, rid, pts, ws, ow, id, bf, bt, bo, (p1, p2), (q1, q2)⟩ ↔ okRd ⟨1, rid, pts, ws, ow, id, bf, bt, bo, (p1, p2), (q1, q2)⟩ := by
      unfold okR2 okRd; simp only
      constructor <;> intro q z <;> have := q z <;> omega
    rw [hR]
    constructor
    · rintro ⟨h1, h2, h3, h4, h5, h6⟩
      have hl := (h6 rfl).2.2
      obtain ⟨r1, r2, r3⟩ := rd_all rid pts ws hl
      simp only [bareC, if_pos, Cm.mk.injEq, Prod.mk.injEq, true_and] at h2
      obtain ⟨rfl, rfl, rfl, rfl, ⟨rfl, rfl⟩, rfl, rfl⟩ := h2
      refine ⟨h1, h6, ?_, ?_⟩
      · show nearL (if (1 : Int) = 1 then _ else _)
        rw [if_pos rfl]
        exact (near_all1 rid pts ws hl).2 ⟨h3.2.2.2.2.2.2.2, h5, h4⟩
      · show _ = madeC 1 (ow || false) (if (1 : Int) = 1 then _ else _)
        rw [if_pos rfl]
        unfold madeC
        rw [if_pos rfl]
        show _ = Cm.mk 1 _ _ _ _ _ _ _ _ _ _
        rw [r1, r2, r3, Bool.or_false]
    · rintro ⟨h1, h6, h3, h2⟩
      have hl := (h6 rfl).2.2
      obtain ⟨r1, r2, r3⟩ := rd_all rid pts ws hl
      have h3' : nearL ((List.range (3 * ws.length + 3)).map (allR rid pts ws)) := h3
      obtain ⟨n1, n2, n3⟩ := (near_all1 rid pts ws hl).1 h3'
      have h2' : Cm.mk 1 rid pts ws ow id bf bt bo (p1, p2) (q1, q2) = ⟨1, ((List.range (3 * ws.length + 3)).map (allR rid pts ws)).getD 0 0, rdPts ((List.range (3 * ws.length + 3)).map (allR rid pts ws)), rdWs ((List.range (3 * ws.length + 3)).map (allR rid pts ws)), ow || bo, 0, 0, 0, false, (0, 0), (0, 0)⟩ := h2
      rw [r1, r2, r3] at h2'
      simp only [Cm.mk.injEq, Prod.mk.injEq, true_and] at h2'
      obtain ⟨_, rfl, rfl, rfl, rfl, ⟨rfl, rfl⟩, rfl, rfl⟩ := h2'
      exact ⟨h1, rfl, ⟨near0, near0, near0, near0, near0, near0, near0, n1⟩, n3, n2, h6⟩
  all_goals
    simp only [bareC, madeC, allL, okR2, okRd, near_l1, near_l2, near_l4, List.getD_cons_zero, List.getD_cons_succ]
    constructor
    · rintro ⟨h1, h2, h3, h4, h5, h6⟩
      simp at h2 h3
      simp_all [near0, nearL_nil, near_l1, near_l2, near_l4]
    · rintro ⟨h1, h6, h3, h2⟩
      simp at h2 h3
      simp_all [near0, nearL_nil, nearP_nil, near_l1, near_l2, near_l4]
end Go.Proofs.YtagokdeflnkplaaDoor

/-
  The plain law of changes: with all of them applied the roads are the others; each Id once, in order.
-/
import Derived.Test.YtekfaocnlejgaaaApplies1
set_option linter.unusedSimpArgs false
set_option linter.unusedSectionVars false
set_option linter.unusedVariables false
namespace Go.Proofs.Ytekfaocnlejgaaa
open Go.Proofs.Ytekfaocnlejgaaa.Am Go.Sort Go.Proofs
variable [Inhabited DRT]
/-! ### The plain law of changes -/
theorem splitL {L : List Rd} (id : Int) : L = L.take (bsL L id) ++ ((if isL L id = true then [L.getD (bsL L id) default] else []) ++ rgt L id) := by
  unfold rgt
  split
  · rename_i q
    have hq := isL_lt q
    rw [List.singleton_append, List.getD_eq_getElem?_getD, List.getElem?_eq_getElem hq, Option.getD_some, ← List.drop_eq_getElem_cons hq, List.take_append_drop]
  · rw [List.nil_append, List.take_append_drop]
theorem is_id {L : List Rd} {id : Int} (h : isL L id = true) : (L.getD (bsL L id) default).id = id := by
  unfold isL at h
  rw [Bool.and_eq_true, decide_eq_true_iff, decide_eq_true_iff, cmpI0] at h
  exact h.2
theorem pw_inj {L : List Rd} (h : Pw L) {r s : Rd} (hr : r ∈ L) (hs : s ∈ L) (e : r.id = s.id) : r = s := by
  obtain ⟨i, hi, rfl⟩ := List.getElem_of_mem hr
  obtain ⟨j, hj, rfl⟩ := List.getElem_of_mem hs
  have hp := List.pairwise_iff_getElem.1 h
  rcases Nat.lt_trichotomy i j with q | q | q
  · have := hp i j hi hj q; omega
  · subst q; rfl
  · have := hp j i hj hi q; omega
theorem turnL_mem_iff {L b : List Rd} (h : Pw L) (hb : Pw b) (id : Int) (r : Rd) : r ∈ turnL L b id ↔ (r ∈ L ∧ r.id ≠ id) ∨ (r ∈ b ∧ r.id = id) := by
  have hA := bs_take h id
  have hC := rgt_gt h id
  have hL := splitL (L := L) id
  have key : r ∈ L.take (bsL L id) ∨ r ∈ rgt L id ↔ r ∈ L ∧ r.id ≠ id := by
    constructor
    · rintro (q | q)
      · exact ⟨List.mem_of_mem_take q, by have := hA r q; omega⟩
      · exact ⟨by rw [hL]; simp [q], by have := hC r q; omega⟩
    · rintro ⟨q1, q2⟩
      rw [hL] at q1
      rcases List.mem_append.1 q1 with q | q
      · exact .inl q
      · rcases List.mem_append.1 q with q | q
        · split at q
          · rename_i hi
            have := is_id hi
            rw [List.mem_singleton] at q
            subst q
            exact absurd this q2
          · cases q
        · exact .inr q
  rw [turnL_eq h, ← key]
  split
  · rename_i hj
    have hx := is_id hj
    have hm : b.getD (bsL b id) default ∈ b := getD_mem (isL_lt hj)
    rw [List.mem_append, List.mem_cons]
    constructor
    · rintro (q | rfl | q)
      · exact .inl (.inl q)
      · exact .inr ⟨hm, hx⟩
      · exact .inl (.inr q)
    · rintro ((q | q) | ⟨q1, q2⟩)
      · exact .inl q
      · exact .inr (.inr q)
      · exact .inr (.inl (pw_inj hb q1 hm (by omega)))
  · rename_i hj
    rw [List.mem_append]
    constructor
    · intro q; exact .inl q
    · rintro (q | ⟨q1, q2⟩)
      · exact q
      · refine absurd ((is_iff hb id).2 ?_) hj
        obtain ⟨i, hi, rfl⟩ := List.getElem_of_mem q1
        exact ⟨i, hi, by simpa [List.getD_eq_getElem?_getD, hi] using q2⟩
theorem pw_ext : ∀ (l m : List Rd), Pw l → Pw m → (∀ r, r ∈ l ↔ r ∈ m) → l = m
  | [], [], _, _, _ => rfl
  | [], y :: m, _, _, h => absurd ((h y).2 (by simp)) (by simp)
  | x :: l, [], _, _, h => absurd ((h x).1 (by simp)) (by simp)
  | x :: l, y :: m, hl, hm, h => by
    have hl' := List.pairwise_cons.1 hl
    have hm' := List.pairwise_cons.1 hm
    have e : x = y := by
      rcases List.mem_cons.1 ((h x).1 (by simp)) with q | q
      · exact q
      · rcases List.mem_cons.1 ((h y).2 (by simp)) with p | p
        · exact p.symm
        · have := hm'.1 x q
          have := hl'.1 y p
          omega
    subst e
    rw [pw_ext l m hl'.2 hm'.2 fun r => ?_]
    constructor
    · intro q
      rcases List.mem_cons.1 ((h r).1 (by simp [q])) with p | p
      · have := hl'.1 r q; subst p; omega
      · exact p
    · intro q
      rcases List.mem_cons.1 ((h r).2 (by simp [q])) with p | p
      · have := hm'.1 r q; subst p; omega
      · exact p
theorem appL_mem_iff {a b : List Rd} (ha : Pw a) (hb : Pw b) (l : List Ch) (r : Rd) : ∀ k, k ≤ l.length → (r ∈ appL a b l k ↔ (r ∈ a ∧ ∀ c ∈ l.take k, c.id ≠ r.id) ∨ (r ∈ b ∧ ∃ c ∈ l.take k, c.id = r.id))
  | 0, _ => by simp [appL]
  | k + 1, hk => by
    have ih := appL_mem_iff ha hb l r k (by omega)
    rw [appL, turnL_mem_iff (pw_app l ha hb k) hb, ih, List.take_add_one]
    have e : l[k]?.toList = [l.getD k default] := by simp [List.getD_eq_getElem?_getD, show k < l.length by omega]
    rw [e]
    generalize l.getD k default = c
    constructor
    · rintro (⟨⟨q1, q2⟩ | ⟨q1, d, q2, q3⟩, q4⟩ | ⟨q1, q2⟩)
      · refine .inl ⟨q1, fun d hd => ?_⟩
        rcases List.mem_append.1 hd with hd | hd
        · exact q2 d hd
        · rw [List.mem_singleton.1 hd]; omega
      · exact .inr ⟨q1, d, by simp [q2], q3⟩
      · exact .inr ⟨q1, c, by simp, by omega⟩
    · rintro (⟨q1, q2⟩ | ⟨q1, d, q2, q3⟩)
      · exact .inl ⟨.inl ⟨q1, fun d hd => q2 d (by simp [hd])⟩, fun e => q2 c (by simp) e.symm⟩
      · by_cases hc : c.id = r.id
        · exact .inr ⟨q1, hc.symm⟩
        · rcases List.mem_append.1 q2 with hd | hd
          · exact .inl ⟨.inr ⟨q1, d, hd, q3⟩, fun e => hc e.symm⟩
          · rw [List.mem_singleton.1 hd] at q3; exact absurd q3 hc
theorem ofA_mem {a b : List Rd} {c : Ch} : ∀ k, k ≤ a.length → (c ∈ ofA a b k ↔ ∃ i, i < k ∧ c ∈ chg1 b (a.getD i default))
  | 0, _ => by simp [ofA]
  | k + 1, hk => by
    rw [ofA, List.mem_append, ofA_mem k (by omega)]
    constructor
    · rintro (⟨i, h1, h2⟩ | h)
      · exact ⟨i, by omega, h2⟩
      · exact ⟨k, by omega, h⟩
    · rintro ⟨i, h1, h2⟩
      rcases Nat.lt_or_eq_of_le (Nat.le_of_lt_succ h1) with q | q
      · exact .inl ⟨i, q, h2⟩
      · subst q; exact .inr h2
theorem ofB_mem {a b : List Rd} {c : Ch} : ∀ k, k ≤ b.length → (c ∈ ofB a b k ↔ (∃ i, i < a.length ∧ c ∈ chg1 b (a.getD i default)) ∨ ∃ i, i < k ∧ c ∈ chg2 a (b.getD i default))
  | 0, _ => by
    have := ofA_mem (a := a) (b := b) (c := c) a.length (Nat.le_refl _)
    simp [ofB, this]
  | k + 1, hk => by
    rw [ofB, List.mem_append, ofB_mem k (by omega)]
    constructor
    · rintro ((h | ⟨i, h1, h2⟩) | h)
      · exact .inl h
      · exact .inr ⟨i, by omega, h2⟩
      · exact .inr ⟨k, by omega, h⟩
    · rintro (h | ⟨i, h1, h2⟩)
      · exact .inl (.inl h)
      · rcases Nat.lt_or_eq_of_le (Nat.le_of_lt_succ h1) with q | q
        · exact .inl (.inr ⟨i, q, h2⟩)
        · subst q; exact .inr h2
theorem chg1_id {b : List Rd} {x : Rd} {c : Ch} (h : c ∈ chg1 b x) : c.id = x.id := by
  unfold chg1 at h
  split at h
  · split at h
    · cases h
    · rw [List.mem_singleton.1 h]
  · rw [List.mem_singleton.1 h]
theorem chg2_id {a : List Rd} {x : Rd} {c : Ch} (h : c ∈ chg2 a x) : c.id = x.id ∧ isL a x.id = false := by
  unfold chg2 at h
  split at h
  · cases h
  · rename_i q
    rw [List.mem_singleton.1 h]
    exact ⟨rfl, by simpa using q⟩
theorem is_mem {l : List Rd} (h : Pw l) (id : Int) : isL l id = true ↔ ∃ r ∈ l, r.id = id := by
  rw [is_iff h]
  constructor
  · rintro ⟨k, h1, h2⟩; exact ⟨_, getD_mem h1, h2⟩
  · rintro ⟨r, hr, h2⟩
    obtain ⟨i, hi, rfl⟩ := List.getElem_of_mem hr
    exact ⟨i, hi, by simpa [List.getD_eq_getElem?_getD, hi] using h2⟩
/-- With all of the changes applied the roads are the others. -/
theorem app_all {a b : List Rd} (ha : Pw a) (hb : Pw b) (l : List Ch) (hl : ∀ c, c ∈ l ↔ c ∈ ofB a b b.length) : appL a b l l.length = b := by
  refine pw_ext _ _ (pw_app l ha hb _) hb fun r => ?_
  rw [appL_mem_iff ha hb l r _ (Nat.le_refl _), List.take_length]
  have hm : ∀ c, c ∈ l ↔ _ := fun c => (hl c).trans (ofB_mem b.length (Nat.le_refl _))
  constructor
  · rintro (⟨q1, q2⟩ | ⟨q1, _⟩)
    · obtain ⟨i, hi, e⟩ := List.getElem_of_mem q1
      have e' : a.getD i default = r := by simp [List.getD_eq_getElem?_getD, hi, e]
      have hno : ∀ c, c ∉ chg1 b r := fun c hc => q2 c ((hm c).2 (.inl ⟨i, hi, by rw [e']; exact hc⟩)) (chg1_id hc)
      unfold chg1 at hno
      split at hno
      · rename_i hj
        split at hno
        · rename_i he
          rw [he]
          exact getD_mem (isL_lt hj)
        · exact absurd (List.mem_singleton.2 rfl) (hno ⟨r.id, 3⟩)
      · exact absurd (List.mem_singleton.2 rfl) (hno ⟨r.id, 2⟩)
    · exact q1
  · intro hr
    by_cases hc : ∃ c ∈ l, c.id = r.id
    · exact .inr ⟨hr, hc⟩
    · refine .inl ⟨?_, fun c hcl e => hc ⟨c, hcl, e⟩⟩
      obtain ⟨i, hi, e⟩ := List.getElem_of_mem hr
      have e' : b.getD i default = r := by simp [List.getD_eq_getElem?_getD, hi, e]
      have hno : ∀ c, c ∉ chg2 a r := fun c hcc => hc ⟨c, (hm c).2 (.inr ⟨i, hi, by rw [e']; exact hcc⟩), (chg2_id hcc).1⟩
      have hia : isL a r.id = true := by
        unfold chg2 at hno
        split at hno
        · assumption
        · exact absurd (List.mem_singleton.2 rfl) (hno ⟨r.id, 1⟩)
      have hib : isL b r.id = true := (is_mem hb _).2 ⟨r, hr, rfl⟩
      have hbr : b.getD (bsL b r.id) default = r := pw_inj hb (getD_mem (isL_lt hib)) hr (is_id hib)
      obtain ⟨k, hk, ek⟩ := (is_iff ha _).1 hia
      have hno1 : ∀ c, c ∉ chg1 b (a.getD k default) := fun c hcc => hc ⟨c, (hm c).2 (.inl ⟨k, hk, hcc⟩), by rw [chg1_id hcc, ek]⟩
      unfold chg1 at hno1
      rw [ek, if_pos hib, hbr] at hno1
      split at hno1
      · rename_i he
        rw [← he]; exact getD_mem hk
      · exact absurd (List.mem_singleton.2 rfl) (hno1 ⟨r.id, 3⟩)
end Go.Proofs.Ytekfaocnlejgaaa
set_option linter.unusedSimpArgs false
set_option linter.unusedSectionVars false
set_option linter.unusedVariables false
namespace Go.Proofs.Ytekfaocnlejgaaa
open Go.Proofs.Ytekfaocnlejgaaa.Am Go.Sort Go.Proofs
variable [Inhabited DRT]
/-! ### Changes: each Id once, in order; how many of each kind -/
def Dist (l : List Ch) : Prop := l.Pairwise fun c d => c.id ≠ d.id
theorem ofA_dist {a b : List Rd} (ha : Pw a) : ∀ k, k ≤ a.length → Dist (ofA a b k)
  | 0, _ => List.Pairwise.nil
  | k + 1, hk => by
    unfold Dist
    rw [ofA, List.pairwise_append]
    refine ⟨ofA_dist ha k (by omega), ?_, fun c hc d hd => ?_⟩
    · unfold chg1; split <;> (try split) <;> simp
    · obtain ⟨i, h1, h2⟩ := (ofA_mem k (by omega)).1 hc
      have := pw_get ha h1 (by omega)
      rw [chg1_id h2, chg1_id hd]; omega
theorem ofB_dist {a b : List Rd} (ha : Pw a) (hb : Pw b) : ∀ k, k ≤ b.length → Dist (ofB a b k)
  | 0, _ => ofA_dist ha _ (Nat.le_refl _)
  | k + 1, hk => by
    unfold Dist
    rw [ofB, List.pairwise_append]
    refine ⟨ofB_dist ha hb k (by omega), ?_, fun c hc d hd => ?_⟩
    · unfold chg2; split <;> simp
    · obtain ⟨e1, e2⟩ := chg2_id hd
      rcases (ofB_mem k (by omega)).1 hc with ⟨i, h1, h2⟩ | ⟨i, h1, h2⟩
      · rw [chg1_id h2, e1]
        intro e
        rw [(is_iff ha _).2 ⟨i, h1, e⟩] at e2
        cases e2
      · have := pw_get hb h1 (by omega)
        rw [(chg2_id h2).1, e1]; omega
def cn (l : List Ch) (h : Int) : Nat := l.countP fun c => decide (c.how = h)
theorem cntH_cn (l : List Ch) (h : Int) : ∀ k, k ≤ l.length → cntH l h k = cn (l.take k) h
  | 0, _ => by simp [cntH, cn]
  | k + 1, hk => by
    have e : l[k]?.toList = [l.getD k default] := by simp [List.getD_eq_getElem?_getD, show k < l.length by omega]
    have ih := cntH_cn l h k (by omega)
    unfold cn at *
    rw [cntH, ih, List.take_add_one, e, List.countP_append, List.countP_singleton]
    simp
theorem of_facts {a b : List Rd} (ha : Pw a) (hb : Pw b) : (∀ c, c ∈ ofL a b ↔ c ∈ ofB a b b.length) ∧ (ofL a b).length = (ofB a b b.length).length ∧ (∀ h, cntH (ofL a b) h (ofL a b).length = cn (ofB a b b.length) h) ∧
    ∀ k, k < (ofL a b).length → 0 < k → ((ofL a b).getD (k - 1) default).id < ((ofL a b).getD k default).id := by
  obtain ⟨hp, hs⟩ := srt_facts cfC swo_ch (ofB a b b.length)
  have hl := srt_len cfC swo_ch (ofB a b b.length)
  have hd : Dist (srt cfC (ofB a b b.length)) := (List.Perm.pairwise_iff (fun h => Ne.symm h) hp).2 (ofB_dist ha hb _ (Nat.le_refl _))
  refine ⟨fun c => hp.mem_iff, hl, fun h => ?_, fun k hk h0 => ?_⟩
  · rw [cntH_cn _ _ _ (Nat.le_refl _), List.take_length]
    exact hp.countP_eq _
  · unfold ofL at hk ⊢
    have h1 := hs (k - 1) k (by omega) (by omega)
    have h2 : ¬ ((srt cfC (ofB a b b.length)).getD k default).id < ((srt cfC (ofB a b b.length)).getD (k - 1) default).id := fun q => by rw [(ltC _ _).2 q] at h1; cases h1
    have h3 := List.pairwise_iff_getElem.1 hd (k - 1) k (by omega) hk (by omega)
    have e1 : (srt cfC (ofB a b b.length)).getD k default = (srt cfC (ofB a b b.length))[k] := by simp [List.getD_eq_getElem?_getD, hk]
    have e2 : (srt cfC (ofB a b b.length)).getD (k - 1) default = (srt cfC (ofB a b b.length))[k - 1] := by simp [List.getD_eq_getElem?_getD, show k - 1 < (srt cfC (ofB a b b.length)).length by omega]
    rw [e1, e2] at h2 ⊢
    omega
/-! ### What the law's loop goes through -/
def idI (a b : List Rd) (i : Nat) : Int := if i < a.length then (a.getD i default).id else (b.getD (i - a.length) default).id
def chI (a b : List Rd) (i : Nat) : List Ch := if i < a.length then chg1 b (a.getD i default) else chg2 a (b.getD (i - a.length) default)
def psI (a b : List Rd) (i : Nat) : List Ch := if i ≤ a.length then ofA a b i else ofB a b (i - a.length)
theorem psI_succ (a b : List Rd) (i : Nat) : psI a b (i + 1) = psI a b i ++ chI a b i := by
  unfold psI chI
  rcases Nat.lt_trichotomy i a.length with q | q | q
  · rw [if_pos (by omega), if_pos (by omega), if_pos q]; rfl
  · subst q
    rw [if_neg (by omega), if_pos (Nat.le_refl _), if_neg (by omega), show a.length + 1 - a.length = 0 + 1 by omega, Nat.sub_self]; rfl
  · rw [if_neg (by omega), if_neg (by omega), if_neg (by omega), show i + 1 - a.length = i - a.length + 1 by omega]; rfl
theorem psI_end (a b : List Rd) : psI a b (a.length + b.length) = ofB a b b.length := by
  unfold psI
  split
  · have hb : b.length = 0 := by omega
    rw [hb, Nat.add_zero]; rfl
  · rw [show a.length + b.length - a.length = b.length by omega]
theorem fnd_not {l : List Rd} (h : Pw l) {id : Int} (hn : isL l id = false) : fnd l id < 0 := fnd_neg.2 fun q => by rw [(is_iff h id).2 q] at hn; cases hn
theorem chI_facts {a b : List Rd} (ha : Pw a) (hb : Pw b) (i : Nat) (hi : i < a.length + b.length) :
    ((howR a b (idI a b i) = 0 ∨ (a.length ≤ i ∧ 0 ≤ fnd a (idI a b i))) → chI a b i = []) ∧
    (¬ (howR a b (idI a b i) = 0 ∨ (a.length ≤ i ∧ 0 ≤ fnd a (idI a b i))) → chI a b i = [⟨idI a b i, howR a b (idI a b i)⟩] ∧ 1 ≤ howR a b (idI a b i) ∧ howR a b (idI a b i) ≤ 3) := by
  unfold chI idI
  by_cases q : i < a.length
  · rw [if_pos q, if_pos q]
    generalize hx : a.getD i default = x
    have hxa : x ∈ a := by rw [← hx]; exact getD_mem q
    have hia : isL a x.id = true := (is_mem ha _).2 ⟨x, hxa, rfl⟩
    obtain ⟨f0, f1⟩ := fnd_bs ha hia
    have hax : a.getD (fnd a x.id).toNat default = x := pw_inj ha (by rw [f1]; exact getD_mem (isL_lt hia)) hxa (fnd_hit f0)
    unfold howR chg1
    rw [if_neg (by omega), if_neg (by omega), hax]
    cases hj : isL b x.id
    · have := fnd_not hb hj
      rw [if_pos this, if_neg (by simp)]
      exact ⟨fun h => by omega, fun _ => ⟨rfl, by omega, by omega⟩⟩
    · obtain ⟨g0, g1⟩ := fnd_bs hb hj
      rw [if_neg (by omega), if_pos rfl, g1]
      split
      · exact ⟨fun _ => rfl, fun h => absurd (.inl rfl) h⟩
      · exact ⟨fun h => by omega, fun _ => ⟨rfl, by omega, by omega⟩⟩
  · rw [if_neg q, if_neg q]
    generalize hx : b.getD (i - a.length) default = x
    have hxb : x ∈ b := by rw [← hx]; exact getD_mem (by omega)
    have hib : isL b x.id = true := (is_mem hb _).2 ⟨x, hxb, rfl⟩
    obtain ⟨f0, f1⟩ := fnd_bs hb hib
    unfold chg2
    cases hj : isL a x.id
    · have h0 := fnd_not ha hj
      unfold howR
      rw [if_neg (by omega), if_pos h0, if_neg (by simp)]
      exact ⟨fun h => by omega, fun _ => ⟨rfl, by omega, by omega⟩⟩
    · obtain ⟨g0, g1⟩ := fnd_bs ha hj
      rw [if_pos rfl]
      exact ⟨fun _ => rfl, fun h => absurd (.inr ⟨by omega, g0⟩) h⟩
theorem chI_mem {a b : List Rd} {i : Nat} (hi : i < a.length + b.length) {c : Ch} (h : c ∈ chI a b i) : c ∈ ofB a b b.length := by
  rw [ofB_mem b.length (Nat.le_refl _)]
  unfold chI at h
  split at h
  · exact .inl ⟨i, by assumption, h⟩
  · exact .inr ⟨i - a.length, by omega, h⟩
theorem psI_len (a b : List Rd) : ∀ i, (psI a b i).length ≤ i
  | 0 => by simp [psI, ofA]
  | i + 1 => by
    have := psI_len a b i
    rw [psI_succ, List.length_append]
    have : (chI a b i).length ≤ 1 := by
      unfold chI
      split
      · exact chg1_len _ _
      · exact chg2_len _ _
    omega
end Go.Proofs.Ytekfaocnlejgaaa

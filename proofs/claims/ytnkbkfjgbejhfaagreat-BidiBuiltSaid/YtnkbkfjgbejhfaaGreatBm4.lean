/-
  THE ENGINE, part 4: an abstract machine of symbolic values, each step proved sound.
-/
import Derived.Test.YtnkbkfjgbejhfaaGreatBm3
import Derived.Deep.Slices
set_option linter.unusedSimpArgs false
set_option linter.unusedSectionVars false
set_option linter.unusedVariables false
namespace Go.Proofs.YtnkbkfjgbejhfaaGreat.Am
variable [Inhabited DRT]
open Go.RowKit (Below)
/-! ### A drawn region whose last operations come one behind the other -/
def covB : Nat → Nat → Bool
 | 0, _ => true
 | j + 1, mk => mk.testBit j && covB j mk
def seqB.go (n : Nat) : Nat → List Nat → Bool
 | _, [] => true
 | j, mk :: l => (decide (j < n) || covB j mk) && seqB.go n (j + 1) l
def seqB (n : Nat) (ops : List Oper) : Bool := backB 0 ops && seqB.go n 0 (masks [] ops)
theorem covB_spec : ∀ (j mk : Nat), covB j mk = true → ∀ i, i < j → mk.testBit i = true
 | 0, _, _, i, h => by omega
 | j + 1, mk, h, i, hi => by
  unfold covB at h
  rw [Bool.and_eq_true] at h
  by_cases e : i = j
  ·subst e; exact h.1
  ·exact covB_spec j mk h.2 i (by omega)
theorem seqB_go (n : Nat) : ∀ (l : List Nat) (k : Nat), seqB.go n k l = true → ∀ j, j < l.length → n ≤ k + j → ∀ i, i < k + j → (l.getD j 0).testBit i = true
 | [], _, _, j, hj, _, _, _ => by simp at hj
 | mk :: l, k, h, j, hj, hn, i, hi => by
  unfold seqB.go at h
  rw [Bool.and_eq_true] at h
  cases j with
  | zero =>
   have h1 := h.1
   rw [decide_eq_false (by omega), Bool.false_or] at h1
   exact covB_spec _ _ h1 i hi
  | succ j =>
   have := seqB_go n l (k + 1) h.2 j (by simpa using hj) (by omega) i (by omega)
   simpa using this
section
variable {c : Ctx} {P : Program} {tt : TT} {G : GInv} {ops : List Oper} {Q : Exit → Act → World → Prop}
theorem seqB_spec {n : Nat} (h : seqB n ops = true) {S : Nat → Bool} (hS : DC S ops) {i j : Nat} (hj : j < ops.length) (hn : n ≤ j) (hi : i < j) (hSj : S j = true) : S i = true := by
 unfold seqB at h
 rw [Bool.and_eq_true] at h
 have hml : (masks [] ops).length = ops.length := by rw [masks_len]; simp
 have := seqB_go n (masks [] ops) 0 h.2 j (by omega) (by omega) i (by omega)
 exact masks_bit ops [] (by intro j i hb; simp at hb) (fun j o ho hSj => hS j o ho (by simpa using hSj)) j i this hSj
theorem dc_add {L : Array Bool} (_hL : L.size = ops.length) (hDC : DC (listedS L) ops) {i : Nat} (hi : i ∈ Region.ready .any ops.toArray L) : i < L.size ∧ listedS L i = false ∧ ops[i]? ≠ none ∧ (∀ j, listedS (L.setIfInBounds i true) j = (listedS L j || j == i)) ∧ DC (listedS (L.setIfInBounds i true)) ops := by
 rw [mem_ready] at hi
 obtain ⟨hiL, o, ho, hed⟩ := hi
 have hilt : i < L.size := by
  rcases Nat.lt_or_ge i L.size with h' | h'
  ·exact h'
  ·simp [Array.getD_eq_getD_getElem?, h'] at hiL
 have hSi : listedS L i = false := by
  unfold listedS; simp [Array.getD_eq_getD_getElem?, hilt] at hiL ⊢; exact hiL
 have ho' : ops[i]? = some o := by simpa using ho
 have hS' : ∀ j, listedS (L.setIfInBounds i true) j = (listedS L j || j == i) := by
  intro j
  unfold listedS
  by_cases hj : j = i
  ·subst hj; simp [Array.getD_eq_getD_getElem?, hilt]
  ·simp [Array.getD_eq_getD_getElem?, hj, Ne.symm hj]
 refine ⟨hilt, hSi, by rw [ho']; simp, hS', ?_⟩
 intro j oj hj hSj e he hb
 rw [hS'] at hSj ⊢
 rw [Bool.or_eq_true] at hSj ⊢
 rcases hSj with hSj | hSj
 ·exact .inl (hDC j oj hj hSj e he hb)
 ·have : j = i := by simpa using hSj
  subst this
  rw [ho'] at hj; cases hj
  exact .inl (hed e he hb)
theorem least_ready {L : Array Bool} (hL : L.size = ops.length) (hback : backB 0 ops = true) {k : Nat} (hk : k < ops.length) (hSk : listedS L k = false) : ∃ i, i ≤ k ∧ i ∈ Region.ready .any ops.toArray L := by
 induction k using Nat.strongRecOn with
 | _ k ih =>
  by_cases hc : ∃ j, j < k ∧ listedS L j = false
  ·obtain ⟨j, hj, hSj⟩ := hc
   obtain ⟨i, hi, hr⟩ := ih j hj (by omega) hSj
   exact ⟨i, by omega, hr⟩
  ·refine ⟨k, Nat.le_refl _, ?_⟩
   rw [mem_ready]
   have hkL : k < L.size := by omega
   refine ⟨?_, ops[k], by simp [hk], ?_⟩
   ·unfold listedS at hSk
    simp [Array.getD_eq_getD_getElem?, hkL] at hSk ⊢; exact hSk
   ·intro e he hb
    have := backB_spec ops 0 hback k ops[k] (List.getElem?_eq_getElem hk) e he hb
    cases hSe : listedS L e.on with
    | true => exact hSe
    | false => exact absurd ⟨e.on, by omega, hSe⟩ hc
theorem unl_zero {L : Array Bool} (h : unl L = 0) {i : Nat} (hi : i < L.size) : listedS L i = true := by
 cases hS : listedS L i with
 | true => rfl
 | false =>
  have hf : L[i] = false := by unfold listedS at hS; simpa [Array.getD_eq_getD_getElem?, hi] using hS
  have := unl_set hi hf
  omega

theorem seq_sound (htt : TTok P tt) (hG : G.ok c) {n : Nat} (hseq : seqB n ops = true) {QA : List A → List Blk → Prop} (hQ : ∀ s m a w ids, QA s m → Sim c s m a w ids → Q .normal a w) :
  ∀ (rest : List Oper) (j : Nat), n ≤ j → rest = ops.drop j → ∀ (fuel : Nat) (L : Array Bool) (s : List A) (m : List Blk) (a : Act) (w : World) (ids : Ids), L.size = ops.length → unl L ≤ fuel → (∀ i, i < ops.length → listedS L i = decide (i < j)) → DC (listedS L) ops →
   Sim c s m a w ids → runL P G tt ops rest s m QA → wpAny P .any ops.toArray Q fuel L a w := by
 have hback : backB 0 ops = true := by unfold seqB at hseq; rw [Bool.and_eq_true] at hseq; exact hseq.1
 intro rest
 induction rest with
 | nil =>
  intro j hn hr fuel L s m a w ids hL hf hS hDC hs h
  have hj : ops.length ≤ j := by
   have := congrArg List.length hr
   simp at this; omega
  have hr0 : Region.ready .any ops.toArray L = [] := by
   apply List.eq_nil_iff_forall_not_mem.2
   intro i hi
   obtain ⟨h1, h2, _⟩ := dc_add hL hDC hi
   rw [hS i (by omega)] at h2
   simp at h2; omega
  cases fuel with
  | zero => exact ⟨hr0, hQ _ _ _ _ _ h hs⟩
  | succ fuel => exact ⟨fun _ => hQ _ _ _ _ _ h hs, fun i hi => by rw [hr0] at hi; cases hi⟩
 | cons o rest ih =>
  intro j hn hr fuel L s m a w ids hL hf hS hDC hs h
  have hj : j < ops.length := by
   rcases Nat.lt_or_ge j ops.length with h' | h'
   ·exact h'
   ·rw [List.drop_eq_nil_of_le h'] at hr; cases hr
  have hoj : ops[j]? = some o := by
   have : (ops.drop j)[0]? = some o := by rw [← hr]; rfl
   simpa using this
  have hrest : rest = ops.drop (j + 1) := by
   have : (ops.drop j).tail = rest := by rw [← hr]; rfl
   rw [← this, List.tail_drop]
  have hSj : listedS L j = false := by rw [hS j hj]; simp
  cases fuel with
  | zero =>
   have := unl_zero (L := L) (by omega) (i := j) (by omega)
   rw [hSj] at this; cases this
  | succ fuel =>
   refine ⟨fun h0 => ?_, fun i hi => ?_⟩
   ·obtain ⟨i, _, hi⟩ := least_ready hL hback hj hSj
    rw [h0] at hi; cases hi
   ·obtain ⟨h1, h2, _, h4, h5⟩ := dc_add hL hDC hi
    have hij : i = j := by
     have hge : j ≤ i := by
      rcases Nat.lt_or_ge i j with h' | h'
      ·rw [hS i (by omega), decide_eq_true h'] at h2; cases h2
      ·exact h'
     rcases Nat.lt_or_ge j i with h' | h'
     ·have := seqB_spec hseq h5 (i := j) (j := i) (by omega) (by omega) h' (by rw [h4]; simp)
      rw [h4, hSj] at this
      simp at this; omega
     ·omega
    subst hij
    have hS' : ∀ k, k < ops.length → listedS (L.setIfInBounds i true) k = decide (k < i + 1) := by
     intro k hk
     rw [h4, hS k hk]
     by_cases e : k = i
     ·subst e; simp
     ·have : (k == i) = false := by simpa using e
      rw [this, Bool.or_false]
      exact decide_eq_decide.2 (by omega)
    have hun : unl (L.setIfInBounds i true) ≤ fuel := by
     have hf' : L[i] = false := by unfold listedS at h2; simpa [Array.getD_eq_getD_getElem?, h1] using h2
     have := unl_set h1 hf'
     omega
    have go : ∀ s m a w ids, Sim c s m a w ids → runL P G tt ops rest s m QA → wpAny P .any ops.toArray Q fuel (L.setIfInBounds i true) a w :=
     fun s m a w ids hs h => ih (i + 1) (by omega) hrest fuel _ s m a w ids (by simp [hL]) hun hS' h5 hs h
    unfold wpOp
    have : ops.toArray[i]? = some o := by simpa using hoj
    rw [this]
    simp only
    have exec : ∀ s, Sim c s m a w ids → (stepM P G tt o s m fun s1 v m' => putF s1 o.dst v fun s' => runL P G tt ops rest s' m' QA) → o.wp P a w (wpAny P .any ops.toArray Q fuel (L.setIfInBounds i true)) Q := by
     intro s hs h
     refine stepM_sound htt hG hs h ?_
     intro s1 v m' a' w' ids' hk hs'
     rw [putF_eq] at hk
     exact go _ _ _ _ _ hs' hk
    have skip : ∀ s, Sim c s m a w ids → (putF s o.dst (.tup []) fun s' => runL P G tt ops rest s' m QA) → wpAny P .any ops.toArray Q fuel (L.setIfInBounds i true) (a.put o.dst undef) w := by
     intro s hs h
     rw [putF_eq] at h
     exact go _ _ _ _ _ (hs.putD o.dst (.imm (.tup [] [] rfl (fun _ h => by simp at h)))) h
    unfold runL at h
    split at h
    ·rename_i hg
     have : Region.wanted o (yielded ops.toArray a.tmps) = true := by unfold Region.wanted; rw [hg]
     rw [if_pos this]
     exact .inl (exec s hs h)
    ·rename_i k want hg
     have hw : Region.wanted o (yielded ops.toArray a.tmps) = (yielded ops.toArray a.tmps k == some want) := by unfold Region.wanted; rw [hg]
     rw [hw]
     unfold guard1 at h
     split at h
     ·exact h.elim
     ·rename_i d hd
      have hev := hs.ev (.tmp d)
      simp only [ev, Act.eval] at hev
      split at h
      ·rename_i b hb; rw [hb] at hev
       rw [yielded_eq hd hev.bool_inv]
       split at h
       ·exact .inl (exec s hs h)
       ·exact .inl (exec s hs h)
       ·exact skip s hs h
       ·exact skip s hs h
      ·rename_i b hb; rw [hb] at hev
       have hbv := hev.sb_inv
       rw [yielded_eq hd hbv]
       have hsim : ∀ b', b = b' → Sim c (s.set d (.bool b')) m a w ids := by
        intro b' e; subst e; exact hs.reslot d (by rw [hbv]; exact .imm (.bool _))
       rw [setF_eq, setF_eq, setF_eq, setF_eq] at h
       split at h
       ·cases b
        ·exact skip _ (hsim false rfl) (h.2 rfl)
        ·exact .inl (exec _ (hsim true rfl) (h.1 rfl))
       ·cases b
        ·exact .inl (exec _ (hsim false rfl) (h.1 rfl))
        ·exact skip _ (hsim true rfl) (h.2 rfl)
      ·rename_i vs hb; rw [hb] at hev
       split at h
       ·obtain ⟨us, hu, hu2, _⟩ := hev.tup_inv
        have hu3 : us = [] := by simpa using hu2
        subst hu3
        have hy : yielded ops.toArray a.tmps k = none := by
         unfold yielded
         have h1 : (ops.toArray[k]?).bind (·.dst) = some d := by simpa [gslot] using hd
         rw [h1]
         rcases Nat.lt_or_ge d a.tmps.size with h | h
         ·have h2 : a.tmps[d]? = some (.tuple #[]) := by simpa [Array.getD_eq_getD_getElem?, h] using hu
          simp [h2]
         ·simp [h]
        rw [hy]
        exact skip s hs h
       ·exact h.elim
      ·exact h.elim

theorem pre_sound (htt : TTok P tt) (hG : G.ok c) {n : Nat} (hnl : n ≤ ops.length) (hseq : seqB n ops = true) {l : Recs} {s : List A} {m : List Blk} (h : Hyp P G tt (ops.take n) l s m)
  (hQ : ∀ fuel L a w ids, L.size = ops.length → unl L ≤ fuel → (∀ i, i < ops.length → listedS L i = decide (i < n)) → DC (listedS L) ops → Sim c (slS allS 0 l s) (blS allS 0 l m) a w ids → wpAny P .any ops.toArray Q fuel L a w) :
  ∀ (fuel : Nat) (L : Array Bool) (a : Act) (w : World) (ids : Ids), L.size = ops.length → unl L ≤ fuel → DC (listedS L) ops → (∀ i, n ≤ i → listedS L i = false) →
   Sim c (slS (listedS L) 0 l s) (blS (listedS L) 0 l m) a w ids → wpAny P .any ops.toArray Q fuel L a w := by
 have hlen : l.length = n := by
  have : (l.map (·.1)).length = (ops.take n).length := by rw [h.ops_eq]
  simpa [hnl] using this
 have hback : backB 0 ops = true := by unfold seqB at hseq; rw [Bool.and_eq_true] at hseq; exact hseq.1
 have tk : ∀ {S : Nat → Bool}, DC S ops → DC S (ops.take n) := fun hd j o hj => hd j o (by
  rw [List.getElem?_take] at hj
  split at hj
  ·exact hj
  ·cases hj)
 have gs : ∀ {j d : Nat}, gslot (ops.take n) j = some d → gslot ops j = some d := fun {j d} hg => by
  unfold gslot at hg ⊢
  rw [List.getElem?_take] at hg
  split at hg
  ·exact hg
  ·cases hg
 have full : ∀ (L : Array Bool) (a : Act) (w : World) (ids : Ids), (∀ j, j < n → listedS L j = true) → Sim c (slS (listedS L) 0 l s) (blS (listedS L) 0 l m) a w ids → Sim c (slS allS 0 l s) (blS allS 0 l m) a w ids := by
  intro L a w ids all hs
  have e1 : slS (listedS L) 0 l s = slS allS 0 l s := by
   apply ext_getD (by simp [slS_len])
   intro t
   refine slS_congr _ _ t l 0 s s rfl rfl ?_
   intro j o r hj _
   have : j < l.length := by
    rcases Nat.lt_or_ge j l.length with h' | h'
    ·exact h'
    ·rw [List.getElem?_eq_none h'] at hj; cases hj
   simp only [Nat.zero_add, allS]; exact all j (by omega)
  have e2 : blS (listedS L) 0 l m = blS allS 0 l m := by
   apply ext_getB (by simp [blS_len])
   intro t
   refine blS_congr _ _ t l 0 m m rfl rfl ?_
   intro j o r x hj _
   have : j < l.length := by
    rcases Nat.lt_or_ge j l.length with h' | h'
    ·exact h'
    ·rw [List.getElem?_eq_none h'] at hj; cases hj
   simp only [Nat.zero_add, allS]; exact all j (by omega)
  rw [e1, e2] at hs
  exact hs
 have one : ∀ (L : Array Bool) (a : Act) (w : World) (ids : Ids) (i : Nat), L.size = ops.length → DC (listedS L) ops → i < n →
   Sim c (slS (listedS L) 0 l s) (blS (listedS L) 0 l m) a w ids → i ∈ Region.ready .any ops.toArray L → ∀ K : Act → World → Prop,
   (∀ a w ids, DC (listedS (L.setIfInBounds i true)) ops → Sim c (slS (listedS (L.setIfInBounds i true)) 0 l s) (blS (listedS (L.setIfInBounds i true)) 0 l m) a w ids → K a w) → wpOp P ops.toArray Q i K a w := by
  intro L a w ids i hL hDC hin hs hi K hK
  rw [mem_ready] at hi
  obtain ⟨hiL, o, ho, hed⟩ := hi
  have hilt : i < L.size := by
   rcases Nat.lt_or_ge i L.size with h' | h'
   ·exact h'
   ·simp [Array.getD_eq_getD_getElem?, h'] at hiL
  have hSi : listedS L i = false := by
   unfold listedS; simp [Array.getD_eq_getD_getElem?, hilt] at hiL ⊢; exact hiL
  have ho' : ops[i]? = some o := by simpa using ho
  have hot : (ops.take n)[i]? = some o := by rw [List.getElem?_take, if_pos hin]; exact ho'
  obtain ⟨r, hk⟩ := h.op_get hot
  have hS' : ∀ j, listedS (L.setIfInBounds i true) j = (listedS L j || j == i) := by
   intro j
   unfold listedS
   by_cases hj : j = i
   ·subst hj; simp [Array.getD_eq_getD_getElem?, hilt]
   ·simp [Array.getD_eq_getD_getElem?, hj, Ne.symm hj]
  have hDC' : DC (listedS (L.setIfInBounds i true)) ops := by
   intro j oj hj hSj e he hb
   rw [hS'] at hSj ⊢
   rw [Bool.or_eq_true] at hSj ⊢
   rcases hSj with hSj | hSj
   ·exact .inl (hDC j oj hj hSj e he hb)
   ·have : j = i := by simpa using hSj
    subst this
    rw [ho'] at hj; cases hj
    exact .inl (hed e he hb)
  obtain ⟨hlk, hbk⟩ := h.looks (tk hDC) hk hSi (fun i' hi' hne => by
   have := hi' _ (tk hDC') (by rw [hS']; simp)
   rw [hS', Bool.or_eq_true] at this
   rcases this with h1 | h1
   ·exact h1
   ·exact absurd (by simpa using h1) hne)
  obtain ⟨hgd, hex, hsk⟩ := Ch_get l s m h.ch i o r hk
  have hadd1 : slS (listedS (L.setIfInBounds i true)) 0 l s = putD (slS (listedS L) 0 l s) o.dst r.v :=
   slS_add _ _ l i s o r hk hS' hSi (fun j o' r' hj hjj hdd hne => by
    cases hSj : listedS L j with
    | false => rfl
    | true =>
     have := h.bound (tk hDC) hk hjj hj (by
      simp only [conf, Bool.or_eq_true]
      refine .inl (.inl (.inl (.inl (.inr ?_))))
      rw [hdd]
      cases hd : o.dst with
      | none => exact absurd hd hne
      | some d => simp only [sameS]; exact Nat.beq_refl _) hSj
     rw [hSi] at this; cases this)
  have hadd2 : blS (listedS (L.setIfInBounds i true)) 0 l m = updB (blS (listedS L) 0 l m) r.oc.u :=
   blS_add _ _ l i m o r hk hS' hSi (fun j o' r' b x x' hj hjj hu hu' => by
    cases hSj : listedS L j with
    | false => rfl
    | true =>
     have := h.bound (tk hDC) hk hjj hj (by
      simp only [conf, Bool.or_eq_true]
      exact .inl (.inr (meetL_mem (lookup_fp hu') (lookup_fp hu)))) hSj
     rw [hSi] at this; cases this)
  unfold wpOp
  rw [ho]
  simp only
  have wanted : Region.wanted o (yielded ops.toArray a.tmps) = r.ex := by
   unfold Region.wanted
   unfold Gd at hgd
   split at hgd
   ·rename_i hg; rw [hg]; simp [hgd]
   ·rename_i j want hg
    have hld : ∀ d, gslot (ops.take n) j = some d → d ∈ o.looksAt (ops.take n).toArray := by
     intro d g1
     unfold Oper.looksAt
     rw [hg]
     have : ((ops.take n).toArray[j]?).bind (·.dst) = some d := by simpa [gslot] using g1
     simp only [this]
     simp
    rcases hgd with ⟨d, b, g1, g2, g3⟩ | ⟨d, g1, g2, g3⟩
    ·rw [hg]
     simp only
     have hev := hs.ev (.tmp d)
     simp only [ev, Act.eval] at hev
     rw [hlk d (hld d g1), g2] at hev
     rw [yielded_eq (gs g1) hev.bool_inv, g3]
     cases b <;> cases want <;> rfl
    ·rw [hg]
     simp only
     have hev := hs.ev (.tmp d)
     simp only [ev, Act.eval] at hev
     rw [hlk d (hld d g1), g2] at hev
     obtain ⟨us, hu, hu2, _⟩ := hev.tup_inv
     have hu3 : us = [] := by simpa using hu2
     subst hu3
     have hy : yielded ops.toArray a.tmps j = none := by
      unfold yielded
      have h1 : (ops.toArray[j]?).bind (·.dst) = some d := by simpa [gslot] using gs g1
      rw [h1]
      rcases Nat.lt_or_ge d a.tmps.size with h | h
      ·have h2 : a.tmps[d]? = some (.tuple #[]) := by simpa [Array.getD_eq_getD_getElem?, h] using hu
       simp [h2]
      ·simp [h]
     rw [hy, g3]; rfl
  rw [wanted]
  cases hrex : r.ex with
  | false =>
   obtain ⟨q1, q2, q3⟩ := hsk hrex
   rw [if_neg (by simp)]
   refine hK _ w ids hDC' ?_
   rw [hadd1, hadd2, q1, q2]
   exact hs.putD o.dst (.imm (.tup [] [] rfl (fun _ h => by simp at h)))
  | true =>
   rw [if_pos rfl]
   obtain ⟨⟨aid', hout⟩, href⟩ := hex hrex
   left
   have hloc : Out P G tt o aid' (slS (listedS L) 0 l s) (blS (listedS L) 0 l m) r.oc := by
    refine hout.local ?_ ?_ (by simp [blS_len])
    ·intro x hx
     cases x with
     | tmp t =>
      have : t ∈ o.looksAt (ops.take n).toArray := by
       unfold Oper.looksAt
       refine List.mem_append.2 (.inl ?_)
       rw [List.mem_filterMap]
       exact ⟨.tmp t, by simpa using hx, rfl⟩
      simp only [ev]; exact (hlk t this).symm
     | const v => rfl
     | global g => rfl
     | func f => rfl
    ·intro b hb; exact (hbk b (.inl hb)).symm
   refine Out_sound htt hG hs hloc ?_
   intro a' w' ids' hs'
   refine hK a' w' ids' hDC' ?_
   rw [hadd1, hadd2]
   exact hs'.refine href
 intro fuel
 induction fuel with
 | zero =>
  intro L a w ids hL hu hDC hno hs
  have all : ∀ j, j < ops.length → listedS L j = true := fun j hj => unl_zero (by omega) (by omega)
  refine hQ 0 L a w ids hL hu (fun i hi => ?_) hDC (full L a w ids (fun j hj => all j (by omega)) hs)
  rw [all i hi]
  refine (decide_eq_true ?_).symm
  rcases Nat.lt_or_ge i n with h' | h'
  ·exact h'
  ·have := hno i h'; rw [all i hi] at this; cases this
 | succ fuel ih =>
  intro L a w ids hL hu hDC hno hs
  by_cases hall : ∀ j, j < n → listedS L j = true
  ·refine hQ (fuel + 1) L a w ids hL hu (fun i hi => ?_) hDC (full L a w ids hall hs)
   rcases Nat.lt_or_ge i n with h' | h'
   ·rw [hall i h', decide_eq_true h']
   ·rw [hno i h', decide_eq_false (by omega)]
  ·have hex : ∃ k, k < n ∧ listedS L k = false := by
    refine Classical.byContradiction fun hn => hall fun j hj => ?_
    cases hS : listedS L j with
    | true => rfl
    | false => exact absurd ⟨j, hj, hS⟩ hn
   obtain ⟨k, hk, hSk⟩ := hex
   refine ⟨fun h0 => ?_, ?_⟩
   ·obtain ⟨i, _, hi⟩ := least_ready hL hback (by omega) hSk
    rw [h0] at hi; cases hi
   ·intro i hi
    obtain ⟨h1, h2, _, h4, h5⟩ := dc_add hL hDC hi
    have hin : i < n := by
     rcases Nat.lt_or_ge i n with h' | h'
     ·exact h'
     ·have := seqB_spec hseq h5 (i := k) (j := i) (by omega) h' (by omega) (by rw [h4]; simp)
      rw [h4, hSk] at this
      simp at this; omega
    refine one L a w ids i hL hDC hin hs hi _ ?_
    intro a' w' ids' hDC' hs'
    refine ih _ a' w' ids' (by simp [hL]) ?_ hDC' ?_ hs'
    ·have hf' : L[i] = false := by unfold listedS at h2; simpa [Array.getD_eq_getD_getElem?, h1] using h2
     have := unl_set h1 hf'
     omega
    ·intro j hj
     rw [h4, hno j hj]
     simp; omega

/-- A drawn region: its first n operations in any order, the others one behind the other. -/
theorem WA_drawB (n : Nat) (rv : List (Nat × Nat)) (htt : TTok P tt) (hm : P.follows .mixedOrders = true) {QA : Exit → List A → List Blk → Prop} {s : List A} {m : List Blk} {id : Nat} {l : List Oper}
  (hn : Nat.ble n l.length = true) (hseq : seqB n l = true)
  (h : extB (nAlloc (l.take n) + nRv rv) m fun m' => fnat m.length fun b => runD P G tt (l.take n) rv (l.take n) 0 b s m' fun s' m'' fps => indepB (l.take n) fps = true ∧ runL P G tt l (l.drop n) s' m'' (QA .normal)) : WA P G (.region id l.toArray true) QA s m := by
 have hnl : n ≤ l.length := Nat.le_of_ble_eq_true hn
 rw [extB_eq, fnat_eq] at h
 obtain ⟨recs, h1, h2, h3, h4⟩ := runD_ch rv (l.take n) 0 _ _ _ _ h
 unfold WA
 intro c a w ids hG hs
 refine wp_region_any hm ?_
 have hb : Bw w.heap.size w { w with drawn := w.drawn + 1 } := ⟨rfl, rfl, rfl, Nat.le_refl _, fun _ _ => rfl, drLe.succ _⟩
 have hs' : Sim c s (m ++ List.replicate (nAlloc (l.take n) + nRv rv) .dead) a { w with drawn := w.drawn + 1 } (ids ++ List.replicate (nAlloc (l.take n) + nRv rv) .dead) := by
  refine hs.grow hb _ _ (by simp) ?_ ?_ ?_ ?_
  ·intro i g1 g2; simp only [List.getElem_replicate]; rfl
  ·intro p hp; rw [List.mem_replicate] at hp; cases hp.2
  ·intro p hp; rw [List.mem_replicate] at hp; cases hp.2
  ·intro i j p q x g1 g2 _ _; rw [List.getElem?_replicate] at g1; split at g1 <;> cases g1
 have hyp : Hyp P G tt (l.take n) recs s (m ++ List.replicate (nAlloc (l.take n) + nRv rv) .dead) := ⟨h1, h2, h3⟩
 have hz : ∀ j, listedS (Array.replicate l.toArray.size false) j = false := by
  intro j; unfold listedS; simp [Array.getD_eq_getD_getElem?, Array.getElem?_replicate]; split <;> rfl
 have hid1 : ∀ (r : Recs) (i : Nat) (s : List A), slS (listedS (Array.replicate l.toArray.size false)) i r s = s := by
  intro r; induction r with
  | nil => intros; rfl
  | cons p r ih => intro i s; rw [slS]; simp only [hz]; exact ih _ _
 have hid2 : ∀ (r : Recs) (i : Nat) (m : List Blk), blS (listedS (Array.replicate l.toArray.size false)) i r m = m := by
  intro r; induction r with
  | nil => intros; rfl
  | cons p r ih => intro i s; rw [blS]; simp only [hz]; exact ih _ _
 refine pre_sound htt hG hnl hseq hyp (fun fuel L a w ids g1 g2 g3 g4 g5 => seq_sound (n := n) htt hG hseq (QA := QA .normal) (fun s m a w ids hq hs => ⟨_, _, ids, hq, hs⟩) (l.drop n) n (Nat.le_refl _) rfl fuel L _ _ a w ids g1 g2 g3 g4 g5 h4) _ _ a _ _ (by simp) ?_ ?_ (fun i _ => hz i) (by rw [hid1, hid2]; exact hs')
 ·unfold unl; simp
  rw [List.countP_replicate]; simp
 ·intro j o _ hS; rw [hz] at hS; cases hS
end
end Go.Proofs.YtnkbkfjgbejhfaaGreat.Am
namespace Go.Proofs.YtnkbkfjgbejhfaaGreat.Am
variable [Inhabited DRT]
open Go.RowKit (Below)
/-! ### A map of ours whose entries are tracked from here on -/
abbrev idR : Ren := renAll some
def trkF (b : Nat) (s : List A) (m : List Blk) (K : List A → List Blk → Prop) : Prop :=
 match m.getD b .dead with
 | .mapb g n h v => fd.fdl 4 (s.map (renA idR 4)) fun s' => fbs ((m.map (renB idR 4)).set b (.mapx g n h v)) fun m' => K s' m'
 | _ => False
section
variable {c : Ctx} {s : List A} {m : List Blk} {a : Act} {w w' : World} {ids ids' : Ids} {P : Program} {G : GInv}
open Classical in
theorem trkF_sound (hs : Sim c s m a w ids) {b : Nat} {K : List A → List Blk → Prop} (h : trkF b s m K) : ∃ s' m' ids', K s' m' ∧ Sim c s' m' a w ids' := by
 unfold trkF at h
 split at h
 ·rename_i g sh has val hmb
  rw [fdl_eq, fbs_eq] at h
  have hb : b < m.length := by
   rcases Nat.lt_or_ge b m.length with h' | h'
   ·exact h'
   ·rw [List.getD_eq_getElem?_getD, List.getElem?_eq_none h'] at hmb; cases hmb
  have hbi : b < ids.length := by rw [hs.mlen]; exact hb
  have hm : m[b] = .mapb g sh has val := by rw [List.getD_eq_getElem?_getD, List.getElem?_eq_getElem hb] at hmb; simpa using hmb
  have hB := hs.blks b hb hbi
  rw [hm] at hB
  cases hp : ids[b] with
  | dead => rw [hp] at hB; exact hB.elim
  | stale => rw [hp] at hB; exact hB.elim
  | virt => rw [hp] at hB; exact hB.elim
  | gho vs => rw [hp] at hB; exact hB.elim
  | lv p =>
   rw [hp] at hB
   obtain ⟨es, clock, f, q1, q2, q3, q4, q5, q6, q7⟩ := hB
   have hid : ids[b]? = some (.lv p) := by rw [List.getElem?_eq_getElem hbi, hp]
   have hex : ∃ hi : Nat → Option (List KC), (∀ i (h : i < es.size), hi es[i].born = some (f i)) ∧ (∀ n, clock ≤ n → hi n = none) ∧ ∀ n k, hi n = some k → ∃ i, ∃ (h : i < es.size), es[i].born = n ∧ f i = k := by
    refine ⟨fun n => if hx : ∃ i, ∃ (h : i < es.size), es[i].born = n then some (f (Classical.choose hx)) else none, fun i h => ?_, fun n hn => ?_, fun n k hk => ?_⟩
    ·have hx : ∃ j, ∃ (h' : j < es.size), es[j].born = es[i].born := ⟨i, h, rfl⟩
     show (if hx : ∃ j, ∃ (h : j < es.size), es[j].born = es[i].born then some (f (Classical.choose hx)) else none) = _
     rw [dif_pos hx]
     obtain ⟨h', e⟩ := Classical.choose_spec hx
     rw [q7 _ _ h' h e]
    ·show (if hx : ∃ j, ∃ (h : j < es.size), es[j].born = n then some (f (Classical.choose hx)) else none) = _
     rw [dif_neg]
     rintro ⟨j, h', e⟩
     have := q6 j h'; omega
    ·have hk : (if hx : ∃ j, ∃ (h : j < es.size), es[j].born = n then some (f (Classical.choose hx)) else none) = some k := hk
     split at hk
     ·rename_i hx
      obtain ⟨h', e⟩ := Classical.choose_spec hx
      exact ⟨_, h', e, Option.some.inj hk⟩
     ·cases hk
   obtain ⟨hi, k1, k2, k3⟩ := hex
   let p' : Id := ⟨p.blk, p.k, p.n, p.sz, p.kid, hi⟩
   have hsame : ∀ x, p'.has x ↔ p.has x := fun x => Iff.rfl
   have get_b : (ids.set b (.lv p'))[b]? = some (.lv p') := by rw [List.getElem?_set_self hbi]
   have get_o : ∀ k, k ≠ b → (ids.set b (.lv p'))[k]? = ids[k]? := fun k hk => by rw [List.getElem?_set_ne (fun e => hk e.symm)]
   have mem : ∀ (k : Nat) (r : Id), (ids.set b (.lv p'))[k]? = some (.lv r) → (k = b ∧ r = p') ∨ (k ≠ b ∧ ids[k]? = some (.lv r)) := by
    intro k r h
    by_cases e : k = b
    ·subst e; rw [get_b] at h; cases h; exact .inl ⟨rfl, rfl⟩
    ·rw [get_o k e] at h; exact .inr ⟨e, h⟩
   have hown : ∀ r, IdE.lv r ∈ ids.set b (.lv p') → ∀ x, r.has x → x < w.heap.size ∧ (w.heap.size ≤ x ∨ ∃ (b : Nat) (p : Id), ids[b]? = some (.lv p) ∧ p.has x) := by
    intro r hr y hy
    obtain ⟨k, hk⟩ := List.getElem?_of_mem hr
    rcases mem k r hk with ⟨_, rfl⟩ | ⟨_, e⟩
    ·exact ⟨(hs.freshX p (List.mem_of_getElem? hid) y hy).2, .inr ⟨b, p, hid, hy⟩⟩
    ·exact ⟨(hs.freshX r (List.mem_of_getElem? e) y hy).2, .inr ⟨k, r, e, hy⟩⟩
   obtain ⟨hi1, hi2⟩ := hs.im_stays (w' := w) (ids' := ids.set b (.lv p')) (Nat.le_refl _) (fun _ _ _ => rfl) hown
   have hτ : RenOk idR ids (ids.set b (.lv p')) := by
    have lvc : ∀ (b1 : Nat) (q : Id), ids[b1]? = some (.lv q) → ∃ p2 : Id, (ids.set b (.lv p'))[b1]? = some (.lv p2) ∧ p2.blk = q.blk ∧ p2.k = q.k ∧ p2.n = q.n ∧ p2.sz = q.sz := by
     intro b1 q hq
     by_cases e : b1 = b
     ·subst e; rw [hid] at hq; cases hq; exact ⟨p', get_b, rfl, rfl, rfl, rfl⟩
     ·exact ⟨q, by rw [get_o b1 e]; exact hq, rfl, rfl, rfl, rfl⟩
    have stc : ∀ b1 : Nat, ids[b1]? = some .stale → (ids.set b (.lv p'))[b1]? = some .stale := by
     intro b1 hq
     by_cases e : b1 = b
     ·subst e; rw [hid] at hq; cases hq
     ·rw [get_o b1 e]; exact hq
    refine ⟨fun b1 b2 q h1 h2 => ?_, fun b1 b2 q h1 h2 hnd => ?_, fun b1 b2 q h1 h2 => ?_, fun b1 b2 h1 h2 => ?_, fun b1 b2 h1 h2 => ?_⟩
    all_goals cases h1
    ·obtain ⟨p2, e1, e2, _⟩ := lvc _ _ h2; exact ⟨p2, e1, e2⟩
    ·by_cases e : b1 = b
     ·subst e; rw [hid] at h2; cases h2
      exact ⟨_, get_b, p', rfl, rfl, rfl, rfl, rfl⟩
     ·exact ⟨q, by rw [get_o b1 e]; exact h2, likeE0_rfl q⟩
    ·obtain ⟨p2, e1, e2, _⟩ := lvc _ _ h2; exact ⟨p2, e1, e2⟩
    ·exact stc _ h2
    ·exact stc _ h2
   refine ⟨_, _, ids.set b (.lv p'), h, hs.goOn rfl rfl rfl (Nat.le_refl _) (fun _ _ _ => rfl) hown (fun vs h => by
    rcases List.mem_or_eq_of_mem_set h with h | h
    ·exact h
    ·cases h) ?_ (by simp) (by simp [hs.mlen]) (fun i h h' => by rw [List.getElem_map]; exact renA_rel hi1 hi2 hτ 4 _ _ (hs.slots i (by simpa using h) h')) ?_⟩
   ·intro k k' r r' x e1 e2 x1 x2
    rcases mem k r e1 with ⟨rfl, rfl⟩ | ⟨ne, e⟩ <;> rcases mem k' r' e2 with ⟨rfl, rfl⟩ | ⟨ne', e'⟩
    ·rfl
    ·exact absurd (hs.distinctX _ _ p r' x hid e' x1 x2).symm ne'
    ·exact absurd (hs.distinctX _ _ r p x e hid x1 x2) ne
    ·exact hs.distinctX k k' r r' x e e' x1 x2
   ·intro k hk1 hk2
    simp only [List.length_set, List.length_map] at hk1 hk2
    rw [List.getElem_set, List.getElem_set]
    split
    ·exact ⟨es, clock, f, q1, q2, q3, q4, fun i h => (q5 i h).mono hi1 hi2, k1, k2, k3⟩
    ·rw [List.getElem_map]
     exact renB_rel hi1 hi2 hτ 4 (fun _ _ _ _ => rfl) (hs.blks k hk1 hk2)
 ·exact h.elim
theorem WA_trk {code : Code} {Q : Exit → List A → List Blk → Prop} (b : Nat) (h : trkF b s m fun s' m' => WA P G code Q s' m') : WA P G code Q s m := by
 unfold WA
 intro c a w ids hG hs
 obtain ⟨s', m', ids', h', hs'⟩ := trkF_sound hs h
 unfold WA at h'
 exact h' c a w ids' hG hs'
theorem WA_trkR {id : Nat} {l : Array Oper} {d : Bool} {Q : Exit → List A → List Blk → Prop} (b : Nat) (h : trkF b s m fun s' m' => WA P G (.region id l d) Q s' m') : WA P G (.region id l d) Q s m := WA_trk b h
theorem updRow_eq (row : Nat → List A) (i : Nat) (cs : List A) : updRow row i cs i = cs := by unfold updRow; rw [if_pos rfl]
theorem updRow_ne {row : Nat → List A} {i j : Nat} {cs : List A} (h : j ≠ i) : updRow row i cs j = row j := by unfold updRow; rw [if_neg h]
end
end Go.Proofs.YtnkbkfjgbejhfaaGreat.Am
namespace Go.Proofs.YtnkbkfjgbejhfaaGreat.Am
variable [Inhabited DRT]
open Go.RowKit (Below)
/-- A contract serves arguments that may be taken for its own. -/
theorem ACalls.fit {P : Program} {G : GInv} {f : FuncId} {args args' : List A} {r : A} (h : ACalls P G f args r) (hf : andL (fitA.fitL 6 0 args' args)) : ACalls P G f args' r := by
 refine ⟨h.1, ?_⟩
 intro im w vs him hG hl hr
 have hlen := fitL_len _ _ _ _ hf
 refine h.2 im w vs him hG (by omega) ?_
 intro j h1 h2
 have := fitA_rel (ids := []) (im := im) (im' := im) (w := w) (fun _ h => h) 6 0 _ _ _ (fitL_get _ _ _ _ hf j (by omega) h1) (.imm (hr j (by omega) h2))
 exact Rel.nil_rel (by simpa using this)
end Go.Proofs.YtnkbkfjgbejhfaaGreat.Am
namespace Go.Proofs.YtnkbkfjgbejhfaaGreat.Am
variable [Inhabited DRT]
open Go.RowKit (Below)
section
variable {c : Ctx} {s : List A} {m : List Blk} {a : Act} {w w' : World} {ids ids' : Ids} {P : Program} {im im' : Nat → Prop} {tt : TT} {G : GInv}
theorem Sim.reblk (hs : Sim c s m a w ids) (b : Nat) (x : Blk) (hx : ∀ (h : b < ids.length), BRel ids (imOf c ids w) w x ids[b]) : Sim c s (m.set b x) a w ids where
 defers := hs.defers
 len := hs.len
 slots := hs.slots
 mlen := by rw [List.length_set]; exact hs.mlen
 blks := by
  intro i h h'
  rw [List.length_set] at h
  rw [List.getElem_set]
  split
  ·rename_i e; subst e; exact hx h'
  ·exact hs.blks i h h'
 distinctX := hs.distinctX
 freshX := hs.freshX
 frame := hs.frame
 im0lt := hs.im0lt
 gho := hs.gho
/-- A cell of a box that holds a nil slice holds a row of ours that has no place yet. -/
theorem WA_nilB {Q : Exit → List A → List Blk → Prop} {code : Code} (b j : Nat) (ty : TypeId) (sz : Nat) {ty' : TypeId} {cs : List A} (hb : m[b]? = some (.box ty' cs)) (hj : cs[j]? = some .nils)
  (h : fnat m.length fun n => fl (cs.set j (.own n)) fun cs' => setB m b (.box ty' cs') fun m1 => pushB m1 (.row ty sz 0 fun _ => []) fun _ m' => WA P G code Q s m') : WA P G code Q s m := by
 rw [fnat_eq, fl_eq, setB_eq, pushB_eq] at h
 unfold WA at h ⊢
 intro c a w ids hG hs
 have hbm : b < m.length := by
  rcases Nat.lt_or_ge b m.length with h' | h'
  ·exact h'
  ·rw [List.getElem?_eq_none h'] at hb; cases hb
 have hs1 := hs.grow (Bw.refl _ w) [.row ty sz 0 fun _ => []] [.virt] rfl (fun i h1 h2 => by
   have : i = 0 := by simp at h1; omega
   subst this; exact rfl) (fun p h => by simp at h) (fun vs h => by simp at h) (fun i j p q x h1 => by
   cases i with
   | zero => simp at h1
   | succ i => simp at h1)
 have hs2 := hs1.reblk b (.box ty' (cs.set j (.own m.length))) (by
  intro hbi
  have hB := hs1.blks b (by simp; omega) hbi
  have e : (m ++ [Blk.row ty sz 0 fun _ => []])[b]'(by simp; omega) = .box ty' cs := by
   rw [List.getElem_append_left hbm]
   rw [List.getElem?_eq_getElem hbm] at hb
   exact Option.some.inj hb
  rw [e] at hB
  cases hp : (ids ++ [IdE.virt])[b] with
  | dead => rw [hp] at hB; exact hB
  | stale => rw [hp] at hB; exact hB
  | virt => rw [hp] at hB; exact hB
  | gho vs => rw [hp] at hB; exact hB
  | lv p =>
   rw [hp] at hB
   obtain ⟨vs, g1, g2, g3, g4⟩ := hB
   refine ⟨vs, g1, g2, by rw [List.length_set]; exact g3, fun k hk hk' => ?_⟩
   rw [List.length_set] at hk
   have g5 := g4 k hk hk'
   rw [List.getElem_set]
   split
   ·rename_i ejk
    subst ejk
    have ec : cs[j] = .nils := by
     rw [List.getElem?_eq_getElem hk] at hj; exact Option.some.inj hj
    rw [ec] at g5
    refine ⟨?_, g5.2⟩
    rw [g5.1.nils_inv]
    exact .own0 _ (by rw [← hs.mlen]; simp)
   ·exact g5)
 have e3 : (m ++ [Blk.row ty sz 0 fun _ => []]).set b (.box ty' (cs.set j (.own m.length))) = (m.set b (.box ty' (cs.set j (.own m.length)))) ++ [Blk.row ty sz 0 fun _ => []] := by
  rw [List.set_append_left _ _ hbm]
 rw [e3] at hs2
 exact h c a w _ hG hs2
end
end Go.Proofs.YtnkbkfjgbejhfaaGreat.Am
namespace Go.Proofs.YtnkbkfjgbejhfaaGreat.Am
variable [Inhabited DRT]
open Go.RowKit (Below)
section
variable {c : Ctx} {s : List A} {m : List Blk} {a : Act} {w w' : World} {ids ids' : Ids} {P : Program} {im im' : Nat → Prop} {tt : TT} {G : GInv}
theorem posN_at {l : List Nat} {b j : Nat} (h : posN l 0 b = some j) : l[j]? = some b := by
 have := (posN_some l 0 b j h).2
 simpa using this
theorem ren_ok (π : List Nat) (ids : Ids) : RenOk (renAll (posN π 0)) ids (π.map fun b => ids.getD b .dead) := by
 have key : ∀ b b' p, posN π 0 b = some b' → ids[b]? = some p → (π.map fun b => ids.getD b .dead)[b']? = some p := by
  intro b b' p h1 h2
  rw [List.getElem?_map, posN_at h1, Option.map_some, List.getD_eq_getElem?_getD, h2]; rfl
 exact ⟨fun b b' p h1 h2 => ⟨p, key b b' _ h1 h2, rfl⟩, fun b b' p h1 h2 _ => ⟨p, key b b' _ h1 h2, likeE0_rfl p⟩, fun b b' p h1 h2 => ⟨p, key b b' _ h1 h2, rfl⟩, fun b b' h1 h2 => key b b' _ h1 h2, fun b b' h1 h2 => key b b' _ h1 h2⟩
theorem mem_ren {π : List Nat} {ids : Ids} {p : IdE} (hp : p ≠ .dead) (h : p ∈ π.map fun b => ids.getD b .dead) : p ∈ ids := by
 obtain ⟨b, _, e⟩ := List.mem_map.1 h
 rw [List.getD_eq_getElem?_getD] at e
 cases hb : ids[b]? with
 | none => rw [hb] at e; exact absurd e.symm hp
 | some q => rw [hb] at e; simp at e; subst e; exact List.mem_of_getElem? hb
theorem Sim.ren (hs : Sim c s m a w ids) (π : List Nat) (hn : π.Nodup) :
  Sim c (s.map (renA (renAll (posN π 0)) 4)) (π.map fun b => renB (renAll (posN π 0)) 4 (m.getD b .dead)) a w (π.map fun b => ids.getD b .dead) := by
 have hi : ∀ b, imOf c ids w b → imOf c (π.map fun b => ids.getD b .dead) w b := by
  intro b h
  rcases h with h | ⟨h1, h2, h3⟩
  ·exact .inl h
  ·exact .inr ⟨h1, h2, fun p hp => h3 p (mem_ren (by simp) hp)⟩
 have ht := ren_ok π ids
 have hat : ∀ (j : Nat) (p : Id), (π.map fun b => ids.getD b .dead)[j]? = some (.lv p) → ∃ b, π[j]? = some b ∧ ids[b]? = some (.lv p) := by
  intro j p h
  rw [List.getElem?_map] at h
  cases hj : π[j]? with
  | none => rw [hj] at h; cases h
  | some b =>
   rw [hj, Option.map_some, List.getD_eq_getElem?_getD] at h
   cases hb : ids[b]? with
   | none => rw [hb] at h; simp at h
   | some q => rw [hb] at h; simp at h; subst h; exact ⟨b, rfl, hb⟩
 refine ⟨hs.defers, by simp [hs.len], ?_, by simp, ?_, ?_, ?_, hs.frame, hs.im0lt, ?_⟩
 ·intro i h h'
  rw [List.getElem_map]
  exact renA_rel hi (fun _ _ => rfl) ht 4 _ _ (hs.slots i (by simpa using h) h')
 ·intro j h h'
  rw [List.getElem_map, List.getElem_map]
  have hj : j < π.length := by simpa using h
  by_cases hb : π[j] < m.length
  ·have hb' : π[j] < ids.length := by rw [hs.mlen]; exact hb
   rw [List.getD_eq_getElem?_getD, List.getElem?_eq_getElem hb, List.getD_eq_getElem?_getD, List.getElem?_eq_getElem hb']
   exact renB_rel hi (fun _ _ => rfl) ht 4 (fun _ _ _ _ => rfl) (hs.blks _ hb hb')
  ·rw [List.getD_eq_getElem?_getD, List.getElem?_eq_none (by omega), List.getD_eq_getElem?_getD, List.getElem?_eq_none (by rw [hs.mlen]; omega)]
   exact rfl
 ·intro j j' p q x h1 h2 h3 h4
  obtain ⟨b, k1, k2⟩ := hat j p h1
  obtain ⟨b', k3, k4⟩ := hat j' q h2
  have e := hs.distinctX b b' p q x k2 k4 h3 h4
  subst e
  have hj : j < π.length := (List.getElem?_eq_some_iff.1 k1).1
  exact (List.getElem?_inj hj hn).1 (k1.trans k3.symm)
 ·intro p hp x hx
  exact hs.freshX p (mem_ren (by simp) hp) x hx
 ·intro vs hv
  exact hs.gho vs (mem_ren (by simp) hv)
/-- Blocks are named anew: block j is now what was block π[j]; the others are forgotten. -/
theorem WA_ren {Q : Exit → List A → List Blk → Prop} {code : Code} (π : List Nat) (hn : nodupB π = true)
  (h : fd.fdl 4 (s.map (renA (renAll (posN π 0)) 4)) fun s' => fbs (π.map fun b => renB (renAll (posN π 0)) 4 (m.getD b .dead)) fun m' => WA P G code Q s' m') : WA P G code Q s m := by
 rw [fdl_eq, fbs_eq] at h
 unfold WA at h ⊢
 intro c a w ids hG hs
 exact h c a w _ hG (hs.ren π (nodupB_sound hn))
/-- .. ahead of region id, where k blocks stand. -/
theorem WA_renR {Q : Exit → List A → List Blk → Prop} {id : Nat} {l : Array Oper} {d : Bool} (k : Nat) (π : List Nat) (_hk : Nat.beq m.length k = true) (hn : nodupB π = true)
  (h : fd.fdl 4 (s.map (renA (renAll (posN π 0)) 4)) fun s' => fbs (π.map fun b => renB (renAll (posN π 0)) 4 (m.getD b .dead)) fun m' => WA P G (.region id l d) Q s' m') : WA P G (.region id l d) Q s m := WA_ren π hn h
end
end Go.Proofs.YtnkbkfjgbejhfaaGreat.Am
namespace Go.Proofs.YtnkbkfjgbejhfaaGreat.Am
variable [Inhabited DRT]
open Go.RowKit (Below)
section
variable {c : Ctx} {s : List A} {m : List Blk} {a : Act} {w w' : World} {ids ids' : Ids} {P : Program} {im im' : Nat → Prop} {tt : TT} {G : GInv}
variable {next : Act → World → Prop} {Q : Exit → Act → World → Prop} {o : Oper}
/-- The first operations of a region; what follows is told apart. -/
theorem runL_pre (htt : TTok P tt) {ops : List Oper} {QA : List A → List Blk → Prop} (hG : G.ok c) (tail : List Oper) (hQ : ∀ s m a w ids, QA s m → Sim c s m a w ids → wpList P ops.toArray Q tail a w) :
  ∀ (rest : List Oper) (s : List A) (m : List Blk) (a : Act) (w : World) (ids : Ids), Sim c s m a w ids → runL P G tt ops rest s m QA → wpList P ops.toArray Q (rest ++ tail) a w
 | [], s, m, a, w, ids, hs, h => hQ s m a w ids h hs
 | o :: rest, s, m, a, w, ids, hs, h => by
  have exec : ∀ s, Sim c s m a w ids → (stepM P G tt o s m fun s1 v m' => putF s1 o.dst v fun s' => runL P G tt ops rest s' m' QA) → ∀ K : Act → World → Prop, (∀ a w, wpList P ops.toArray Q (rest ++ tail) a w → K a w) → o.wp P a w K Q := by
   intro s hs h K hK
   refine stepM_sound htt hG hs h ?_
   intro s1 v m' a' w' ids' hk hs'
   rw [putF_eq] at hk
   exact hK _ _ (runL_pre htt hG tail hQ rest _ _ _ _ _ hs' hk)
  have skip : ∀ s, Sim c s m a w ids → (putF s o.dst (.tup []) fun s' => runL P G tt ops rest s' m QA) → ∀ K : Act → World → Prop, (∀ a w, wpList P ops.toArray Q (rest ++ tail) a w → K a w) → K (a.put o.dst undef) w := by
   intro s hs h K hK
   rw [putF_eq] at h
   exact hK _ _ (runL_pre htt hG tail hQ rest _ _ _ _ _ (hs.putD o.dst (.imm (.tup [] [] rfl (fun _ h => by simp at h)))) h)
  unfold runL at h
  refine wpList_step fun K hK => ?_
  split at h
  ·rename_i hg
   have : Region.wanted o (yielded ops.toArray a.tmps) = true := by unfold Region.wanted; rw [hg]
   rw [if_pos this]
   exact exec s hs h K hK
  ·rename_i j want hg
   have hw : Region.wanted o (yielded ops.toArray a.tmps) = (yielded ops.toArray a.tmps j == some want) := by unfold Region.wanted; rw [hg]
   rw [hw]
   unfold guard1 at h
   split at h
   ·exact h.elim
   ·rename_i d hd
    have hev := hs.ev (.tmp d)
    simp only [ev, Act.eval] at hev
    split at h
    ·rename_i b hb; rw [hb] at hev
     rw [yielded_eq hd hev.bool_inv]
     split at h
     ·exact exec s hs h K hK
     ·exact exec s hs h K hK
     ·exact skip s hs h K hK
     ·exact skip s hs h K hK
    ·rename_i b hb; rw [hb] at hev
     have hbv := hev.sb_inv
     rw [yielded_eq hd hbv]
     have hsim : ∀ b', b = b' → Sim c (s.set d (.bool b')) m a w ids := by
      intro b' e; subst e; exact hs.reslot d (by rw [hbv]; exact .imm (.bool _))
     rw [setF_eq, setF_eq, setF_eq, setF_eq] at h
     split at h
     ·cases b
      ·exact skip _ (hsim false rfl) (h.2 rfl) K hK
      ·exact exec _ (hsim true rfl) (h.1 rfl) K hK
     ·cases b
      ·exact exec _ (hsim false rfl) (h.1 rfl) K hK
      ·exact skip _ (hsim true rfl) (h.2 rfl) K hK
    ·rename_i vs hb; rw [hb] at hev
     split at h
     ·obtain ⟨us, hu, hu2, _⟩ := hev.tup_inv
      have hu3 : us = [] := by simpa using hu2
      subst hu3
      have hy : yielded ops.toArray a.tmps j = none := by
       unfold yielded
       have h1 : (ops.toArray[j]?).bind (·.dst) = some d := by simpa [gslot] using hd
       rw [h1]
       rcases Nat.lt_or_ge d a.tmps.size with h | h
       ·have h2 : a.tmps[d]? = some (.tuple #[]) := by simpa [Array.getD_eq_getD_getElem?, h] using hu
        simp [h2]
       ·simp [h]
      rw [hy]
      exact skip s hs h K hK
     ·exact h.elim
    ·exact h.elim
end
section
variable {s : List A} {m : List Blk} {P : Program} {tt : TT} {G : GInv} {Q : Exit → List A → List Blk → Prop}
/-- A region in two parts; in between rows of ours become values. -/
theorem WA_region2 (htt : TTok P tt) {id : Nat} {l : List Oper} (n : Nat) (bs : List Nat) (h : runL P G tt l (l.take n) s m fun s' m' => frzMany bs s' m' fun s' m' => runL P G tt l (l.drop n) s' m' (Q .normal)) : WA P G (.region id l.toArray false) Q s m := by
 unfold WA
 intro c a w ids hG hs
 refine wp_region_lit ?_
 have := runL_pre (Q := fun e a w => ∃ s m ids, Q e s m ∧ Sim c s m a w ids) htt hG (l.drop n) (fun s m a w ids hq hs => by
  obtain ⟨s', m', ids', h', hs'⟩ := frzMany_sound bs hs hq
  exact runL_sound htt hG (fun s m a w ids hq hs => ⟨s, m, ids, hq, hs⟩) (l.drop n) s' m' a w ids' hs' h') (l.take n) s m a w ids hs h
 rwa [List.take_append_drop] at this
end
end Go.Proofs.YtnkbkfjgbejhfaaGreat.Am
namespace Go.Proofs.YtnkbkfjgbejhfaaGreat.Am
variable [Inhabited DRT]
open Go.RowKit (Below)
section
variable {c : Ctx} {s : List A} {m : List Blk} {a : Act} {w w' : World} {ids ids' : Ids} {P : Program} {im im' : Nat → Prop} {tt : TT} {G : GInv}
variable {code : Code} {Q : Exit → List A → List Blk → Prop}
variable {ty : TypeId} {agg : Bool} {sh : List KS} {n hi : Nat} {cs : List A} {ini : Nat → Nat} {has : Nat → List KC → Bool} {val : Nat → List KC → A}
/-- A map is taken out of a slice of maps: it is a block of its own. -/
theorem WA_takeG (b i : Nat) (hb : m.getD b .dead = .mgrid ty agg sh n hi [] ini has val) (hin : i < n) (hini : ini i = 1)
  (h : fnat m.length fun k => setB m b (.mgrid ty agg sh n i [.omap k] ini has val) fun m1 => pushB m1 (.mapb agg sh (has i) (val i)) fun _ m' => WA P G code Q s m') : WA P G code Q s m := by
 rw [fnat_eq, setB_eq, pushB_eq] at h
 unfold WA at h ⊢
 intro c a w ids hG hs
 obtain ⟨ids', hs'⟩ := hs.takeG hb hin hini
 exact h c a w ids' hG hs'
/-- It is put back. -/
theorem WA_backG (b k : Nat) {i : Nat} {H : List KC → Bool} {V : List KC → A} (hb : m.getD b .dead = .mgrid ty agg sh n i [.omap k] ini has val) (hk : m.getD k .dead = .mapb agg sh H V) (hne : Nat.beq b k = false) (hin : i < n)
  (h : fd.fdl 4 (s.map (scr k 4)) fun s' => fbs (((m.map (scrB k 4)).set b (.mgrid ty agg sh n 0 [] (updN ini i 1) (updN has i H) (updN val i V))).set k .dead) fun m' => WA P G code Q s' m') : WA P G code Q s m := by
 rw [fdl_eq, fbs_eq] at h
 unfold WA at h ⊢
 intro c a w ids hG hs
 obtain ⟨ids', hs'⟩ := hs.backG hb hk (fun e => by subst e; rw [Nat.beq_refl] at hne; cases hne) hin
 exact h c a w ids' hG hs'
/-- What was taken out does not come back. -/
theorem WA_shutG (b : Nat) {x : A} {i : Nat} (hb : m.getD b .dead = .mgrid ty agg sh n i [x] ini has val)
  (h : setB m b (.mgrid ty agg sh n 0 [] (updN ini i 2) has val) fun m' => WA P G code Q s m') : WA P G code Q s m := by
 rw [setB_eq] at h
 unfold WA at h ⊢
 intro c a w ids hG hs
 refine h c a w ids hG (hs.reblk b _ fun hbi => ?_)
 obtain ⟨hbm, hm⟩ := getD_some (by simp) hb
 have hB := hs.blks b hbm hbi
 rw [hm] at hB
 cases hp : ids[b] with
 | dead => rw [hp] at hB; exact hB.elim
 | stale => rw [hp] at hB; exact hB.elim
 | virt => rw [hp] at hB; exact hB
 | gho vs => rw [hp] at hB; exact hB.elim
 | lv p =>
  rw [hp] at hB
  obtain ⟨g1, g2, g3, vs, q1, q2, q3, _, kb, q5⟩ := hB
  refine ⟨g1, g2, g3, vs, q1, q2, q3, fun j hj => absurd hj (by simp), kb, fun j hj hv => ?_⟩
  obtain ⟨k0, l0⟩ := q5 j hj hv
  refine ⟨k0, fun _ => ?_⟩
  by_cases e : j = i
  ·subst e; simp [updN]
  ·simp only [updN, if_neg e]
   refine ⟨(l0 (.inr e)).1, fun e1 => ?_⟩
   obtain ⟨l1, l2, l3, l4⟩ := (l0 (.inr e)).2 e1
   refine ⟨l1, l2, l3, fun j' hj' _ e2 e3 => ?_⟩
   by_cases e4 : j' = i
   ·simp [e4] at e2
   ·simp only [if_neg e4] at e2
    exact l4 j' hj' (.inr e4) e2 e3
/-- A row with some content. -/
theorem WA_openE (b : Nat) {sz : Nat} {Φ : (Nat → List A) → Prop} (hb : m.getD b .dead = .rowE ty sz n Φ) (h : ∀ row, Φ row → setB m b (.row ty sz n row) fun m' => WA P G code Q s m') : WA P G code Q s m := by
 unfold WA
 intro c a w ids hG hs
 obtain ⟨hbm, hm⟩ := getD_some (by simp) hb
 have hbi : b < ids.length := by rw [hs.mlen]; exact hbm
 have hB := hs.blks b hbm hbi
 rw [hm] at hB
 have fin : ∀ row, Φ row → BRel ids (imOf c ids w) w (.row ty sz n row) ids[b] → code.wp P (post c Q) a w := by
  intro row hr hB'
  have h := h row hr
  rw [setB_eq] at h
  unfold WA at h
  exact h c a w ids hG (hs.reblk b _ fun _ => hB')
 cases hp : ids[b] with
 | dead => rw [hp] at hB; exact hB.elim
 | stale => rw [hp] at hB; exact hB.elim
 | gho vs => rw [hp] at hB; exact hB.elim
 | virt =>
  rw [hp] at hB
  obtain ⟨h0, row, hr⟩ := hB
  exact fin row hr (by rw [hp]; exact h0)
 | lv p =>
  rw [hp] at hB
  obtain ⟨row, hr, hB⟩ := hB
  exact fin row hr (by rw [hp]; exact hB)
/-- A row of nil maps is a slice of maps. -/
theorem WA_gridOf (b : Nat) (agg : Bool) (sh : List KS) {ty : TypeId} {n : Nat} {row : Nat → List A} (hb : m.getD b .dead = .row ty 1 n row)
  (hz : ∀ i, i < n → row i = [.nilm]) (h : setB m b (.mgrid ty agg sh n 0 [] (fun _ => 0) (fun _ _ => false) (fun _ _ => .junk)) fun m' => WA P G code Q s m') : WA P G code Q s m := by
 rw [setB_eq] at h
 unfold WA at h ⊢
 intro c a w ids hG hs
 obtain ⟨hbm, hm⟩ := getD_some (by simp) hb
 have hbi : b < ids.length := by rw [hs.mlen]; exact hbm
 have hB := hs.blks b hbm hbi
 rw [hm] at hB
 cases hp : ids[b] with
 | dead => rw [hp] at hB; exact hB.elim
 | stale => rw [hp] at hB; exact hB.elim
 | gho vs => rw [hp] at hB; exact hB.elim
 | virt =>
  rw [hp] at hB
  exact h c a w ids hG (hs.reblk b _ fun _ => by rw [hp]; exact hB)
 | lv p =>
  rw [hp] at hB
  have hid : ids[b]? = some (.lv p) := by rw [List.getElem?_eq_getElem hbi, hp]
  let p' : Id := ⟨p.blk, p.k, p.n, p.sz, fun _ => False, p.hist⟩
  have hp' : ∀ x, p'.has x → x = p.blk := fun x h => by
   rcases h with h | h
   ·exact h
   ·exact False.elim h
  have mem : ∀ (k : Nat) r, (ids.set b (.lv p'))[k]? = some (IdE.lv r) → (k = b ∧ r = p') ∨ (k ≠ b ∧ ids[k]? = some (.lv r)) := by
   intro k r h
   rw [List.getElem?_set] at h
   split at h
   ·rename_i e; subst e
    cases h; exact .inl ⟨rfl, rfl⟩
   ·rename_i hne; exact .inr ⟨fun e => hne e.symm, h⟩
  have hown : ∀ r, IdE.lv r ∈ ids.set b (.lv p') → ∀ x, r.has x → x < w.heap.size ∧ (w.heap.size ≤ x ∨ ∃ (b : Nat) (p : Id), ids[b]? = some (.lv p) ∧ p.has x) := by
   intro r hr x hx
   obtain ⟨k, hk⟩ := List.getElem?_of_mem hr
   rcases mem k r hk with ⟨_, rfl⟩ | ⟨_, e⟩
   ·rw [hp' x hx]; exact ⟨(hs.fresh p (List.mem_of_getElem? hid)).2, .inr ⟨b, p, hid, .inl rfl⟩⟩
   ·exact ⟨(hs.freshX r (List.mem_of_getElem? e) x hx).2, .inr ⟨k, r, e, hx⟩⟩
  obtain ⟨hi1, hi2⟩ := hs.im_stays (w' := w) (ids' := ids.set b (.lv p')) (Nat.le_refl _) (fun _ _ _ => rfl) hown
  have hd : ∀ (k : Nat) r, ids[k]? = some r → r ≠ .dead → ∃ q, (ids.set b (.lv p'))[k]? = some q ∧ likeE r q := by
   intro k r hr _
   rw [List.getElem?_set]
   split
   ·rename_i e; subst e
    rw [hid] at hr; cases hr
    exact ⟨_, by simp, p', rfl, rfl, rfl, rfl, rfl, fun _ _ h => h⟩
   ·exact ⟨r, hr, likeE_rfl r⟩
  refine h c a w _ hG (hs.goOn (ids' := ids.set b (.lv p')) rfl rfl rfl (Nat.le_refl _) (fun _ _ _ => rfl) hown (fun vs h => by
   rcases List.mem_or_eq_of_mem_set h with h | h
   ·exact h
   ·cases h) ?_ rfl (by simp [hs.mlen]) (fun i h h' => (hs.slots i h h').reid hi1 hi2 hd) ?_)
  ·intro k k' r r' x e1 e2 x1 x2
   rcases mem k r e1 with ⟨rfl, rfl⟩ | ⟨ne, e⟩ <;> rcases mem k' r' e2 with ⟨rfl, rfl⟩ | ⟨ne', e'⟩
   ·rfl
   ·exact absurd (hs.distinctX _ _ p r' x hid e' (.inl (hp' x x1)) x2).symm ne'
   ·exact absurd (hs.distinctX _ _ r p x e hid x1 (.inl (hp' x x2))) ne
   ·exact hs.distinctX k k' r r' x e e' x1 x2
  ·intro k hk hk'
   simp only [List.length_set] at hk hk'
   rw [List.getElem_set, List.getElem_set]
   split
   ·obtain ⟨g1, g2, vs, h1, h2, h3, h4, h5⟩ := hB
    refine ⟨g1, g2, (fun h => h.elim), vs, h1, h2, by rw [Nat.mul_one] at h3; exact h3, fun j hj => absurd hj (by simp), fun _ => 0, ?_⟩
    intro i hi hiv
    have := (h5 i 0 hi (by rw [h4 i hi]; omega) (by simpa using hiv)).1
    simp only [hz i hi, List.getElem_cons_zero, Nat.mul_one, Nat.add_zero] at this
    have := (Rel.imm (ids := []) this).nilm_inv
    exact ⟨⟨_, this⟩, fun _ => ⟨fun _ => this, fun e => absurd (show (0 : Nat) = 1 from e) (by omega)⟩⟩
   ·exact (hs.blks k hk hk').reid hi1 hi2 hd (fun _ _ _ _ => rfl)
end
end Go.Proofs.YtnkbkfjgbejhfaaGreat.Am
namespace Go.Proofs.YtnkbkfjgbejhfaaGreat.Am
variable [Inhabited DRT]
section
variable {P : Program} {G : GInv} {s : List A} {m : List Blk}
/-- Blocks frozen ahead of a region, where k blocks stand. -/
theorem WA_frzR {Q : Exit → List A → List Blk → Prop} {id : Nat} {l : Array Oper} {d : Bool} (k : Nat) (bs : List Nat) (_hk : Nat.beq m.length k = true)
  (h : frzMany bs s m fun s' m' => WA P G (.region id l d) Q s' m') : WA P G (.region id l d) Q s m := by
 unfold WA
 intro c a w ids hG hs
 obtain ⟨s', m', ids', h', hs'⟩ := frzMany_sound bs hs h
 unfold WA at h'
 exact h' c a w ids' hG hs'
/-- At the end of a text that falls off: something more may be said of the blocks. -/
@[irreducible] def NX (G : GInv) (Q : Exit → List A → List Blk → Prop) (s : List A) (m : List Blk) : Prop :=
 ∀ c a w ids, G.ok c → Sim c s m a w ids → ∃ s' m' ids', Q .normal s' m' ∧ Sim c s' m' a w ids'
def nxQ (G : GInv) (Q : Exit → List A → List Blk → Prop) : Exit → List A → List Blk → Prop
 | .normal, s, m => NX G Q s m
 | e, s, m => Q e s m
theorem WA_nx {Q : Exit → List A → List Blk → Prop} {code : Code} (h : WA P G code (nxQ G Q) s m) : WA P G code Q s m := by
 unfold WA at h ⊢
 intro c a w ids hG hs
 refine wp_mono (h c a w ids hG hs) ?_
 rintro e a' w' ⟨s', m', ids', hq, hs'⟩
 cases e with
 | normal =>
  have hq : NX G Q s' m' := hq
  unfold NX at hq
  exact hq c a' w' ids' hG hs'
 | _ => exact ⟨s', m', ids', hq, hs'⟩
theorem NX_done {Q : Exit → List A → List Blk → Prop} (h : Q .normal s m) : NX G Q s m := by
 unfold NX
 exact fun c a w ids _ hs => ⟨s, m, ids, h, hs⟩
variable {ty : TypeId} {agg : Bool} {sh : List KS} {n hi : Nat} {cs : List A} {ini : Nat → Nat} {has : Nat → List KC → Bool} {val : Nat → List KC → A}
theorem NX_backG {Q : Exit → List A → List Blk → Prop} (b k : Nat) {i : Nat} {H : List KC → Bool} {V : List KC → A} (hb : m.getD b .dead = .mgrid ty agg sh n i [.omap k] ini has val) (hk : m.getD k .dead = .mapb agg sh H V) (hne : Nat.beq b k = false) (hin : i < n)
  (h : fd.fdl 4 (s.map (scr k 4)) fun s' => fbs (((m.map (scrB k 4)).set b (.mgrid ty agg sh n 0 [] (updN ini i 1) (updN has i H) (updN val i V))).set k .dead) fun m' => NX G Q s' m') : NX G Q s m := by
 rw [fdl_eq, fbs_eq] at h
 unfold NX at h ⊢
 intro c a w ids hG hs
 obtain ⟨ids', hs'⟩ := hs.backG hb hk (fun e => by subst e; rw [Nat.beq_refl] at hne; cases hne) hin
 exact h c a w ids' hG hs'
/-- A map whose entries were told apart is a map. -/
theorem NX_unx {Q : Exit → List A → List Blk → Prop} (b : Nat) {H : List KC → Bool} {V : List KC → A} (hb : m.getD b .dead = .mapx agg sh H V) (h : setB m b (.mapb agg sh H V) fun m' => NX G Q s m') : NX G Q s m := by
 rw [setB_eq] at h
 unfold NX at h ⊢
 intro c a w ids hG hs
 refine h c a w ids hG (hs.reblk b _ fun hbi => ?_)
 obtain ⟨hbm, hm⟩ := getD_some (by simp) hb
 have hB := hs.blks b hbm hbi
 rw [hm] at hB
 have := fitB_rel (im' := imOf c ids w) (fun _ h => h) (n := ids.length) (x := .mapx agg sh H V) (y := .mapb agg sh H V) (by unfold fitB; exact ⟨rfl, rfl, fun _ => rfl, fun _ _ => rfl⟩) hB
 rw [List.take_length] at this
 exact this
end
end Go.Proofs.YtnkbkfjgbejhfaaGreat.Am
namespace Go.Proofs.YtnkbkfjgbejhfaaGreat.Am
variable [Inhabited DRT]
open Go.RowKit Go.ChangeShapes

/-- Each value of a type, read by the claim's reader, is one of ours. -/
def Opens (P : Program) (t : TypeId) {α : Type} (f : α → List A) (ok : α → Prop) : Prop :=
 ∀ (H : Type) (enc : TypeId × Value → H) (w : World) (im : Nat → Prop) (base : Nat) (sp : Nat → Bool) (held : Bool) (fuel : Nat) (cs : List Value) (d : DataW H) (ps : List MemPlace),
  DataW.trod enc P w base sp held fuel t cs = some (d, ps) → (∀ p ∈ ps, im p.block) →
  ∃ x : α, ok x ∧ cs.length = (f x).length ∧ (∀ v ∈ cs, oneV v) ∧ ∀ j (h : j < (f x).length) (h' : j < cs.length), RelI im w (f x)[j] cs[j]

section
variable {P : Program} {t : TypeId}
theorem opens_int {k : IntKind} (ht : P.underlying t = some (.int k)) : Opens P t (fun n : Int => [.int k n]) (fun n => k.min ≤ n ∧ n ≤ k.max) := by
 intro H enc w im base sp held fuel cs d ps h him
 obtain ⟨n, rfl, _, hw⟩ := DataW.trod_int ht h
 refine ⟨n, by simpa [Lit.wf] using hw, rfl, fun v hv => ?_, fun j h h' => ?_⟩
 ·simp at hv; subst hv; rfl
 ·have : j = 0 := by simp at h; omega
  subst this; exact .int k n
theorem opens_i64 (ht : P.underlying t = some (.int .i64)) : Opens P t (fun n : Int => [.int .i64 n]) (fun n => -9223372036854775808 ≤ n ∧ n ≤ 9223372036854775807) := by
 intro H enc w im base sp held fuel cs d ps h him
 obtain ⟨x, h1, h2⟩ := opens_int ht H enc w im base sp held fuel cs d ps h him
 refine ⟨x, ?_, h2⟩
 have e1 : IntKind.i64.min = -9223372036854775808 := rfl
 have e2 : IntKind.i64.max = 9223372036854775807 := rfl
 omega
/-- Fields, one behind the other: type, place, size. -/
def OpensF (P : Program) (o : Nat) (L : List (TypeId × Nat × Nat)) {α : Type} (g : α → List A) (ok : α → Prop) : Prop :=
 ∀ (H : Type) (enc : TypeId × Value → H) (w : World) (im : Nat → Prop) (base : Nat) (sp : Nat → Bool) (held : Bool) (n : Nat) (cs : List Value) (xs : List (DataW H × List MemPlace)), xs.length = L.length → (∀ x ∈ xs, ∀ p ∈ x.2, im p.block) →
   (∀ (i : Nat) q, L[i]? = some q → DataW.trod enc P w base sp held n q.1 ((cs.drop q.2.1).take q.2.2) = xs[i]?) → o + (L.map fun q => q.2.2).sum = cs.length →
   ∃ x : α, ok x ∧ (g x).length = cs.length - o ∧ (∀ v ∈ cs.drop o, oneV v) ∧ ∀ j (h : j < (g x).length) (h' : o + j < cs.length), RelI im w (g x)[j] cs[o + j]
theorem opensF_nil {o : Nat} : OpensF P o [] (fun _ : Unit => []) (fun _ => True) := by
 intro H enc w im base sp held n cs xs _ _ _ hsum
 simp at hsum
 exact ⟨(), trivial, by simp; omega, by rw [List.drop_of_length_le (by omega)]; simp, fun j h => absurd h (Nat.not_lt_zero _)⟩
theorem opensF_cons {o k : Nat} {L : List (TypeId × Nat × Nat)} {α β : Type} {g1 : α → List A} {g2 : β → List A} {ok : α → Prop} {ok' : β → Prop} (h : Opens P t g1 ok)
      (hs : OpensF P (o + k) L g2 ok') : OpensF P o ((t, o, k) :: L) (fun x : α × β => g1 x.1 ++ g2 x.2) (fun x => ok x.1 ∧ ok' x.2) := by
 intro H enc w im base sp held n cs xs hl him hx hsum
 match xs, hl with
 | x :: xs, hl =>
  have h0 := hx 0 _ rfl
  simp only [List.getElem?_cons_zero] at h0
  simp only [List.map_cons, List.sum_cons] at hsum
  obtain ⟨a, a1, a2, a3, a4⟩ := h H enc w im base sp held n _ x.1 x.2 h0 (him x (by simp))
  obtain ⟨b, b1, b2, b3, b4⟩ := hs H enc w im base sp held n cs xs (by simpa using hl) (fun y hy => him y (by simp [hy])) (fun i f' hf => by simpa using hx (i + 1) f' (by simpa using hf)) (by omega)
  rw [List.length_take, List.length_drop] at a2
  have a2' : (g1 a).length = k := by omega
  refine ⟨(a, b), ⟨a1, b1⟩, by simp [a2', b2]; omega, ?_, ?_⟩
  ·intro v hv
   rw [← List.take_append_drop k (cs.drop o)] at hv
   rcases List.mem_append.1 hv with hv | hv
   ·exact a3 v hv
   ·rw [List.drop_drop] at hv; exact b3 v hv
  ·intro j h1 h2
   by_cases hj : j < k
   ·have := a4 j (by omega) (by rw [List.length_take, List.length_drop]; omega)
    simp only [List.getElem_append_left (show j < (g1 a).length by omega)]
    rw [List.getElem_take, List.getElem_drop] at this
    exact this
   ·have := b4 (j - k) (by simp [a2'] at h1; omega) (by omega)
    simp only [List.getElem_append_right (show (g1 a).length ≤ j by omega)]
    have e : o + k + (j - k) = o + j := by omega
    simp only [a2', e] at this ⊢
    exact this
def fieldsOf (P : Program) (t : TypeId) : Option (List (TypeId × Nat × Nat)) :=
 match P.underlying t with
 | some (.struct fs) => some (fs.toList.map fun f => (f.type, f.offset, P.cellsOf f.type))
 | _ => none
theorem opens_struct {L : List (TypeId × Nat × Nat)} {α : Type} {g : α → List A} {ok : α → Prop} (ht : fieldsOf P t = some L) (hsz : (L.map fun q => q.2.2).sum = P.cellsOf t) (h : OpensF P 0 L g ok) : Opens P t g ok := by
 intro H enc w im base sp held fuel cs d ps hd him
 unfold fieldsOf at ht
 split at ht
 ·rename_i fs hu
  cases ht
  obtain ⟨xs, n, _, e, hl, hxl, hx⟩ := DataW.trod_struct hu hd
  cases e
  obtain ⟨x, h1, h2, h3, h4⟩ := h H enc w im base sp held n cs xs (by simpa using hxl) (fun x hx p hp => him p (List.mem_flatMap.2 ⟨x, hx, hp⟩)) (fun i q hf => by
   rw [List.getElem?_map] at hf
   rcases hf' : fs.toList[i]? with _ | f
   ·rw [hf'] at hf; cases hf
   ·rw [hf'] at hf; cases hf
    exact hx i f (by simpa using hf')) (by omega)
  exact ⟨x, h1, by omega, by simpa using h3, fun j a b => by simpa using h4 j a (by omega)⟩
 ·cases ht
/-- The same, in other words. -/
theorem Opens.to {α β : Type} {g : α → List A} {ok : α → Prop} {g' : β → List A} {ok' : β → Prop} (h : Opens P t g ok) (f : α → β) (hg : ∀ x, g x = g' (f x)) (hok : ∀ x, ok x → ok' (f x)) : Opens P t g' ok' := by
 intro H enc w im base sp held fuel cs d ps hd him
 obtain ⟨x, h1, h2⟩ := h H enc w im base sp held fuel cs d ps hd him
 rw [hg] at h2
 exact ⟨f x, hok x h1, h2⟩
theorem opens_slice {e : TypeId} {α : Type} [Inhabited α] {g : α → List A} {ok : α → Prop} {sz : Nat} (ht : P.underlying t = some (.slice e)) (h : Opens P e g ok) (hsz : P.cellsOf e = sz) (hpos : 0 < sz) :
  Opens P t (fun l : List α => [.sl l.length sz fun i => g (l.getD i default)]) (fun l => l.length ≤ maxLen ∧ ∀ x ∈ l, ok x) := by
 intro H enc w im base sp held fuel cs d ps hd him
 rcases Deep.open_slice ht hd with ⟨rfl, _⟩ | ⟨a, len, cap, m, n, D, Pl, rfl, hb, hl, hcm, hm, he, hx⟩
 ·refine ⟨[], ⟨Nat.zero_le _, fun _ h => by cases h⟩, rfl, fun v hv => ?_, fun j h h' => ?_⟩
  ·simp at hv; subst hv; rfl
  ·have : j = 0 := by simp at h; omega
   subst this; exact .sl0 _ _
 ·cases he
  have hlm : len ≤ m := by rw [hm]; split <;> omega
  have key : ∀ i, i < len → ∃ x : α, ok x ∧ (g x).length = sz ∧ (∀ j, j < sz → ∃ v, w.cell? (a.add (i * sz + j)) = some v ∧ oneV v ∧ ∀ (h : j < (g x).length), RelI im w (g x)[j] v) := by
   intro i hi
   obtain ⟨cs', h1, h2⟩ := hx i (by omega)
   obtain ⟨x, x1, x2, x3, x4⟩ := h H enc w im base sp held n cs' _ _ h2 (fun p hp => him p (List.mem_append_right _ (List.mem_flatMap.2 ⟨i, by simp; omega, hp⟩)))
   obtain ⟨_, c1, c2⟩ := World.cells?_some h1
   rw [hsz] at c1 c2
   refine ⟨x, x1, by omega, fun j hj => ⟨cs'[j]'(by omega), ?_, x3 _ (List.getElem_mem _), fun h => x4 j h (by omega)⟩⟩
   have := c2 j hj
   rw [Deep.add_add] at this
   rw [this, List.getElem?_eq_getElem]
  obtain ⟨X, hX⟩ := Deep.choose_lt key
  refine ⟨(List.range len).map X, ⟨by simp; omega, ?_⟩, rfl, fun v hv => by simp at hv; subst hv; rfl, ?_⟩
  ·intro x hx
   simp only [List.mem_map, List.mem_range] at hx
   obtain ⟨i, hi, rfl⟩ := hx
   exact (hX i hi).1
  ·intro j h h'
   have : j = 0 := by simp at h; omega
   subst this
   show RelI im w (.sl ((List.range len).map X).length sz fun i => g (((List.range len).map X).getD i default)) (.slice (some a) len cap)
   have e1 : ((List.range len).map X).length = len := by simp
   rw [e1]
   have e2 : ∀ i, i < len → ((List.range len).map X).getD i default = X i := by
    intro i hi; simp [List.getD_eq_getElem?_getD, hi]
   rcases Nat.eq_zero_or_pos len with h0 | h0
   ·subst h0; exact .sle _ _ _ _
   ·have hsp : a.spot = none := by
     obtain ⟨v, hv, _⟩ := (hX 0 h0).2.2 0 hpos
     rw [Nat.zero_mul, Nat.add_zero] at hv
     unfold Addr.add at hv
     rw [if_pos rfl] at hv
     unfold World.cell? at hv
     split at hv
     ·split at hv
      ·cases hv
      ·rename_i h; simpa using h
     ·cases hv
    obtain ⟨blk, off, spot⟩ := a
    simp only at hsp
    subst hsp
    have hV : ∀ i, i < len → ∃ f : Nat → Value, ∀ j, j < sz → w.cell? ⟨blk, off + i * sz + j, none⟩ = some (f j) ∧ oneV (f j) ∧ ∀ (h : j < (g (X i)).length), RelI im w (g (X i))[j] (f j) := by
     intro i hi
     obtain ⟨f, hf⟩ := Deep.choose_lt (hX i hi).2.2
     refine ⟨f, fun j hj => ?_⟩
     have := hf j hj
     rw [show Addr.add ⟨blk, off, none⟩ (i * sz + j) = ⟨blk, off + i * sz + j, none⟩ from by unfold Addr.add; split <;> simp_all <;> omega] at this
     exact this
    obtain ⟨V, hV⟩ := Deep.choose_lt hV
    refine .sl len sz _ blk off cap V (him _ (List.mem_append_left _ (List.mem_map.2 ⟨0, ?_, rfl⟩))) hl ?_ ?_ ?_ ?_
    ·rw [List.mem_range, hsz]; exact Nat.mul_pos (by omega) hpos
    ·intro i hi; rw [e2 i hi]; exact (hX i hi).2.1
    ·intro i j hi hj; exact (hV i hi j hj).1
    ·intro i j hi hj; exact (hV i hi j hj).2.1
    ·intro i j hi hj
     simp only [e2 i hi] at hj ⊢
     exact (hV i hi j (by rw [← (hX i hi).2.1]; exact hj)).2.2 hj
theorem Opens.agg {α : Type} {g : α → List A} {ok : α → Prop} (h : Opens P t g ok) {H : Type} {enc : TypeId × Value → H} {w : World} {im : Nat → Prop} {base : Nat} {sp : Nat → Bool} {held : Bool} {v : Value} {d : DataW H} {ps : List MemPlace}
  (hd : DataW.Trod enc P w base sp held t v d ps) (hv : ∃ cs, v = .agg cs) (him : ∀ p ∈ ps, im p.block) : ∃ x, ok x ∧ RelI im w (.agg (g x)) v := by
 obtain ⟨fuel, hd⟩ := hd
 obtain ⟨cs, rfl⟩ := hv
 obtain ⟨x, h1, h2, h3, h4⟩ := h H enc w im base sp held fuel _ d ps hd him
 refine ⟨x, h1, ?_⟩
 have e : (Value.agg cs).cells = cs := rfl
 rw [e] at h2 h3 h4
 have := RelI.agg (im := im) (w := w) (g x) cs.toList h2 h3 h4
 simpa using this
/-- The same of an argument, whichever it is, by its type. -/
theorem okWide_agg {r : Reach} {w : World} {base : Nat} {v : Value} (hval : Value.okWide P w r base t v) (ha : (match P.underlying t with | some (.struct _) => true | some (.array _ _) => true | _ => false) = true) : ∃ cs, v = .agg cs := by
 unfold Value.okWide at hval
 split at hval
 ·obtain ⟨cs, h, _⟩ := hval; exact ⟨cs, h⟩
 ·obtain ⟨cs, h, _⟩ := hval; exact ⟨cs, h⟩
 ·rename_i h1 h2
  split at ha
  ·rename_i fs h; exact absurd h (h1 fs)
  ·rename_i n e h; exact absurd h (h2 n e)
  ·cases ha
end
end Go.Proofs.YtnkbkfjgbejhfaaGreat.Am

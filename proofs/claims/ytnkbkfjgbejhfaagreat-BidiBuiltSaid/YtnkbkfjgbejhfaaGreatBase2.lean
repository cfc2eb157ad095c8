/-
  The walks and plain laws, part 2.
-/
import Derived.Test.YtnkbkfjgbejhfaaGreatBase1
set_option linter.unusedSimpArgs false
set_option linter.unusedSectionVars false
set_option linter.unusedVariables false
namespace Go.HeapL
/-! ### The vertex that goes next -/
theorem hset_has {L : List It} (hp : Hp L) (hn : Nd L) {x : It} (hx : hasL L x.2 = true) (v : Int) : hasL (hset L x) v = hasL L v := by
 obtain ⟨_, _, h3⟩ := hset_ok hp hn x
 rw [Bool.eq_iff_iff, hasL_iff, hasL_iff]
 constructor
 ·rintro ⟨k, hk⟩
  rcases (h3 k v).1 hk with ⟨e, _⟩ | ⟨_, h⟩
  ·subst e; exact hasL_iff.1 hx
  ·exact ⟨k, h⟩
 ·rintro ⟨k, hk⟩
  by_cases e : v = x.2
  ·exact ⟨x.1, (h3 x.1 v).2 (.inl ⟨e, rfl⟩)⟩
  ·exact ⟨k, (h3 k v).2 (.inr ⟨e, hk⟩)⟩
theorem len_has {L M : List It} (hL : Nd L) (hM : Nd M) (h : ∀ v, hasL L v = hasL M v) : L.length = M.length := by
 have hm : ∀ (N : List It) v, v ∈ N.map (fun x : It => x.2) ↔ hasL N v = true := fun N v => by
  rw [hasL_iff, List.mem_map]
  exact ⟨fun ⟨⟨k, u⟩, hu, e⟩ => ⟨k, by simp only at e; subst e; exact hu⟩, fun ⟨k, hk⟩ => ⟨(k, v), hk, rfl⟩⟩
 have : (L.map fun x : It => x.2).Perm (M.map fun x : It => x.2) := (List.perm_ext_iff_of_nodup hL hM).2 fun v => by rw [hm, hm, h]
 simpa using this.length_eq
theorem nextQ_ok (p : Int → Int) : ∀ (k : Nat) {q : List It}, Hp q → Nd q → Hp (nextQ p k q) ∧ Nd (nextQ p k q) ∧ ∀ v, hasL (nextQ p k q) v = hasL q v
 | 0, q, h, hn => ⟨h, hn, fun _ => rfl⟩
 | k + 1, q, h, hn => by
  unfold nextQ
  split
  ·rename_i hd
   simp only [Bool.and_eq_true, decide_eq_true_eq] at hd
   have hx := has_at (L := q) hd.1
   obtain ⟨h1, h2, _⟩ := hset_ok h hn (p (gt q 0).2, (gt q 0).2)
   obtain ⟨i1, i2, i3⟩ := nextQ_ok p k h1 h2
   exact ⟨i1, i2, fun v => (i3 v).trans (hset_has (x := (p (gt q 0).2, (gt q 0).2)) h hn hx v)⟩
  ·exact ⟨h, hn, fun _ => rfl⟩
/-- How many keys are out of date. -/
def late (p : Int → Int) (q : List It) : Nat := (q.filter fun x => decide (x.1 < p x.2)).length
theorem hset_perm_old {q : List It} (h : Hp q) (hn : Nd q) {i : Nat} (hi : i < q.length) (x : It) (e : (gt q i).2 = x.2) : (hset q x).Perm (q.set i x) := by
 obtain ⟨h1, h2, h3⟩ := hset_ok h hn x
 have nd : ∀ {L : List It}, Nd L → L.Nodup := fun {L} h => by
  unfold Nd at h; exact List.Pairwise.of_map (fun x : It => x.2) (fun a b hab e => hab (by rw [e])) h
 refine (List.perm_ext_iff_of_nodup (nd h2) (nd (set_nd hn hi e))).2 fun y => ?_
 obtain ⟨k, v⟩ := y
 rw [h3, mem_set' hn hi e]
theorem late_set {p : Int → Int} {q : List It} {i : Nat} (hi : i < q.length) (hl : (gt q i).1 < p (gt q i).2) : late p (q.set i (p (gt q i).2, (gt q i).2)) < late p q := by
 rw [gt_eq hi] at *
 have e : q = q.take i ++ q[i] :: q.drop (i + 1) := by rw [List.getElem_cons_drop]; simp
 have e2 : q.set i (p q[i].2, q[i].2) = q.take i ++ (p q[i].2, q[i].2) :: q.drop (i + 1) := by
  rw [List.set_eq_take_append_cons_drop, if_pos hi]
 unfold late
 rw [e2]
 conv => rhs; rw [e]
 rw [List.filter_append, List.filter_append, List.filter_cons, List.filter_cons, decide_eq_true hl]
 simp
theorem late_hset {p : Int → Int} {q : List It} (h : Hp q) (hn : Nd q) (h0 : 0 < q.length) (hl : (gt q 0).1 < p (gt q 0).2) : late p (hset q (p (gt q 0).2, (gt q 0).2)) < late p q := by
 have := (hset_perm_old h hn h0 (p (gt q 0).2, (gt q 0).2) rfl).filter (fun x => decide (x.1 < p x.2))
 have e := this.length_eq
 have := late_set h0 hl
 unfold late at *
 omega
theorem nextQ_fix {p : Int → Int} : ∀ (k : Nat) {q : List It}, (0 < q.length → ¬ (gt q 0).1 < p (gt q 0).2) → nextQ p k q = q
 | 0, _, _ => rfl
 | k + 1, q, h => by
  unfold nextQ
  by_cases h0 : 0 < q.length
  ·rw [show (decide (0 < q.length) && decide ((gt q 0).1 < p (gt q 0).2)) = false by rw [decide_eq_false (h h0)]; simp]
  ·rw [show (decide (0 < q.length) && decide ((gt q 0).1 < p (gt q 0).2)) = false by rw [decide_eq_false h0]; rfl]
theorem nextQ_more {p : Int → Int} : ∀ (k : Nat) {q : List It}, Hp q → Nd q → late p q ≤ k → nextQ p (k + 1) q = nextQ p k q
 | 0, q, h, hn, hl => by
  refine nextQ_fix 1 fun h0 hlt => ?_
  have := late_hset h hn h0 hlt
  omega
 | k + 1, q, h, hn, hl => by
  by_cases hd : 0 < q.length ∧ (gt q 0).1 < p (gt q 0).2
  ·obtain ⟨h1, h2, _⟩ := hset_ok h hn (p (gt q 0).2, (gt q 0).2)
   have hlt := late_hset h hn hd.1 hd.2
   have e : ∀ k, nextQ p (k + 1) q = nextQ p k (hset q (p (gt q 0).2, (gt q 0).2)) := fun k => by
    rw [nextQ, decide_eq_true hd.1, decide_eq_true hd.2]; rfl
   rw [e (k + 1), e k]
   exact nextQ_more k h1 h2 (by omega)
  ·rw [nextQ_fix (k + 1 + 1) fun h0 h1 => hd ⟨h0, h1⟩, nextQ_fix (k + 1) fun h0 h1 => hd ⟨h0, h1⟩]
theorem nextQ_late {p : Int → Int} {q : List It} (h : Hp q) (hn : Nd q) : ∀ k, late p q ≤ k → nextQ p k q = nextQ p (late p q) q
 | k, hl => by
  obtain ⟨d, rfl⟩ : ∃ d, k = late p q + d := ⟨k - late p q, by omega⟩
  clear hl
  induction d with
  | zero => rfl
  | succ d ih => rw [← Nat.add_assoc, nextQ_more _ h hn (by omega), ih]
theorem late_le (p : Int → Int) (q : List It) : late p q ≤ q.length := List.length_filter_le _ _
/-! ### What holds as vertices go -/
structure BI (n i : Nat) (W : Int) (o0 : OE) (S : BS) : Prop where
 hp : Hp S.q
 nd : Nd S.q
 el : ∀ {v}, hasL S.q v = true → 0 ≤ v ∧ v < n
 ct : S.q.length + i = n
 oi : OI n (fun v => hasL S.q v = true) (W * 2 ^ i) S.o
 gb : ∀ u, 0 ≤ S.gn u ∧ S.gn u ≤ i
 bk : ∀ {a b c}, Wo S.o a b c → Wo o0 a b c
 kw : ∀ {x}, x ∈ S.ks → Wo o0 x.f x.t x.w
 kd : ∀ {x}, x ∈ S.ks → (0 ≤ x.f ∧ x.f < n) ∧ (0 ≤ x.t ∧ x.t < n) ∧ x.f ≠ x.t ∧ (hasL S.q x.f = false ∨ hasL S.q x.t = false) ∧ 0 ≤ x.w ∧ x.w ≤ W * 2 ^ i
 nk : (S.ks.map fun x => (x.f, x.t)).Nodup
 oa : ∀ {a b s}, S.o a b = some s → s.2 = -1 → o0 a b = some (s.1, -1)
 om : ∀ {a b s}, S.o a b = some s → s.2 ≠ -1 → (0 ≤ s.2 ∧ s.2 < n) ∧ hasL S.q s.2 = false ∧ ∃ x y, x ∈ S.ks ∧ y ∈ S.ks ∧ x.f = a ∧ x.t = s.2 ∧ y.f = s.2 ∧ y.t = b ∧ x.w + y.w = s.1
 ka : ∀ {x}, x ∈ S.ks → x.m = -1 → o0 x.f x.t = some (x.w, -1)
 km : ∀ {x}, x ∈ S.ks → x.m ≠ -1 → (0 ≤ x.m ∧ x.m < n) ∧ (∃ y z, y ∈ S.ks ∧ z ∈ S.ks ∧ y.f = x.f ∧ y.t = x.m ∧ z.f = x.m ∧ z.t = x.t ∧ y.w + z.w = x.w) ∧ hasL S.q x.m = false ∧
  (hasL S.q x.f = false → S.rk.getD x.m.toNat 0 < S.rk.getD x.f.toNat 0) ∧ (hasL S.q x.t = false → S.rk.getD x.m.toNat 0 < S.rk.getD x.t.toNat 0)
 rl : S.rk.length = n
 rr : ∀ {v : Int}, 0 ≤ v → v < n → hasL S.q v = false → 0 ≤ S.rk.getD v.toNat 0 ∧ S.rk.getD v.toNat 0 < i
 rd : ∀ {u v : Int}, 0 ≤ u → u < n → hasL S.q u = false → 0 ≤ v → v < n → hasL S.q v = false → S.rk.getD u.toNat 0 = S.rk.getD v.toNat 0 → u = v
section
variable {n i : Nat} {W : Int} {o0 : OE} {S : BS}
theorem BI.q (h : BI n i W o0 S) : Hp (qN n S) ∧ Nd (qN n S) ∧ (∀ v, hasL (qN n S) v = hasL S.q v) ∧ (qN n S).length = S.q.length := by
 obtain ⟨h1, h2, h3⟩ := nextQ_ok (prM n S.o S.gn) S.q.length h.hp h.nd
 exact ⟨h1, h2, h3, len_has h2 h.nd h3⟩
theorem BI.top (h : BI n i W o0 S) (hi : i < n) : 0 < (qN n S).length ∧ hasL S.q (topN n S) = true ∧ 0 ≤ topN n S ∧ topN n S < n := by
 obtain ⟨h1, h2, h3, h4⟩ := h.q
 have h0 : 0 < (qN n S).length := by have := h.ct; omega
 have ht : hasL S.q (topN n S) = true := by rw [← h3]; exact has_at h0
 exact ⟨h0, ht, h.el ht⟩
theorem BI.live (h : BI n i W o0 S) (hi : i < n) (v : Int) : hasL (hpop (qN n S)) v = true ↔ v ≠ topN n S ∧ hasL S.q v = true := by
 obtain ⟨h1, h2, h3, h4⟩ := h.q
 have h0 := (h.top hi).1
 obtain ⟨_, _, p3⟩ := hpop_ok h0 h1 h2
 rw [← h3 v, hasL_iff, hasL_iff]
 constructor
 ·rintro ⟨k, hk⟩
  obtain ⟨e, hk⟩ := (p3 k v).1 hk
  exact ⟨e, k, hk⟩
 ·rintro ⟨e, k, hk⟩
  exact ⟨k, (p3 k v).2 ⟨e, hk⟩⟩
theorem BI.gone (h : BI n i W o0 S) (hi : i < n) {v : Int} (hv : hasL (hpop (qN n S)) v = false) : v = topN n S ∨ hasL S.q v = false := by
 by_cases e : v = topN n S
 ·exact .inl e
 ·right
  cases hx : hasL S.q v with
  | false => rfl
  | true => rw [(h.live hi v).2 ⟨e, hx⟩] at hv; cases hv
theorem BI.stay (h : BI n i W o0 S) (hi : i < n) {v : Int} (hv : hasL S.q v = false) : hasL (hpop (qN n S)) v = false := by
 cases hx : hasL (hpop (qN n S)) v with
 | false => rfl
 | true => rw [((h.live hi v).1 hx).2] at hv; cases hv
theorem BI.away (h : BI n i W o0 S) (hi : i < n) : hasL (hpop (qN n S)) (topN n S) = false := by
 cases hx : hasL (hpop (qN n S)) (topN n S) with
 | false => rfl
 | true => exact absurd rfl ((h.live hi _).1 hx).1
theorem kept_mem {o : OE} {v : Int} {x : Lk} (ho : ∀ {a b s}, o a b = some s → (0 ≤ a ∧ a < n) ∧ (0 ≤ b ∧ b < n)) : x ∈ keptM n o v ↔ (x.f = v ∧ o v x.t = some (x.w, x.m)) ∨ (x.t = v ∧ o x.f v = some (x.w, x.m)) := by
 unfold keptM
 rw [List.mem_append, List.mem_map, List.mem_map]
 constructor
 ·rintro (⟨⟨w, u⟩, hm, e⟩ | ⟨⟨w, u⟩, hm, e⟩)
  ·obtain ⟨_, _, s, hs, _⟩ := itM_mem.1 hm
   unfold lkO at e
   simp only [hs] at e
   subst e
   exact .inl ⟨rfl, hs⟩
  ·obtain ⟨_, _, s, hs, _⟩ := itM_mem.1 hm
   unfold lkI at e
   simp only [hs] at e
   subst e
   exact .inr ⟨rfl, hs⟩
 ·rintro (⟨e, h⟩ | ⟨e, h⟩)
  ·left
   have d := (ho h).2
   refine ⟨(x.w, x.t), itM_mem.2 ⟨d.1, d.2, _, h, rfl⟩, ?_⟩
   unfold lkO
   rw [h]
   cases x; simp only at e; subst e; rfl
  ·right
   have d := (ho h).1
   refine ⟨(x.w, x.f), itM_mem.2 ⟨d.1, d.2, _, h, rfl⟩, ?_⟩
   unfold lkI
   rw [show inM o v x.f = some (x.w, x.m) from h]
   cases x; simp only at e; subst e; rfl
theorem kept_nodup {o : OE} {v : Int} (ho : ∀ {a b s}, o a b = some s → a ≠ b) : ((keptM n o v).map fun x => (x.f, x.t)).Nodup := by
 have pw : ∀ m : Mp, (itM n m).Pairwise fun x y => x.2 < y.2 := fun m => by
  unfold itM
  refine List.Pairwise.filterMap _ (S := fun (a b : It) => a.2 < b.2) (R := fun (a b : Nat) => a < b) ?_ List.pairwise_lt_range
  intro a b hab x hx y hy
  cases ha : m (a : Int) with
  | none => rw [ha] at hx; cases hx
  | some s =>
   cases hb : m (b : Int) with
   | none => rw [hb] at hy; cases hy
   | some t =>
    rw [ha] at hx; rw [hb] at hy
    simp at hx hy
    subst hx; subst hy
    simp only; omega
 have e1 : ∀ x ∈ itM n (o v), (lkO v (o v) x.2).f = v ∧ (lkO v (o v) x.2).t = x.2 ∧ x.2 ≠ v := by
  rintro ⟨w, u⟩ hm
  obtain ⟨_, _, s, hs, _⟩ := itM_mem.1 hm
  unfold lkO
  simp only [hs]
  exact ⟨trivial, trivial, fun e => ho hs e.symm⟩
 have e2 : ∀ x ∈ itM n (inM o v), (lkI v (inM o v) x.2).f = x.2 ∧ (lkI v (inM o v) x.2).t = v ∧ x.2 ≠ v := by
  rintro ⟨w, u⟩ hm
  obtain ⟨_, _, s, hs, _⟩ := itM_mem.1 hm
  unfold lkI
  simp only [hs]
  exact ⟨trivial, trivial, ho (show o u v = some s from hs)⟩
 unfold keptM
 rw [List.map_append, List.map_map, List.map_map, List.nodup_append]
 refine ⟨?_, ?_, ?_⟩
 ·rw [List.nodup_iff_pairwise_ne, List.pairwise_map]
  refine (pw _).imp_of_mem ?_
  intro a b ha hb hab e
  simp only [Function.comp_apply, Prod.mk.injEq] at e
  rw [(e1 a ha).2.1, (e1 b hb).2.1] at e
  omega
 ·rw [List.nodup_iff_pairwise_ne, List.pairwise_map]
  refine (pw _).imp_of_mem ?_
  intro a b ha hb hab e
  simp only [Function.comp_apply, Prod.mk.injEq] at e
  rw [(e2 a ha).1, (e2 b hb).1] at e
  omega
 ·intro x hx y hy e
  obtain ⟨a, ha, rfl⟩ := List.mem_map.1 hx
  obtain ⟨b, hb, rfl⟩ := List.mem_map.1 hy
  simp only [Function.comp_apply, Prod.mk.injEq] at e
  rw [(e1 a ha).2.1, (e2 b hb).2.1] at e
  exact (e1 a ha).2.2 e.2
end
end Go.HeapL
namespace Go.HeapL
theorem getD_set {l : List Int} {k : Nat} (hk : k < l.length) (x : Int) (j : Nat) : (l.set k x).getD j 0 = if j = k then x else l.getD j 0 := by
 rw [List.getD_eq_getElem?_getD, List.getElem?_set]
 by_cases e : j = k
 ·subst e; simp [hk]
 ·rw [if_neg (fun h => e h.symm), if_neg e, List.getD_eq_getElem?_getD]
theorem pow_two (W : Int) (i : Nat) : W * 2 ^ (i + 1) = W * 2 ^ i + W * 2 ^ i := by
 rw [Int.pow_succ, ← Int.mul_assoc]; generalize W * (2 : Int) ^ i = p; omega
section
variable {n i : Nat} {W : Int} {o0 : OE} {S : BS}
theorem BI.step (h : BI n i W o0 S) (hi : i < n) (hn : n ≤ 50) (hW : 0 ≤ W * 2 ^ i) (hB : W * 2 ^ i ≤ mxC) : BI n (i + 1) W o0 (stepB n i S) := by
 obtain ⟨q1, q2, q3, q4⟩ := h.q
 obtain ⟨t0, t1, t2, t3⟩ := h.top hi
 obtain ⟨p1, p2, _⟩ := hpop_ok t0 q1 q2
 have hlive := h.live hi
 have hgone := fun {v} => h.gone hi (v := v)
 have hstay := fun {v} => h.stay hi (v := v)
 have haway := h.away hi
 have hpl := hpop_len t0
 have ho : ∀ {a b s}, S.o a b = some s → (0 ≤ a ∧ a < n) ∧ (0 ≤ b ∧ b < n) := fun hs => by
  have := h.oi.dom hs; exact ⟨⟨this.1.1, this.1.2.1⟩, ⟨this.2.1.1, this.2.1.2.1⟩⟩
 have hkm : ∀ x, x ∈ keptM n S.o (topN n S) ↔ _ := fun x => kept_mem (o := S.o) (v := topN n S) (x := x) ho
 have e1 : (stepB n i S).o = goO n S.o (topN n S) := rfl
 have e2 : (stepB n i S).q = hpop (qN n S) := rfl
 have e3 : (stepB n i S).ks = S.ks ++ keptM n S.o (topN n S) := rfl
 have e4 : (stepB n i S).rk = S.rk.set (topN n S).toNat i := rfl
 have e5 : (stepB n i S).gn = goneM S.gn S.o (topN n S) := rfl
 generalize topN n S = v at *
 generalize hpop (qN n S) = Q at *
 have hrs : ∀ u : Int, 0 ≤ u → (S.rk.set v.toNat (i : Int)).getD u.toNat 0 = if u = v then (i : Int) else S.rk.getD u.toNat 0 := fun u hu => by
  rw [getD_set (by rw [h.rl]; omega)]
  by_cases e : u = v
  ·subst e; simp
  ·rw [if_neg (by omega), if_neg e]
 have hne : ∀ {u : Int}, hasL S.q u = false → u ≠ v := fun hu e => by subst e; rw [t1] at hu; cases hu
 have hp2 := pow_two W i
 refine ⟨?_, ?_, ?_, ?_, ?_, ?_, ?_, ?_, ?_, ?_, ?_, ?_, ?_, ?_, ?_, ?_, ?_⟩
 all_goals try rw [e2]
 all_goals try rw [e4]
 ·exact p1
 ·exact p2
 ·intro u hu; exact h.el ((hlive u).1 hu).2
 ·have := h.ct; omega
 ·rw [e1, hp2]; exact goO_OI h.oi hB hn fun x hx hxv => (hlive x).2 ⟨hxv, hx⟩
 ·intro u
  have := h.gb u
  rw [e5]
  unfold goneM
  split <;> omega
 ·intro a b c hw; rw [e1] at hw; exact h.bk (go_back h.oi hB hn hw)
 ·intro x hx
  rw [e3, List.mem_append] at hx
  rcases hx with hx | hx
  ·exact h.kw hx
  ·rcases (hkm x).1 hx with ⟨e, hs⟩ | ⟨e, hs⟩
   ·rw [e]; exact h.bk (.one hs)
   ·rw [e]; exact h.bk (.one hs)
 ·intro x hx
  rw [e3, List.mem_append] at hx
  rcases hx with hx | hx
  ·obtain ⟨d1, d2, d3, d4, d5, d6⟩ := h.kd hx
   exact ⟨d1, d2, d3, d4.imp hstay hstay, d5, by omega⟩
  ·rcases (hkm x).1 hx with ⟨e, hs⟩ | ⟨e, hs⟩
   ·have d := h.oi.dom hs; have w := h.oi.wt hs
    rw [e]
    exact ⟨⟨d.1.1, d.1.2.1⟩, ⟨d.2.1.1, d.2.1.2.1⟩, d.2.2, .inl haway, w.1, by have := w.2; simp only at this; omega⟩
   ·have d := h.oi.dom hs; have w := h.oi.wt hs
    rw [e]
    exact ⟨⟨d.1.1, d.1.2.1⟩, ⟨d.2.1.1, d.2.1.2.1⟩, d.2.2, .inr haway, w.1, by have := w.2; simp only at this; omega⟩
 ·rw [e3, List.map_append, List.nodup_append]
  refine ⟨h.nk, kept_nodup fun hs => (h.oi.dom hs).2.2, ?_⟩
  intro x hx y hy e
  obtain ⟨a, ha, rfl⟩ := List.mem_map.1 hx
  obtain ⟨b, hb, rfl⟩ := List.mem_map.1 hy
  simp only [Prod.mk.injEq] at e
  have hl : hasL S.q b.f = true ∧ hasL S.q b.t = true := by
   rcases (hkm b).1 hb with ⟨eb, hs⟩ | ⟨eb, hs⟩
   ·have d := h.oi.dom hs; rw [eb]; exact ⟨d.1.2.2, d.2.1.2.2⟩
   ·have d := h.oi.dom hs; rw [eb]; exact ⟨d.1.2.2, d.2.1.2.2⟩
  rcases (h.kd ha).2.2.2.1 with hg | hg
  ·rw [e.1, hl.1] at hg; cases hg
  ·rw [e.2, hl.2] at hg; cases hg
 ·intro a b s hs hm
  rw [e1] at hs
  rcases goO_some h.oi hB hn hs with ⟨_, _, hs | ⟨t, u, _, _, _, rfl⟩⟩
  ·exact h.oa hs hm
  ·simp only at hm; omega
 ·intro a b s hs hm
  rw [e1] at hs
  rcases goO_some h.oi hB hn hs with ⟨_, _, hs | ⟨t, u, h3, h4, h5, rfl⟩⟩
  ·obtain ⟨g1, g2, x, y, hx, hy, g3⟩ := h.om hs hm
   exact ⟨g1, hstay g2, x, y, by rw [e3]; simp [hx], by rw [e3]; simp [hy], g3⟩
  ·refine ⟨⟨t2, t3⟩, haway, ⟨a, v, t.1, t.2⟩, ⟨v, b, u.1, u.2⟩, ?_, ?_, rfl, rfl, rfl, rfl, rfl⟩
   ·rw [e3, List.mem_append]; right; exact (hkm _).2 (.inr ⟨rfl, h3⟩)
   ·rw [e3, List.mem_append]; right; exact (hkm _).2 (.inl ⟨rfl, h4⟩)
 ·intro x hx hm
  rw [e3, List.mem_append] at hx
  rcases hx with hx | hx
  ·exact h.ka hx hm
  ·rcases (hkm x).1 hx with ⟨e, hs⟩ | ⟨e, hs⟩
   ·rw [e]; exact h.oa hs hm
   ·rw [e]; exact h.oa hs hm
 ·intro x hx hm
  rw [e3, List.mem_append] at hx
  rcases hx with hx | hx
  ·obtain ⟨g1, ⟨y, z, hy, hz, g2⟩, g3, g4, g5⟩ := h.km hx hm
   obtain ⟨d1, d2, _⟩ := h.kd hx
   have hr := h.rr g1.1 g1.2 g3
   refine ⟨g1, ⟨y, z, by rw [e3]; simp [hy], by rw [e3]; simp [hz], g2⟩, hstay g3, fun hf => ?_, fun hf => ?_⟩
   ·rw [hrs _ g1.1, hrs _ d1.1, if_neg (hne g3)]
    split
    ·exact hr.2
    ·rename_i hfv
     rcases hgone hf with e | e
     ·exact absurd e hfv
     ·exact g4 e
   ·rw [hrs _ g1.1, hrs _ d2.1, if_neg (hne g3)]
    split
    ·exact hr.2
    ·rename_i hfv
     rcases hgone hf with e | e
     ·exact absurd e hfv
     ·exact g5 e
  ·have key : ∀ a b, S.o a b = some (x.w, x.m) → x.f = a → x.t = b → (a = v ∨ b = v) → (0 ≤ x.m ∧ x.m < n) ∧ (∃ y z, y ∈ S.ks ++ keptM n S.o v ∧ z ∈ S.ks ++ keptM n S.o v ∧ y.f = x.f ∧ y.t = x.m ∧ z.f = x.m ∧ z.t = x.t ∧ y.w + z.w = x.w) ∧ hasL Q x.m = false ∧
     (hasL Q x.f = false → (S.rk.set v.toNat (i : Int)).getD x.m.toNat 0 < (S.rk.set v.toNat (i : Int)).getD x.f.toNat 0) ∧ (hasL Q x.t = false → (S.rk.set v.toNat (i : Int)).getD x.m.toNat 0 < (S.rk.set v.toNat (i : Int)).getD x.t.toNat 0) := by
    intro a b hs ef et hab
    obtain ⟨g1, g2, y, z, hy, hz, g3, g4, g5, g6, g7⟩ := h.om hs hm
    have d := h.oi.dom hs
    have hr := h.rr g1.1 g1.2 g2
    have hlt : ∀ u, 0 ≤ u → hasL S.q u = true → hasL Q u = false → (S.rk.set v.toNat (i : Int)).getD x.m.toNat 0 < (S.rk.set v.toNat (i : Int)).getD u.toNat 0 := by
     intro u h0 hul hug
     rw [hrs _ g1.1, hrs _ h0, if_neg (hne g2)]
     split
     ·exact hr.2
     ·rename_i huv
      rcases hgone hug with e | e
      ·exact absurd e huv
      ·rw [hul] at e; cases e
    refine ⟨g1, ⟨y, z, by simp [hy], by simp [hz], g3.trans ef.symm, g4, g5, g6.trans et.symm, g7⟩, hstay g2, fun hf => ?_, fun hf => ?_⟩
    ·rw [ef] at hf ⊢; exact hlt a d.1.1 d.1.2.2 hf
    ·rw [et] at hf ⊢; exact hlt b d.2.1.1 d.2.1.2.2 hf
   rw [e3]
   rcases (hkm x).1 hx with ⟨e, hs⟩ | ⟨e, hs⟩
   ·exact key v x.t hs e rfl (.inl rfl)
   ·exact key x.f v hs rfl e (.inr rfl)
 ·rw [List.length_set]; exact h.rl
 ·intro u h0 h1 hu
  rw [hrs u h0]
  split
  ·omega
  ·rename_i huv
   rcases hgone hu with e | e
   ·exact absurd e huv
   ·have := h.rr h0 h1 e; omega
 ·intro u w h0 h1 hu k0 k1 hw
  rw [hrs u h0, hrs w k0]
  have hu' := hgone hu
  have hw' := hgone hw
  split
  ·rename_i eu
   split
   ·rename_i ew; intro _; rw [eu, ew]
   ·rename_i ew
    rcases hw' with e | e
    ·exact absurd e ew
    ·have := h.rr k0 k1 e; omega
  ·rename_i eu
   rcases hu' with e | eg
   ·exact absurd e eu
   ·split
    ·have := h.rr h0 h1 eg; omega
    ·rename_i ew
     rcases hw' with e | e
     ·exact absurd e ew
     ·exact h.rd h0 h1 eg k0 k1 e
end
end Go.HeapL
namespace Go.HeapL
/-! ### A graph that may be -/
structure GrOK (g : Gr) : Prop where
 pos : 1 ≤ g.st.length
 s0 : g.st.getD 0 0 = 0
 sn : g.st.getD g.n 0 = g.hd.length
 wl : g.wt.length = g.hd.length
 mono : ∀ v : Nat, v < g.n → g.st.getD v 0 ≤ g.st.getD (v + 1) 0
 arc : ∀ v : Nat, v < g.n → ∀ i : Nat, g.st.getD v 0 ≤ i → (i : Int) < g.st.getD (v + 1) 0 → (0 ≤ g.hd.getD i 0 ∧ g.hd.getD i 0 < g.n) ∧ (0 ≤ g.wt.getD i 0 ∧ g.wt.getD i 0 ≤ 2147483648) ∧ (g.st.getD v 0 < i → g.hd.getD (i - 1) 0 < g.hd.getD i 0)
theorem arcB_iff {g : Gr} {a b : Int} {k : Nat} : arcB g a b k = true ↔ ∃ v : Nat, a = v ∧ v < g.n ∧ g.st.getD v 0 ≤ k ∧ (k : Int) < g.st.getD (v + 1) 0 ∧ g.hd.getD k 0 = b ∧ a ≠ b := by
 unfold arcB
 simp only [Bool.and_eq_true, decide_eq_true_eq]
 constructor
 ·rintro ⟨⟨⟨⟨⟨h1, h2⟩, h3⟩, h4⟩, h5⟩, h6⟩
  refine ⟨a.toNat, by omega, by omega, h3, ?_, h5, h6⟩
  unfold Gr.s at h4
  rw [show (a + 1).toNat = a.toNat + 1 by omega] at h4
  exact h4
 ·rintro ⟨v, rfl, h2, h3, h4, h5, h6⟩
  exact ⟨⟨⟨⟨⟨by omega, by omega⟩, h3⟩, h4⟩, h5⟩, h6⟩
section
variable {g : Gr}
theorem GrOK.le (h : GrOK g) {u v : Nat} (huv : u ≤ v) (hv : v ≤ g.n) : g.st.getD u 0 ≤ g.st.getD v 0 := by
 induction v with
 | zero => rw [show u = 0 by omega]; exact Int.le_refl _
 | succ v ih =>
  by_cases e : u = v + 1
  ·subst e; exact Int.le_refl _
  ·have := ih (by omega) (by omega)
   have := h.mono v (by omega)
   omega
theorem GrOK.nn (h : GrOK g) {v : Nat} (hv : v ≤ g.n) : 0 ≤ g.st.getD v 0 ∧ g.st.getD v 0 ≤ g.hd.length := by
 have h1 := h.le (Nat.zero_le v) hv
 have h2 := h.le hv (Nat.le_refl _)
 rw [h.s0] at h1; rw [h.sn] at h2
 exact ⟨h1, h2⟩
theorem GrOK.same (h : GrOK g) {u v k : Nat} (hu : u < g.n) (hv : v < g.n) (u1 : g.st.getD u 0 ≤ k) (u2 : (k : Int) < g.st.getD (u + 1) 0) (v1 : g.st.getD v 0 ≤ k) (v2 : (k : Int) < g.st.getD (v + 1) 0) : u = v := by
 rcases Nat.lt_trichotomy u v with e | e | e
 ·have := h.le (show u + 1 ≤ v by omega) (by omega); omega
 ·exact e
 ·have := h.le (show v + 1 ≤ u by omega) (by omega); omega
theorem GrOK.rise (h : GrOK g) {v k : Nat} (hv : v < g.n) : ∀ d : Nat, g.st.getD v 0 ≤ k → ((k + (d + 1) : Nat) : Int) < g.st.getD (v + 1) 0 → g.hd.getD k 0 < g.hd.getD (k + (d + 1)) 0
 | 0, h1, h2 => by
  have := (h.arc v hv (k + 1) (by omega) (by omega)).2.2 (by omega)
  simpa using this
 | d + 1, h1, h2 => by
  have ih := GrOK.rise h hv d h1 (by omega)
  have := (h.arc v hv (k + (d + 1 + 1)) (by omega) (by omega)).2.2 (by omega)
  rw [show k + (d + 1 + 1) - 1 = k + (d + 1) by omega] at this
  omega
theorem oP_at {a b : Int} {s : Int × Int} {i : Nat} (hs : oP g i a b = some s) : ∃ k, k < i ∧ arcB g a b k = true ∧ s = (g.wt.getD k 0, -1) := by
 unfold oP at hs
 rw [Option.map_eq_some_iff] at hs
 obtain ⟨k, hk, e⟩ := hs
 exact ⟨k, List.mem_range.1 (List.mem_of_find?_eq_some hk), List.find?_some hk, e.symm⟩
theorem oP_mem (h : GrOK g) {a b : Int} {i k : Nat} (hk : k < i) (ha : arcB g a b k = true) : oP g i a b = some (g.wt.getD k 0, -1) := by
 have hu : ∀ k', arcB g a b k' = true → k' = k := fun k' hk' => by
  obtain ⟨v, e1, e2, e3, e4, e5, e6⟩ := arcB_iff.1 ha
  obtain ⟨v', f1, f2, f3, f4, f5, f6⟩ := arcB_iff.1 hk'
  have : v' = v := by omega
  subst this
  rcases Nat.lt_trichotomy k' k with e | e | e
  ·have := h.rise e2 (k - k' - 1) f3 (by omega)
   rw [show k' + (k - k' - 1 + 1) = k by omega] at this; omega
  ·exact e
  ·have := h.rise e2 (k' - k - 1) e3 (by omega)
   rw [show k + (k' - k - 1 + 1) = k' by omega] at this; omega
 unfold oP
 cases hf : (List.range i).find? (arcB g a b) with
 | none =>
  rw [List.find?_eq_none] at hf
  exact absurd ha (hf k (List.mem_range.2 hk))
 | some k' =>
  rw [hu k' (List.find?_some hf)]; rfl
theorem oP_succ (i : Nat) (a b : Int) : oP g (i + 1) a b = match oP g i a b with
  | some s => some s
  | none => if arcB g a b i = true then some (g.wt.getD i 0, -1) else none := by
 unfold oP
 rw [List.range_succ, List.find?_append]
 cases (List.range i).find? (arcB g a b) with
 | none => by_cases e : arcB g a b i = true <;> simp [e]
 | some k => rfl
theorem oP_loop (h : GrOK g) {v i : Nat} (hv : v < g.n) (h1 : g.st.getD v 0 ≤ i) (h2 : (i : Int) < g.st.getD (v + 1) 0) (e : g.hd.getD i 0 = v) : oP g (i + 1) = oP g i := by
 funext a b
 rw [oP_succ]
 split
 ·rename_i s hs; exact hs.symm
 ·rename_i hn
  rw [if_neg, hn]
  intro ha
  obtain ⟨u, e1, e2, e3, e4, e5, e6⟩ := arcB_iff.1 ha
  have := h.same e2 hv e3 e4 h1 h2
  subst this
  omega
theorem oP_put (h : GrOK g) {v i : Nat} (hv : v < g.n) (h1 : g.st.getD v 0 ≤ i) (h2 : (i : Int) < g.st.getD (v + 1) 0) (e : g.hd.getD i 0 ≠ v) : putM (oP g i) ⟨v, g.hd.getD i 0, g.wt.getD i 0, -1⟩ = oP g (i + 1) := by
 have hno : oP g i v (g.hd.getD i 0) = none := by
  cases hs : oP g i v (g.hd.getD i 0) with
  | none => rfl
  | some s =>
   obtain ⟨k, hk, ha, _⟩ := oP_at hs
   obtain ⟨u, e1, e2, e3, e4, e5, e6⟩ := arcB_iff.1 ha
   have : u = v := by omega
   subst this
   have := h.rise e2 (i - k - 1) e3 (by omega)
   rw [show k + (i - k - 1 + 1) = i by omega] at this
   omega
 rcases putM_cases (oP g i) ⟨v, g.hd.getD i 0, g.wt.getD i 0, -1⟩ with ⟨s, hs, _⟩ | ⟨_, ep⟩
 ·have hs : oP g i v (g.hd.getD i 0) = some s := hs
  rw [hno] at hs; cases hs
 ·rw [ep]
  funext a b
  rw [oP_succ]
  show (if a = (v : Int) ∧ b = g.hd.getD i 0 then some (g.wt.getD i 0, (-1 : Int)) else oP g i a b) = _
  by_cases hab : a = (v : Int) ∧ b = g.hd.getD i 0
  ·obtain ⟨rfl, rfl⟩ := hab
   rw [hno, if_pos ⟨rfl, rfl⟩]
   simp only
   rw [if_pos (arcB_iff.2 ⟨v, rfl, hv, h1, h2, rfl, fun e' => e e'.symm⟩)]
  ·rw [if_neg hab]
   split
   ·rename_i s hs; exact hs
   ·rename_i hn
    rw [hn, if_neg]
    intro ha
    obtain ⟨u, e1, e2, e3, e4, e5, e6⟩ := arcB_iff.1 ha
    have := h.same e2 hv e3 e4 h1 h2
    subst this
    exact hab ⟨e1, e5.symm⟩
theorem oP_OI (h : GrOK g) (i : Nat) {L : Int → Prop} (hL : ∀ v : Int, 0 ≤ v → v < g.n → L v) : OI g.n L 2147483648 (oP g i) := by
 refine ⟨fun {a b s} hs => ?_, fun {a b s} hs => ?_⟩
 all_goals
  obtain ⟨k, hk, ha, rfl⟩ := oP_at hs
  obtain ⟨u, rfl, e2, e3, e4, rfl, e6⟩ := arcB_iff.1 ha
  have := h.arc u e2 k e3 e4
 ·exact ⟨⟨by omega, by omega, hL _ (by omega) (by omega)⟩, ⟨this.1.1, this.1.2, hL _ this.1.1 this.1.2⟩, e6⟩
 ·exact this.2.1
/-! ### All vertices wait -/
theorem q0_ok (n : Nat) (o : OE) : ∀ k : Nat, Hp (q0 n o k) ∧ Nd (q0 n o k) ∧ (∀ v, hasL (q0 n o k) v = true ↔ 0 ≤ v ∧ v < k) ∧ (q0 n o k).length = k
 | 0 => by
  refine ⟨fun j _ h => absurd h (Nat.not_lt_zero _), List.nodup_nil, fun v => ⟨fun h => ?_, fun h => ?_⟩, rfl⟩
  ·cases h
  ·omega
 | k + 1 => by
  obtain ⟨h1, h2, h3, h4⟩ := q0_ok n o k
  obtain ⟨g1, g2, g3⟩ := hset_ok h1 h2 (prM n o (fun _ => 0) (k : Int), (k : Int))
  have hm : ∀ v, hasL (q0 n o (k + 1)) v = true ↔ 0 ≤ v ∧ v < (k + 1 : Nat) := by
   intro v
   rw [hasL_iff]
   constructor
   ·rintro ⟨x, hx⟩
    rcases (g3 x v).1 hx with ⟨e, _⟩ | ⟨_, hx⟩
    ·have e : v = k := e; omega
    ·have := (h3 v).1 (hasL_iff.2 ⟨x, hx⟩); omega
   ·intro hv
    by_cases e : v = k
    ·exact ⟨_, (g3 _ v).2 (.inl ⟨e, rfl⟩)⟩
    ·obtain ⟨x, hx⟩ := hasL_iff.1 ((h3 v).2 (by omega))
     exact ⟨x, (g3 x v).2 (.inr ⟨e, hx⟩)⟩
  refine ⟨g1, g2, hm, ?_⟩
  have hp : ((q0 n o (k + 1)).map fun x : It => x.2).Perm ((List.range (k + 1)).map fun (j : Nat) => (j : Int)) := by
   refine (List.perm_ext_iff_of_nodup g2 ?_).2 fun v => ?_
   ·rw [List.nodup_iff_pairwise_ne, List.pairwise_map]
    exact List.nodup_range.imp fun h e => h (by omega)
   ·have : v ∈ (q0 n o (k + 1)).map (fun x : It => x.2) ↔ hasL (q0 n o (k + 1)) v = true := by
     rw [hasL_iff, List.mem_map]
     exact ⟨fun ⟨⟨x, u⟩, hu, e⟩ => ⟨x, by simp only at e; subst e; exact hu⟩, fun ⟨x, hx⟩ => ⟨(x, v), hx, rfl⟩⟩
    refine this.trans ?_
    rw [hm, List.mem_map]
    constructor
    ·intro h; exact ⟨v.toNat, List.mem_range.2 (by omega), by omega⟩
    ·rintro ⟨j, hj, rfl⟩; have := List.mem_range.1 hj; omega
  simpa using hp.length_eq
theorem b0_BI (h : GrOK g) : BI g.n 0 2147483648 (oP g g.hd.length) (b0 g) := by
 obtain ⟨h1, h2, h3, h4⟩ := q0_ok g.n (oP g g.hd.length) g.n
 have hn : ∀ {v : Int}, 0 ≤ v → v < g.n → hasL (b0 g).q v = true := fun h0 h1 => (h3 _).2 ⟨h0, h1⟩
 refine ⟨h1, h2, fun hv => (h3 _).1 hv, h4, ?_, fun u => ⟨Int.le_refl _, Int.le_refl _⟩, fun h => h, fun h => (by cases h), fun h => (by cases h), List.nodup_nil, fun {a b s} hs hm => ?_, fun {a b s} hs hm => ?_, fun h => (by cases h), fun h => (by cases h), (by simp [b0]), fun h0 h1 h2 => ?_, fun h0 h1 h2 => ?_⟩
 ·have := oP_OI h g.hd.length (L := fun v => hasL (b0 g).q v = true) fun v a b => hn a b
  simpa [b0] using this
 ·have hs : oP g g.hd.length a b = some s := hs
  rw [hs, ← hm]
 ·obtain ⟨k, _, _, e⟩ := oP_at (show oP g g.hd.length a b = some s from hs)
  subst e; exact absurd rfl hm
 ·rw [hn h0 h1] at h2; cases h2
 ·rw [hn h0 h1] at h2; cases h2
theorem itr_BI (h : GrOK g) (hn : g.n ≤ 28) : ∀ i : Nat, i ≤ g.n → BI g.n i 2147483648 (oP g g.hd.length) (itrB g.n (b0 g) i)
 | 0, _ => b0_BI h
 | i + 1, hi => by
  have ih := itr_BI h hn i (by omega)
  have hp : (1 : Int) ≤ 2 ^ i ∧ (2 : Int) ^ i ≤ 268435456 := by
   have h1 : (1 : Nat) ≤ 2 ^ i := Nat.one_le_two_pow
   have h2 : (2 : Nat) ^ i ≤ 2 ^ 28 := Nat.pow_le_pow_right (by omega) (by omega)
   have e : ((2 ^ i : Nat) : Int) = (2 : Int) ^ i := by simp
   have h3 : (2 : Nat) ^ 28 = 268435456 := by decide
   omega
  exact ih.step (by omega) (by omega) (by omega) (by unfold mxC; omega)
end
end Go.HeapL
namespace Go.HeapL
/-- Links are at most as many as pairs. -/
theorem pairs_len {n : Nat} {ks : List Lk} (hn : (ks.map fun x => (x.f, x.t)).Nodup) (hr : ∀ x ∈ ks, (0 ≤ x.f ∧ x.f < n) ∧ (0 ≤ x.t ∧ x.t < n)) : ks.length ≤ n * n := by
 have h1 : (ks.map fun x => x.f.toNat * n + x.t.toNat).Nodup := by
  rw [List.nodup_iff_pairwise_ne, List.pairwise_map] at *
  refine hn.imp_of_mem ?_
  intro a b ha hb hab e
  have ra := hr a ha
  have rb := hr b hb
  apply hab
  have h0 : 0 < n := by omega
  have e1 : a.t.toNat = b.t.toNat := by
   have h := congrArg (· % n) e
   simp only [Nat.mul_add_mod_self_right] at h
   rwa [Nat.mod_eq_of_lt (by omega), Nat.mod_eq_of_lt (by omega)] at h
  have e2 : a.f.toNat = b.f.toNat := by
   rw [e1] at e
   exact Nat.eq_of_mul_eq_mul_right h0 (Nat.add_right_cancel e)
  rw [show a.f = b.f by omega, show a.t = b.t by omega]
 have := nd_le (n * n) (ks.map fun x => x.f.toNat * n + x.t.toNat) h1 (fun x hx => by
  obtain ⟨a, ha, rfl⟩ := List.mem_map.1 hx
  have ra := hr a ha
  have : a.f.toNat * n + a.t.toNat < a.f.toNat * n + n := by omega
  have h2 : a.f.toNat * n + n = (a.f.toNat + 1) * n := by rw [Nat.add_mul, Nat.one_mul]
  have h3 : (a.f.toNat + 1) * n ≤ n * n := Nat.mul_le_mul_right n (by omega)
  omega)
 simpa using this
theorem BI.len {n i : Nat} {W : Int} {o0 : OE} {S : BS} (h : BI n i W o0 S) : S.ks.length ≤ n * n :=
 pairs_len h.nk fun x hx => ⟨(h.kd hx).1, (h.kd hx).2.1⟩
end Go.HeapL
namespace Go.HeapL
/-! ### What is kept -/
section
variable {g : Gr}
abbrev Si (g : Gr) (i : Nat) : BS := itrB g.n (b0 g) i
theorem Si_BI (h : GrOK g) (hn : g.n ≤ 28) (i : Nat) (hi : i ≤ g.n) : BI g.n i 2147483648 (oP g g.hd.length) (Si g i) := itr_BI h hn i hi
theorem rk_stay (h : GrOK g) (hn : g.n ≤ 28) {i : Nat} {v : Int} (hv : 0 ≤ v ∧ v < g.n) (hg : hasL (Si g i).q v = false) : ∀ d : Nat, i + d ≤ g.n → hasL (Si g (i + d)).q v = false ∧ (Si g (i + d)).rk.getD v.toNat 0 = (Si g i).rk.getD v.toNat 0
 | 0, _ => ⟨hg, rfl⟩
 | d + 1, hd => by
  obtain ⟨e1, e2⟩ := rk_stay h hn hv hg d (by omega)
  have hB := Si_BI h hn (i + d) (by omega)
  have hi : i + d < g.n := by omega
  obtain ⟨_, t1, t2, t3⟩ := hB.top hi
  refine ⟨hB.stay hi e1, ?_⟩
  show ((Si g (i + d)).rk.set (topN g.n (Si g (i + d))).toNat ((i + d : Nat) : Int)).getD v.toNat 0 = _
  rw [getD_set (by rw [hB.rl]; omega), if_neg, e2]
  intro e
  have : v = topN g.n (Si g (i + d)) := by omega
  rw [this] at e1
  rw [e1] at t1; cases t1
theorem rk_top (h : GrOK g) (hn : g.n ≤ 28) {i : Nat} (hi : i < g.n) : (ofB g).rk.getD (topN g.n (Si g i)).toNat 0 = i := by
 have hB := Si_BI h hn i (by omega)
 obtain ⟨_, t1, t2, t3⟩ := hB.top hi
 have hs := (rk_stay h hn (i := i + 1) ⟨t2, t3⟩ (hB.away hi) (g.n - (i + 1)) (by omega)).2
 rw [show i + 1 + (g.n - (i + 1)) = g.n by omega] at hs
 show (Si g g.n).rk.getD _ 0 = _
 rw [hs]
 show ((Si g i).rk.set (topN g.n (Si g i)).toNat (i : Int)).getD (topN g.n (Si g i)).toNat 0 = i
 rw [getD_set (by rw [hB.rl]; omega), if_pos rfl]
theorem rk_live (h : GrOK g) (hn : g.n ≤ 28) : ∀ (d i : Nat), i + d = g.n → ∀ u, hasL (Si g i).q u = true → (i : Int) ≤ (ofB g).rk.getD u.toNat 0
 | 0, i, e, u, hu => by
  have hB := Si_BI h hn i (by omega)
  have := hB.ct
  have h0 : (Si g i).q.length = 0 := by omega
  obtain ⟨k, hk⟩ := hasL_iff.1 hu
  rw [List.length_eq_zero_iff.1 h0] at hk; cases hk
 | d + 1, i, e, u, hu => by
  have hB := Si_BI h hn i (by omega)
  have hi : i < g.n := by omega
  by_cases ht : u = topN g.n (Si g i)
  ·rw [ht, rk_top h hn hi]; omega
  ·have := rk_live h hn d (i + 1) (by omega) u ((hB.live hi u).2 ⟨ht, hu⟩)
   omega
theorem ks_grow (h : GrOK g) {i : Nat} : ∀ d : Nat, ∀ x ∈ (Si g i).ks, x ∈ (Si g (i + d)).ks
 | 0, x, hx => hx
 | d + 1, x, hx => List.mem_append_left _ (ks_grow h d x hx)
theorem kept_in (h : GrOK g) (hn : g.n ≤ 28) {i : Nat} (hi : i < g.n) {x : Lk} (hx : x ∈ keptM g.n (Si g i).o (topN g.n (Si g i))) : x ∈ (ofB g).ks := by
 have : x ∈ (Si g (i + 1)).ks := List.mem_append_right _ hx
 have := ks_grow h (i := i + 1) (g.n - (i + 1)) x this
 rw [show i + 1 + (g.n - (i + 1)) = g.n by omega] at this
 exact this
/-! ### The theorem of hierarchies -/
theorem wk_pre {lk : Int → List It} {v y w : Int} (hl : (w, y) ∈ lk v) {m k : Int} (h : Wk [(0, y)] lk m k) : Wk [(0, v)] lk m (w + k) := by
 induction h with
 | start hm =>
  rw [List.mem_singleton] at hm
  cases hm
  have := Wk.step (Wk.start (st := [(0, v)]) (lk := lk) (List.mem_singleton.2 rfl)) hl
  rw [Int.zero_add] at this
  rw [Int.add_zero]; exact this
 | step _ hm ih =>
  have := Wk.step ih hm
  rw [Int.add_assoc] at this; exact this
theorem keeps_step {n : Nat} {L : Int → Prop} {B : Int} {o : OE} {v : Int} {lkU lkD : Int → List It} (hO : OI n L B o) (hB : B ≤ mxC) (hn : n ≤ 50)
  (hU : ∀ u s, o v u = some s → (s.1, u) ∈ lkU v) (hD : ∀ u s, o u v = some s → (s.1, u) ∈ lkD v)
  (ih : ∀ a b c, L a → a ≠ v → L b → b ≠ v → Wo (goO n o v) a b c → ∃ c', c' ≤ c ∧ two [(0, a)] [(0, b)] lkU lkD c') {a b c : Int} (ha : L a) (hb : L b) (hw : Wo o a b c) : ∃ c', c' ≤ c ∧ two [(0, a)] [(0, b)] lkU lkD c' := by
 obtain ⟨g1, g2, g3⟩ := go_walk hO hB hn hw (v := v)
 have hc := hw.nn hO
 by_cases eav : a = v
 ·by_cases ebv : b = v
  ·subst eav; subst ebv
   exact ⟨0, hc, b, 0, 0, .start (List.mem_singleton.2 rfl), .start (List.mem_singleton.2 rfl), rfl⟩
  ·obtain ⟨y, s, c', e1, e2, e3⟩ := g2 eav ebv
   have d := hO.dom e1
   obtain ⟨c2, l2, m, ka, kz, w1, w2, rfl⟩ := ih y b c' d.2.1.2.2 d.2.2.symm hb ebv e2
   rw [eav]
   exact ⟨s.1 + (ka + kz), by omega, m, s.1 + ka, kz, wk_pre (hU y s e1) w1, w2, by omega⟩
 ·by_cases ebv : b = v
  ·obtain ⟨y, s, c', e1, e2, e3⟩ := g3 eav ebv
   have d := hO.dom e1
   obtain ⟨c2, l2, m, ka, kz, w1, w2, rfl⟩ := ih a y c' ha eav d.1.2.2 d.2.2 e2
   rw [ebv]
   exact ⟨(ka + kz) + s.1, by omega, m, ka, s.1 + kz, w1, wk_pre (hD y s e1) w2, by omega⟩
  ·obtain ⟨c', l, e⟩ := g1 eav ebv
   obtain ⟨c2, l2, h2⟩ := ih a b c' ha eav hb ebv e
   exact ⟨c2, by omega, h2⟩
theorem keeps_down (h : GrOK g) (hn : g.n ≤ 28) {lkU lkD : Int → List It}
  (hU : ∀ i, i < g.n → ∀ u s, (Si g i).o (topN g.n (Si g i)) u = some s → (s.1, u) ∈ lkU (topN g.n (Si g i))) (hD : ∀ i, i < g.n → ∀ u s, (Si g i).o u (topN g.n (Si g i)) = some s → (s.1, u) ∈ lkD (topN g.n (Si g i))) :
  ∀ (d i : Nat), i + d = g.n → ∀ a b c, hasL (Si g i).q a = true → hasL (Si g i).q b = true → Wo (Si g i).o a b c → ∃ c', c' ≤ c ∧ two [(0, a)] [(0, b)] lkU lkD c'
 | 0, i, e, a, b, c, ha, _, _ => by
  have hB := Si_BI h hn i (by omega)
  have := hB.ct
  have h0 : (Si g i).q.length = 0 := by omega
  obtain ⟨k, hk⟩ := hasL_iff.1 ha
  rw [List.length_eq_zero_iff.1 h0] at hk; cases hk
 | d + 1, i, e, a, b, c, ha, hb, hw => by
  have hi : i < g.n := by omega
  have hB := Si_BI h hn i (by omega)
  have hp : (2147483648 : Int) * 2 ^ i ≤ mxC := by
   have h2 : (2 : Nat) ^ i ≤ 2 ^ 28 := Nat.pow_le_pow_right (by omega) (by omega)
   have e : ((2 ^ i : Nat) : Int) = (2 : Int) ^ i := by simp
   have h3 : (2 : Nat) ^ 28 = 268435456 := by decide
   unfold mxC; omega
  refine keeps_step hB.oi hp (by omega) (hU i hi) (hD i hi) (fun a b c ha na hb nb hw => ?_) ha hb hw
  exact keeps_down h hn hU hD d (i + 1) (by omega) a b c ((hB.live hi a).2 ⟨na, ha⟩) ((hB.live hi b).2 ⟨nb, hb⟩) hw
theorem wk_wo {lk : Int → List It} {o : OE} (hl : ∀ u w v, (w, v) ∈ lk u → Wo o u v w) {a m k : Int} (h : Wk [(0, a)] lk m k) : Wo o a m k := by
 induction h with
 | start hm => rw [List.mem_singleton] at hm; cases hm; exact .nil _
 | step _ hm ih => exact ih.trans (hl _ _ _ hm)
theorem wk_wo' {lk : Int → List It} {o : OE} (hl : ∀ u w v, (w, v) ∈ lk u → Wo o v u w) {a m k : Int} (h : Wk [(0, a)] lk m k) : Wo o m a k := by
 induction h with
 | start hm => rw [List.mem_singleton] at hm; cases hm; exact .nil _
 | step _ hm ih => exact ((hl _ _ _ hm).trans ih).to (by omega)
end
end Go.HeapL
namespace Go.HeapL
/-! ### Going on till nothing is less -/
/-- Walks of so many arcs. -/
inductive Wn (lk : Int → List It) (st : List It) : Nat → Int → Int → Prop
 | nil {k a : Int} (h : (k, a) ∈ st) : Wn lk st 0 a k
 | step {j : Nat} {u d w v : Int} (h : Wn lk st j u d) (h2 : (w, v) ∈ lk u) : Wn lk st (j + 1) v (d + w)
theorem wn_cons {lk : Int → List It} {a y w : Int} (hl : (w, y) ∈ lk a) {j : Nat} {v c : Int} (h : Wn lk [(0, y)] j v c) : Wn lk [(0, a)] (j + 1) v (w + c) := by
 induction h with
 | nil hm =>
  rw [List.mem_singleton] at hm
  cases hm
  have := Wn.step (Wn.nil (lk := lk) (st := [(0, a)]) (List.mem_singleton.2 rfl)) hl
  rw [Int.zero_add] at this
  rw [Int.add_zero]; exact this
 | step _ hm ih =>
  have := Wn.step ih hm
  rw [Int.add_assoc] at this; exact this
theorem wk_wn {lk : Int → List It} {st : List It} {v d : Int} (h : Wk st lk v d) : ∃ j, Wn lk st j v d := by
 induction h with
 | start hm => exact ⟨0, .nil hm⟩
 | step _ hm ih => obtain ⟨j, hj⟩ := ih; exact ⟨j + 1, .step hj hm⟩
theorem wn_one {lk : Int → List It} {st : List It} {j : Nat} {v d : Int} (h : Wn lk st j v d) : ∃ k a c, (k, a) ∈ st ∧ Wn lk [(0, a)] j v c ∧ d = k + c := by
 induction h with
 | nil hm => exact ⟨_, _, 0, hm, .nil (List.mem_singleton.2 rfl), by omega⟩
 | step _ hm ih =>
  obtain ⟨k, a, c, h1, h2, rfl⟩ := ih
  exact ⟨k, a, _, h1, .step h2 hm, by omega⟩
theorem wn_of {lk : Int → List It} {st : List It} {k a : Int} (h : (k, a) ∈ st) {j : Nat} {v c : Int} (hw : Wn lk [(0, a)] j v c) : Wn lk st j v (k + c) := by
 induction hw with
 | nil hm =>
  rw [List.mem_singleton] at hm
  cases hm
  rw [Int.add_zero]; exact .nil h
 | step _ hm ih => rw [← Int.add_assoc]; exact .step ih hm
/-- Walks past some vertices. -/
inductive Wc (lk : Int → List It) (R : List Int) : Int → Int → Int → Prop
 | nil (a : Int) (h : a ∉ R) : Wc lk R a a 0
 | cons {a x w v c : Int} (h : a ∉ R) (h2 : (w, x) ∈ lk a) (k : Wc lk R x v c) : Wc lk R a v (w + c)
theorem wc_part {lk : Int → List It} {R : List Int} (p : Int) (h0 : ∀ u w v, (w, v) ∈ lk u → 0 ≤ w) {x v c : Int} (h : Wc lk R x v c) :
  Wc lk (p :: R) x v c ∨ (v = p ∧ 0 ≤ c) ∨ ∃ w y c', (w, y) ∈ lk p ∧ Wc lk (p :: R) y v c' ∧ w + c' ≤ c := by
 induction h with
 | nil a ha =>
  by_cases e : a = p
  ·exact .inr (.inl ⟨e, Int.le_refl _⟩)
  ·exact .inl (.nil a (by simp [e, ha]))
 | @cons a x w v c ha hm k ih =>
  have hw := h0 _ _ _ hm
  rcases ih with ih | ⟨e, hc⟩ | ⟨w', y, c', e1, e2, e3⟩
  ·by_cases e : a = p
   ·subst e; exact .inr (.inr ⟨w, x, c, hm, ih, Int.le_refl _⟩)
   ·exact .inl (.cons (by simp [e, ha]) hm ih)
  ·exact .inr (.inl ⟨e, by omega⟩)
  ·exact .inr (.inr ⟨w', y, c', e1, e2, by omega⟩)
theorem wc_start {lk : Int → List It} {R : List Int} {x v c : Int} (h : Wc lk R x v c) : x ∉ R := by
 cases h with
 | nil _ h => exact h
 | cons h _ _ => exact h
theorem wc_short {lk : Int → List It} {n : Nat} (h0 : ∀ u w v, (w, v) ∈ lk u → 0 ≤ w) (hr : ∀ u w v, (w, v) ∈ lk u → 0 ≤ v ∧ v < n) : ∀ (k : Nat) (R : List Int), R.Nodup → (∀ x ∈ R, 0 ≤ x ∧ x < n) → R.length + k = n →
  ∀ {a v c : Int}, 0 ≤ a ∧ a < n → Wc lk R a v c → ∃ j c', j ≤ k ∧ c' ≤ c ∧ Wn lk [(0, a)] j v c'
 | 0, R, hn, hb, hl, a, v, c, ha, h => by
  have := nd_leI n (a :: R) (List.nodup_cons.2 ⟨wc_start h, hn⟩) (fun x hx => by
   rcases List.mem_cons.1 hx with rfl | hx
   ·exact ha
   ·exact hb x hx)
  simp at this; omega
 | k + 1, R, hn, hb, hl, a, v, c, ha, h => by
  rcases wc_part a h0 h with h | ⟨e, hc⟩ | ⟨w, y, c', e1, e2, e3⟩
  ·exact absurd (List.mem_cons_self) (wc_start h)
  ·subst e; exact ⟨0, 0, Nat.zero_le _, hc, .nil (List.mem_singleton.2 rfl)⟩
  ·obtain ⟨j, c2, l1, l2, hw⟩ := wc_short h0 hr k (a :: R) (List.nodup_cons.2 ⟨wc_start h, hn⟩) (fun x hx => by
    rcases List.mem_cons.1 hx with rfl | hx
    ·exact ha
    ·exact hb x hx) (by simp; omega) (hr _ _ _ e1) e2
   exact ⟨j + 1, w + c2, by omega, by omega, wn_cons e1 hw⟩
theorem wn_wc {lk : Int → List It} {a : Int} {j : Nat} {v c : Int} (h : Wn lk [(0, a)] j v c) : ∀ {x d : Int}, Wc lk [] v x d → Wc lk [] a x (c + d) := by
 induction h with
 | nil hm =>
  rw [List.mem_singleton] at hm
  cases hm
  intro x d k; rw [Int.zero_add]; exact k
 | step _ hm ih =>
  intro x d k
  have := ih (Wc.cons (List.not_mem_nil) hm k)
  rw [← Int.add_assoc] at this; exact this
theorem wn_short {lk : Int → List It} {n : Nat} (h0 : ∀ u w v, (w, v) ∈ lk u → 0 ≤ w) (hr : ∀ u w v, (w, v) ∈ lk u → 0 ≤ v ∧ v < n) {st : List It} (ha : ∀ k a, (k, a) ∈ st → 0 ≤ a ∧ a < n) {j : Nat} {v c : Int} (h : Wn lk st j v c) : ∃ j' c', j' ≤ n ∧ c' ≤ c ∧ Wn lk st j' v c' := by
 obtain ⟨k, a, c0, hm, h', rfl⟩ := wn_one h
 have h1 := wn_wc h' (Wc.nil v (List.not_mem_nil))
 rw [Int.add_zero] at h1
 obtain ⟨j', c', l1, l2, hw⟩ := wc_short h0 hr n [] List.nodup_nil (fun x hx => by cases hx) (by simp) (ha _ _ hm) h1
 exact ⟨j', k + c', l1, by omega, wn_of hm hw⟩
/-- A state of the search: t rounds are over; of this round what P tells. -/
structure BF (n : Nat) (lk : Int → List It) (st : List It) (t : Nat) (P : Int → Int → Int → Prop) (c : Nat → Int) : Prop where
 bd : ∀ k, k < n → 0 ≤ c k ∧ c k ≤ NC
 wk : ∀ k : Nat, k < n → c k < NC → Wk st lk k (c k)
 done : ∀ j, j ≤ t → ∀ (x : Nat) d, x < n → Wn lk st j x d → d < NC → c x ≤ d
 part : ∀ u w v d, P u w v → 0 ≤ u → u < n → 0 ≤ v → v < n → Wn lk st t u d → d + w < NC → c v.toNat ≤ d + w
/-- The starts are gone through. -/
structure BI0 (n : Nat) (st : List It) (i : Nat) (c : Nat → Int) : Prop where
 bd : ∀ k, k < n → 0 ≤ c k ∧ c k ≤ NC
 wk : ∀ k : Nat, k < n → c k < NC → (c k, (k : Int)) ∈ st
 done : ∀ j, j < i → j < st.length → c (gt st j).2.toNat ≤ (gt st j).1
theorem BI0.step {n : Nat} {st : List It} {i : Nat} {c : Nat → Int} (h : BI0 n st i c) (hi : i < st.length) (hs : 0 ≤ (gt st i).2 ∧ (gt st i).2 < n) (h0 : 0 ≤ (gt st i).1) :
  ((gt st i).1 < c (gt st i).2.toNat → BI0 n st (i + 1) (updF1 c (gt st i).2.toNat (gt st i).1)) ∧ (¬ (gt st i).1 < c (gt st i).2.toNat → BI0 n st (i + 1) c) := by
 constructor
 ·intro hl
  have le : ∀ k, updF1 c (gt st i).2.toNat (gt st i).1 k ≤ c k := fun k => by unfold updF1; split <;> rename_i e <;> (try subst e) <;> omega
  refine ⟨fun k hk => ?_, fun k hk hc => ?_, fun j hj hjl => ?_⟩
  ·have := h.bd k hk; have := le k; unfold updF1 at *; split <;> omega
  ·unfold updF1 at hc ⊢
   split
   ·rename_i e
    have : ((gt st i).1, (gt st i).2) ∈ st := mem_gt hi
    rw [show ((k : Nat) : Int) = (gt st i).2 by omega]; exact this
   ·rename_i e; rw [if_neg e] at hc; exact h.wk k hk hc
  ·by_cases e : j = i
   ·subst e; unfold updF1; rw [if_pos rfl]; exact Int.le_refl _
   ·exact Int.le_trans (le _) (h.done j (by omega) hjl)
 ·intro hn
  refine ⟨h.bd, h.wk, fun j hj hjl => ?_⟩
  by_cases e : j = i
  ·subst e; omega
  ·exact h.done j (by omega) hjl
theorem BF.init {n : Nat} {lk : Int → List It} {st : List It} {c : Nat → Int} (h : BI0 n st st.length c) : BF n lk st 0 (fun _ _ _ => False) c := by
 refine ⟨h.bd, fun k hk hc => .start (h.wk k hk hc), fun j hj x d hx hw hd => ?_, fun u w v d h => h.elim⟩
 have : j = 0 := by omega
 subst this
 cases hw with
 | nil hm =>
  obtain ⟨j, hj, e⟩ := mem_at hm
  have := h.done j hj hj
  rw [e] at this
  simpa using this
theorem BF.round {n : Nat} {lk : Int → List It} {st : List It} {t : Nat} {P : Int → Int → Int → Prop} {c : Nat → Int} (h : BF n lk st t P c) (h0 : ∀ u w v, (w, v) ∈ lk u → 0 ≤ w) (hr : ∀ u w v, (w, v) ∈ lk u → (0 ≤ u ∧ u < n) ∧ 0 ≤ v ∧ v < n) (hP : ∀ u w v, (w, v) ∈ lk u → P u w v) : BF n lk st (t + 1) (fun _ _ _ => False) c := by
 refine ⟨h.bd, h.wk, fun j hj x d hx hw hd => ?_, fun u w v d h => h.elim⟩
 by_cases e : j ≤ t
 ·exact h.done j e x d hx hw hd
 ·have : j = t + 1 := by omega
  subst this
  cases hw with
  | step hw hm =>
   have r := hr _ _ _ hm
   have := h.part _ _ _ _ (hP _ _ _ hm) r.1.1 r.1.2 r.2.1 r.2.2 hw hd
   simpa using this
theorem BF.low {n : Nat} {lk : Int → List It} {st : List It} {t : Nat} {P : Int → Int → Int → Prop} {c : Nat → Int} (h : BF n lk st t P c) {v : Nat} (hv : v < n) {x : Int} (hx : Wk st lk v x) (h0 : 0 ≤ x) (hlt : x < c v) : BF n lk st t P (updF1 c v x) := by
 have hb := h.bd v hv
 have le : ∀ k, updF1 c v x k ≤ c k := fun k => by unfold updF1; split <;> rename_i e <;> (try subst e) <;> omega
 refine ⟨fun k hk => ?_, fun k hk hc => ?_, fun j hj y d hy hw hd => ?_, fun u w y d hp u0 u1 y0 y1 hw hd => ?_⟩
 ·have := h.bd k hk; unfold updF1; split <;> omega
 ·unfold updF1 at hc ⊢
  split
  ·rename_i e; subst e; exact hx
  ·rename_i e; rw [if_neg e] at hc; exact h.wk k hk hc
 ·have := h.done j hj y d hy hw hd; have := le y; omega
 ·have := h.part u w y d hp u0 u1 y0 y1 hw hd; have := le y.toNat; omega
/-- One arc more is looked at. -/
theorem BF.arc {n : Nat} {lk : Int → List It} {st : List It} {t : Nat} {P P' : Int → Int → Int → Prop} {c : Nat → Int} (h : BF n lk st t P c) {u v : Nat} {w : Int} (hu : u < n) (hv : v < n) (hm : (w, (v : Int)) ∈ lk u) (hw : 0 ≤ w) (hP : ∀ x y z, P' x y z → P x y z ∨ (x = u ∧ y = w ∧ z = v)) :
  (c u < NC → c u + w < c v → BF n lk st t P' (updF1 c v (c u + w))) ∧ (¬ (c u < NC ∧ c u + w < c v) → BF n lk st t P' c) := by
 have hbu := h.bd u hu
 have ext : ∀ {c' : Nat → Int}, BF n lk st t P c' → c' v ≤ c u + w → BF n lk st t P' c' := fun {c'} h' hle => by
  refine ⟨h'.bd, h'.wk, h'.done, fun x y z d hp x0 x1 z0 z1 hw' hd => ?_⟩
  rcases hP x y z hp with hp | ⟨rfl, rfl, rfl⟩
  ·exact h'.part x y z d hp x0 x1 z0 z1 hw' hd
  ·have := h.done t (Nat.le_refl _) u d hu hw' (by omega)
   rw [Int.toNat_natCast]
   omega
 refine ⟨fun h1 h2 => ?_, fun hn => ?_⟩
 ·have hb := h.low hv (.step (h.wk u hu h1) hm) (by omega) h2
  refine ext hb ?_
  unfold updF1; rw [if_pos rfl]; exact Int.le_refl _
 ·refine ⟨h.bd, h.wk, h.done, fun x y z d hp x0 x1 z0 z1 hw' hd => ?_⟩
  rcases hP x y z hp with hp | ⟨e1, e2, e3⟩
  ·exact h.part x y z d hp x0 x1 z0 z1 hw' hd
  ·rw [e1] at hw' x0 x1
   rw [e2] at hd ⊢
   rw [e3]
   have := h.done t (Nat.le_refl _) u d hu hw' (by omega)
   rw [Int.toNat_natCast]
   by_cases h1 : c u < NC
   ·have : ¬ c u + w < c v := fun h2 => hn ⟨h1, h2⟩
    omega
   ·omega
theorem BF.fin {n : Nat} {lk : Int → List It} {st : List It} {t : Nat} {P : Int → Int → Int → Prop} {c : Nat → Int} (h : BF n lk st t P c) (ht : n ≤ t) (h0 : ∀ u w v, (w, v) ∈ lk u → 0 ≤ w) (hr : ∀ u w v, (w, v) ∈ lk u → 0 ≤ v ∧ v < n) (ha : ∀ k a, (k, a) ∈ st → 0 ≤ a ∧ a < n) {v : Nat} (hv : v < n) : IsMin (Wk st lk v) (c v) := by
 refine ⟨(h.bd v hv).2, fun d hd => ?_, h.wk v hv⟩
 obtain ⟨j, hj⟩ := wk_wn hd
 obtain ⟨j', c', l1, l2, hw⟩ := wn_short h0 hr ha hj
 by_cases e : c' < NC
 ·have := h.done j' (by omega) v c' hv hw e; exact .inl (by omega)
 ·exact .inr (by omega)
end Go.HeapL
namespace Go.HeapL
/-! ### What is told without what is stalled is the least, too -/
theorem coverq {n : Int} {st : List It} {lk ot : Int → List It} {D : List Int} {S : Sd} (hd : Dat n st lk) (h : Inv n st lk D S) (hb : Beg st S) (hc : Clq true st lk ot D S) {B X : Int} (hB : B ≤ NC)
  (hL : ∀ k v, (k, v) ∈ S.L → B ≤ k) (Rm : Int → Int → Prop) (h1 : ∀ u w v r, (w, v) ∈ lk u → Rm v r → Rm u (w + r)) (h2 : ∀ u w f r, (w, f) ∈ ot u → Rm u r → Rm f (w + r))
  (h3 : ∀ v d r, Wk st lk v d → Rm v r → X ≤ d + r) : ∀ {v d : Int}, Wk st lk v d → ∀ r, Rm v r → d + r ≤ X → d < B → v ∈ D ∧ ∃ k, S.c v = some k ∧ k ≤ d := by
 intro v d hw
 induction hw with
 | start hm =>
  intro r _ _ hlt
  obtain ⟨k', e, l⟩ := hb _ _ hm
  rcases h.cv _ _ e with h1 | h1
  ·exact ⟨h1, k', e, l⟩
  ·have := hL _ _ h1; omega
 | @step u d w v hu hm ih =>
  intro r hr hX hlt
  have hw := hd.lkok _ _ _ hm
  obtain ⟨g1, k, e, l⟩ := ih (w + r) (h1 _ _ _ _ hm hr) (by omega) (by omega)
  obtain ⟨k', e', l'⟩ := hc _ g1 k e (fun _ f c w' hf hwf => by
   have := h3 f c _ hf (h2 _ _ _ _ hwf (h1 _ _ _ _ hm hr))
   omega) _ _ hm (by omega)
  rcases h.cv _ _ e' with h2 | h2
  ·exact ⟨h2, k', e', by omega⟩
  ·have := hL _ _ h2; omega
section
variable {n : Int} {sa sz : List It} {up dn : Int → List It} {Da Dz : List Int} {s : St} {o : OE}
/-- Where links are walks, and each walk has a way up and down that costs no more. -/
structure Kp (sa sz : List It) (up dn : Int → List It) (o : OE) : Prop where
 pu : ∀ u w v, (w, v) ∈ up u → Wo o u v w
 pd : ∀ u w v, (w, v) ∈ dn u → Wo o v u w
 pk : ∀ k a k' b c, (k, a) ∈ sa → (k', b) ∈ sz → Wo o a b c → ∃ c', c' ≤ c ∧ two [(0, a)] [(0, b)] up dn c'
theorem Kp.low (h : Kp sa sz up dn o) {X : Int} (hX : IsMin (two sa sz up dn) X) {k a k' b c : Int} (ha : (k, a) ∈ sa) (hb : (k', b) ∈ sz) (hw : Wo o a b c) : X ≤ k + c + k' := by
 obtain ⟨c', l, h2⟩ := h.pk k a k' b c ha hb hw
 have := hX.2.1 (k + c' + k') ((two_split _).2 ⟨(k, a), ha, (k', b), hb, by simp only; rw [show k + c' + k' - k - k' = c' by omega]; exact h2⟩)
 have := hX.1
 omega
theorem Kp.quick (h : Kp sa sz up dn o) (hd : Dat n sa up) (hd' : Dat n sz dn) (hJ : J n sa sz up dn true Da Dz s) (hf : fin true up dn s = true) : IsMin (two sa sz up dn) s.b.cost := by
 obtain ⟨X, hX⟩ := IsMin.ex (two sa sz up dn) (by
  rintro d ⟨v, ka, kz, h1, h2, rfl⟩
  have := (wk_ok hd h1).2.2
  have := (wk_ok hd' h2).2.2
  omega)
 obtain ⟨f1, f2⟩ := fin_iff.1 hf
 have hbc : s.b.cost ≤ NC := by rcases hJ.bb with ⟨_, e⟩ | ⟨_, e, _⟩ <;> omega
 have hge : X ≤ s.b.cost := by
  rcases hJ.bb with ⟨_, e⟩ | ⟨_, hl, ka, kz, _, _, w1, w2, e1, _⟩
  ·rw [e]; exact hX.1
  ·have := hX.2.1 s.b.cost ⟨_, ka, kz, w1, w2, e1⟩
   have := hX.1
   omega
 have hle : s.b.cost ≤ X := by
  refine Classical.byContradiction fun hn => ?_
  obtain ⟨v, ka, kz, wa, wz, e⟩ := hX.2.2 (by omega)
  have g1 := wk_ok hd wa
  have g2 := wk_ok hd' wz
  obtain ⟨d1, k1, e1, l1⟩ := coverq hd hJ.ia hJ.ba hJ.ca (X := X) hbc (fin_keys f1 hJ.ia.hp) (fun v r => ∃ k b c, (k, b) ∈ sz ∧ Wo o v b c ∧ r = c + k)
   (fun u w v r hm => by rintro ⟨k, b, c, m, hw, rfl⟩; exact ⟨k, b, w + c, m, (h.pu _ _ _ hm).trans hw, by omega⟩)
   (fun u w v r hm => by rintro ⟨k, b, c, m, hw, rfl⟩; exact ⟨k, b, w + c, m, (h.pd _ _ _ hm).trans hw, by omega⟩)
   (fun v d r hv => by
    rintro ⟨k, b, c, m, hw, rfl⟩
    obtain ⟨k0, a, m0, w0⟩ := wk_split.1 hv
    have := h.low hX m0 m ((wk_wo h.pu w0).trans hw)
    omega) wa kz (by
    obtain ⟨k0, a, m0, w0⟩ := wk_split.1 wz
    exact ⟨k0, a, kz - k0, m0, wk_wo' h.pd w0, by omega⟩) (by omega) (by omega)
  obtain ⟨d2, k2, e2, l2⟩ := coverq hd' hJ.iz hJ.bz hJ.cz (X := X) hbc (fin_keys f2 hJ.iz.hp) (fun v r => ∃ k b c, (k, b) ∈ sa ∧ Wo o b v c ∧ r = c + k)
   (fun u w v r hm => by rintro ⟨k, b, c, m, hw, rfl⟩; exact ⟨k, b, c + w, m, hw.trans (h.pd _ _ _ hm), by omega⟩)
   (fun u w v r hm => by rintro ⟨k, b, c, m, hw, rfl⟩; exact ⟨k, b, c + w, m, hw.trans (h.pu _ _ _ hm), by omega⟩)
   (fun v d r hv => by
    rintro ⟨k, b, c, m, hw, rfl⟩
    obtain ⟨k0, a, m0, w0⟩ := wk_split.1 hv
    have := h.low hX m m0 (hw.trans (wk_wo' h.pd w0))
    omega) wz ka (by
    obtain ⟨k0, a, m0, w0⟩ := wk_split.1 wa
    exact ⟨k0, a, ka - k0, m0, wk_wo h.pu w0, by omega⟩) (by omega) (by omega)
  have := hJ.mt v d1 d2 k1 k2 e1 e2
  omega
 rw [show s.b.cost = X by omega]
 exact hX
end
/-! ### Ends that are looked at, one behind the other -/
def endTo (lk : Int → List It) (st sz : List It) (i : Nat) (d : Int) : Prop := ∃ j, j < i ∧ j < sz.length ∧ Wk st lk (gt sz j).2 (d - (gt sz j).1)
theorem endTo_z (lk : Int → List It) (st sz : List It) : IsMin (endTo lk st sz 0) NC := IsMin.none fun d ⟨j, h, _⟩ => absurd h (by omega)
theorem endTo_step {lk : Int → List It} {st sz : List It} {i : Nat} {b c : Int} (hi : i < sz.length) (h : IsMin (endTo lk st sz i) b) (hc : IsMin (Wk st lk (gt sz i).2) c) (h0 : ∀ d, Wk st lk (gt sz i).2 d → 0 ≤ d) (hk : 0 ≤ (gt sz i).1) :
  (c < NC → c + (gt sz i).1 < b → IsMin (endTo lk st sz (i + 1)) (c + (gt sz i).1)) ∧ (¬ (c < NC ∧ c + (gt sz i).1 < b) → IsMin (endTo lk st sz (i + 1)) b) := by
 have := IsMin.step (P' := endTo lk st sz (i + 1)) h hc h0 hk (fun d => by
  constructor
  ·rintro ⟨j, h1, h2, h3⟩
   by_cases e : j = i
   ·subst e; exact .inr h3
   ·exact .inl ⟨j, by omega, h2, h3⟩
  ·rintro (⟨j, h1, h2, h3⟩ | h)
   ·exact ⟨j, by omega, h2, h3⟩
   ·exact ⟨i, by omega, hi, h⟩)
 rw [Int.add_comm c]
 exact this
theorem endTo_min {lk up dn : Int → List It} {sa sz : List It} {o : OE} (h : Kp sa sz up dn o) (h1 : ∀ a b c, Wo o a b c → Wk [(0, a)] lk b c) (h2 : ∀ a b c, Wk [(0, a)] lk b c → ∃ c', c' ≤ c ∧ Wo o a b c') {x y : Int} (hx : IsMin (two sa sz up dn) x) (hy : IsMin (endTo lk sa sz sz.length) y) : x = y := by
 have h12 : y ≤ x := by
  by_cases hl : x < NC
  ·obtain ⟨p, hp, e, he, v, ka, kz, w1, w2, e3⟩ := (two_split _).1 (hx.2.2 hl)
   obtain ⟨j, hj, rfl⟩ := mem_at he
   have hw := h1 _ _ _ ((wk_wo h.pu w1).trans (wk_wo' h.pd w2))
   have := hy.2.1 x ⟨j, hj, hj, wk_split.2 ⟨p.1, p.2, hp, by rw [show x - (gt sz j).1 - p.1 = ka + kz by omega]; exact hw⟩⟩
   have := hy.1
   omega
  ·have := hy.1; have := hx.1; omega
 have h21 : x ≤ y := by
  by_cases hl : y < NC
  ·obtain ⟨j, hj, _, hw⟩ := hy.2.2 hl
   obtain ⟨k, a, m, w⟩ := wk_split.1 hw
   obtain ⟨c', l, w'⟩ := h2 _ _ _ w
   have := h.low hx m (k' := (gt sz j).1) (b := (gt sz j).2) (mem_gt hj) w'
   omega
  ·have := hx.1; have := hy.1; omega
 omega
end Go.HeapL

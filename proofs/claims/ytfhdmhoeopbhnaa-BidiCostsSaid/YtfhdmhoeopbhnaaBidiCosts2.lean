/-
  The walks and plain laws, part 2.
-/
import Derived.Test.YtfhdmhoeopbhnaaBidiCosts1
import Derived.Test.YtfhdmhoeopbhnaaAm6
import Derived.Test.YtfhdmhoeopbhnaaAm5
set_option linter.unusedSimpArgs false
set_option linter.unusedSectionVars false
set_option linter.unusedVariables false
namespace Go.HeapL
/-! ### Both sides of a search: plain laws -/
structure Bst where
 cost : Int
 pt : Int
def mtb (b : Bst) (c : Option Int) (x : It) : Bst := match c with
 | some k => if k + x.1 < b.cost then ⟨k + x.1, x.2⟩ else b
 | none => b
def stl (S : Sd) (ot : List It) (x : It) : Bool := ot.any fun a => match S.c a.2 with
 | some k => decide (k + a.1 < x.1)
 | none => false
def okT (S : Sd) (b : Bst) : Bool := decide (0 < S.L.length) && decide ((gt S.L 0).1 < b.cost)
def tS (q : Bool) (lk ot : Int → List It) (S : Sd) : Sd := match q && stl S (ot (gt S.L 0).2) (gt S.L 0) with
 | true => popd S
 | false => rlx (gt S.L 0).2 (gt S.L 0).1 (lk (gt S.L 0).2) (popd S)
structure St where
 a : Sd
 z : Sd
 b : Bst
def hlf (q : Bool) (lk ot : Int → List It) (s : St) : St := match okT s.a s.b with
 | true => ⟨tS q lk ot s.a, s.z, mtb s.b (s.z.c (gt s.a.L 0).2) (gt s.a.L 0)⟩
 | false => s
def St.sw (s : St) : St := ⟨s.z, s.a, s.b⟩
def rnd (q : Bool) (up dn : Int → List It) (s : St) : St := (hlf q dn up (hlf q up dn s).sw).sw
def fin (q : Bool) (up dn : Int → List It) (s : St) : Bool := !okT s.a s.b && !okT (hlf q up dn s).z (hlf q up dn s).b
def itr (q : Bool) (up dn : Int → List It) (s : St) : Nat → St
 | 0 => s
 | i + 1 => rnd q up dn (itr q up dn s i)
structure J (n : Int) (sa sz : List It) (up dn : Int → List It) (q : Bool) (Da Dz : List Int) (s : St) : Prop where
 ia : Inv n sa up Da s.a
 iz : Inv n sz dn Dz s.z
 ba : Beg sa s.a
 bz : Beg sz s.z
 ca : q = false → Cl up Da s.a
 cz : q = false → Cl dn Dz s.z
 mt : ∀ v ∈ Da, v ∈ Dz → ∀ k k', s.a.c v = some k → s.z.c v = some k' → s.b.cost ≤ k + k'
 bb : (s.b.pt = -1 ∧ s.b.cost = NC) ∨ (0 ≤ s.b.pt ∧ s.b.cost < NC ∧ ∃ ka kz ka' kz', Wk sa up s.b.pt ka ∧ Wk sz dn s.b.pt kz ∧ s.b.cost = ka + kz ∧
  s.a.c s.b.pt = some ka' ∧ s.z.c s.b.pt = some kz' ∧ ka' ≤ ka ∧ kz' ≤ kz)
section
variable {n : Int} {sa sz : List It} {up dn : Int → List It} {q : Bool} {Da Dz : List Int} {s : St}
theorem J.sw (h : J n sa sz up dn q Da Dz s) : J n sz sa dn up q Dz Da s.sw := ⟨h.iz, h.ia, h.bz, h.ba, h.cz, h.ca, fun v h1 h2 k k' e e' => by
  have := h.mt v h2 h1 k' k e' e
  rw [Int.add_comm] at this; exact this, by
  rcases h.bb with ⟨h1, h2⟩ | ⟨h0, h1, ka, kz, ka', kz', w1, w2, e1, e2, e3, l1, l2⟩
  ·exact .inl ⟨h1, h2⟩
  ·exact .inr ⟨h0, h1, kz, ka, kz', ka', w2, w1, e1.trans (Int.add_comm _ _), e3, e2, l2, l1⟩⟩
theorem nd_le : ∀ (n : Nat) (D : List Nat), D.Nodup → (∀ x ∈ D, x < n) → D.length ≤ n
 | 0, D, _, h => by
  cases D with
  | nil => simp
  | cons x D => exact absurd (h x (by simp)) (by omega)
 | n + 1, D, hn, h => by
  have := nd_le n (D.erase n) (hn.erase n) (fun x hx => by
   have h1 := h x (List.mem_of_mem_erase hx)
   have h2 : x ≠ n := fun e => by subst e; exact (List.Nodup.not_mem_erase hn) hx
   omega)
  rw [List.length_erase] at this
  split at this <;> omega
theorem nd_leI (n : Int) (D : List Int) (hn : D.Nodup) (h : ∀ x ∈ D, 0 ≤ x ∧ x < n) : D.length ≤ n.toNat := by
 have := nd_le n.toNat (D.map Int.toNat) (by
  rw [List.nodup_iff_pairwise_ne, List.pairwise_map]
  rw [List.nodup_iff_pairwise_ne] at hn
  refine hn.imp_of_mem ?_
  intro a b ha hb hne
  have := h a ha; have := h b hb; omega) (fun x hx => by
   obtain ⟨y, hy, rfl⟩ := List.mem_map.1 hx
   have := h y hy; omega)
 simpa using this
theorem Inv.len {st : List It} {lk : Int → List It} {D : List Int} {S : Sd} (h : Inv n st lk D S) : D.length ≤ n.toNat :=
 nd_leI n D h.dn (fun x hx => by obtain ⟨k, e⟩ := h.dc x hx; have := h.rng x k e; omega)
theorem Inv.lenL {st : List It} {lk : Int → List It} {D : List Int} {S : Sd} (h : Inv n st lk D S) : S.L.length ≤ n.toNat := by
 have := nd_leI n (S.L.map (fun x : It => x.2)) h.nd (fun x hx => by
  obtain ⟨⟨k, v⟩, hm, rfl⟩ := List.mem_map.1 hx
  have := h.rng v k (h.inL k v hm).1; simp only; omega)
 simpa using this
theorem okT_iff {S : Sd} {b : Bst} : okT S b = true ↔ 0 < S.L.length ∧ (gt S.L 0).1 < b.cost := by unfold okT; rw [Bool.and_eq_true, decide_eq_true_eq, decide_eq_true_eq]
/-- One half of a round. -/
theorem hlf_J (hd : Dat n sa up) (h : J n sa sz up dn q Da Dz s) (ho : okT s.a s.b = true) : J n sa sz up dn q ((gt s.a.L 0).2 :: Da) Dz (hlf q up dn s) ∧ (hlf q up dn s).a.t = s.a.t + 1 ∧ (hlf q up dn s).z = s.z := by
 obtain ⟨hl, hlt⟩ := okT_iff.1 ho
 obtain ⟨p1, p2, p3, p4⟩ := pop_inv h.ia hl
 have hx := h.ia.rng _ _ p2
 have key : Inv n sa up ((gt s.a.L 0).2 :: Da) (tS q up dn s.a) ∧ Le s.a (tS q up dn s.a) ∧ (∀ d ∈ (gt s.a.L 0).2 :: Da, (tS q up dn s.a).c d = s.a.c d) ∧
   (q = false → Cl up ((gt s.a.L 0).2 :: Da) (tS q up dn s.a)) ∧ (tS q up dn s.a).t = s.a.t + 1 := by
  unfold tS
  cases hq : q && stl s.a (dn (gt s.a.L 0).2) (gt s.a.L 0) with
  | true =>
   refine ⟨p1, fun x k e => ⟨k, e, Int.le_refl _⟩, fun _ _ => rfl, fun e => ?_, rfl⟩
   subst e; cases hq
  | false =>
   obtain ⟨r1, r2, r3, r4, r5⟩ := rlx_inv hd (v := (gt s.a.L 0).2) (key := (gt s.a.L 0).1) (D := (gt s.a.L 0).2 :: Da) (by simp) hx.2.2.1 (up (gt s.a.L 0).2) (popd s.a) (fun _ h => h) p1 p2 p4
   refine ⟨r1, r2, r3, fun e => ?_, r5⟩
   intro u hu ku eu w v hm hl'
   rcases List.mem_cons.1 hu with rfl | hu
   ·have e1 := r3 (gt s.a.L 0).2 (by simp)
    rw [e1] at eu
    rw [show (popd s.a).c = s.a.c from rfl, p2] at eu
    cases eu
    exact r4 w v hm hl'
   ·have e1 := r3 u (List.mem_cons_of_mem _ hu)
    rw [e1] at eu
    obtain ⟨k1, f1, l1⟩ := h.ca e u hu ku eu w v hm hl'
    obtain ⟨k2, f2, l2⟩ := r2 v k1 f1
    exact ⟨k2, f2, Int.le_trans l2 l1⟩
 unfold hlf
 rw [ho]
 simp only
 obtain ⟨k1, k2, k3, k4, k5⟩ := key
 generalize tS q up dn s.a = T at *
 generalize hgx : gt s.a.L 0 = x at *
 have hb : (mtb s.b (s.z.c x.2) x).cost ≤ s.b.cost ∧ ∀ k, s.z.c x.2 = some k → (mtb s.b (s.z.c x.2) x).cost ≤ x.1 + k := by
  unfold mtb
  cases e : s.z.c x.2 with
  | none => exact ⟨Int.le_refl _, fun k h => by cases h⟩
  | some k =>
   simp only
   split
   ·exact ⟨by simp only; omega, fun k' h => by cases h; simp only; omega⟩
   ·exact ⟨Int.le_refl _, fun k' h => by cases h; omega⟩
 refine ⟨⟨k1, h.iz, h.ba.mono k2, h.bz, k4, h.cz, ?_, ?_⟩, k5, trivial⟩
 ·intro v hv hz k k' e e'
  rw [k3 v hv] at e
  rcases List.mem_cons.1 hv with rfl | hv
  ·rw [p2] at e; cases e
   exact hb.2 k' e'
  ·have := h.mt v hv hz k k' e e'
   exact Int.le_trans hb.1 this
 ·have old : (s.b.pt = -1 ∧ s.b.cost = NC) ∨ (0 ≤ s.b.pt ∧ s.b.cost < NC ∧ ∃ ka kz ka' kz', Wk sa up s.b.pt ka ∧ Wk sz dn s.b.pt kz ∧ s.b.cost = ka + kz ∧
    T.c s.b.pt = some ka' ∧ s.z.c s.b.pt = some kz' ∧ ka' ≤ ka ∧ kz' ≤ kz) := by
   rcases h.bb with h1 | ⟨h0, h1, ka, kz, ka', kz', w1, w2, e1, e2, e3, l1, l2⟩
   ·exact .inl h1
   ·obtain ⟨k2', f2, l2'⟩ := k2 _ _ e2
    exact .inr ⟨h0, h1, ka, kz, k2', kz', w1, w2, e1, f2, e3, Int.le_trans l2' l1, l2⟩
  have hbc : s.b.cost ≤ NC := by rcases h.bb with ⟨_, e⟩ | ⟨_, e, _⟩ <;> omega
  show ((mtb s.b (s.z.c x.2) x).pt = -1 ∧ (mtb s.b (s.z.c x.2) x).cost = NC) ∨ _
  unfold mtb
  cases e : s.z.c x.2 with
  | none => exact old
  | some k =>
   simp only
   split
   ·rename_i hlt2
    right
    refine ⟨hx.1, by simp only; omega, x.1, k, x.1, k, h.ia.snd _ _ p2, h.iz.snd _ _ e, Int.add_comm _ _, ?_, e, Int.le_refl _, Int.le_refl _⟩
    simp only; rw [k3 _ (by simp)]; exact p2
   ·exact old
theorem hlf_id (ho : okT s.a s.b = false) : hlf q up dn s = s := by unfold hlf; rw [ho]
/-- A round takes one at least, unless it is the last one. -/
theorem rnd_J (hd : Dat n sa up) (hd' : Dat n sz dn) (h : J n sa sz up dn q Da Dz s) : ∃ Da' Dz', J n sa sz up dn q Da' Dz' (rnd q up dn s) ∧ Da.length ≤ Da'.length ∧ Dz.length ≤ Dz'.length ∧
  (fin q up dn s = false → Da.length + Dz.length < Da'.length + Dz'.length) := by
 have h1 : ∃ Da', J n sa sz up dn q Da' Dz (hlf q up dn s) ∧ Da.length ≤ Da'.length ∧ (okT s.a s.b = true → Da.length < Da'.length) := by
  cases ho : okT s.a s.b with
  | true => exact ⟨_, (hlf_J hd h ho).1, by simp, fun _ => by simp⟩
  | false => rw [hlf_id ho]; exact ⟨Da, h, Nat.le_refl _, fun e => by cases e⟩
 obtain ⟨Da', j1, l1, l2⟩ := h1
 have h2 : ∃ Dz', J n sz sa dn up q Dz' Da' (hlf q dn up (hlf q up dn s).sw) ∧ Dz.length ≤ Dz'.length ∧ (okT (hlf q up dn s).z (hlf q up dn s).b = true → Dz.length < Dz'.length) := by
  cases ho : okT (hlf q up dn s).z (hlf q up dn s).b with
  | true => exact ⟨_, (hlf_J hd' j1.sw ho).1, by simp, fun _ => by simp⟩
  | false =>
   rw [show hlf q dn up (hlf q up dn s).sw = (hlf q up dn s).sw from hlf_id ho]; exact ⟨Dz, j1.sw, Nat.le_refl _, fun e => by cases e⟩
 obtain ⟨Dz', j2, l3, l4⟩ := h2
 refine ⟨Da', Dz', j2.sw, l1, l3, fun hf => ?_⟩
 unfold fin at hf
 rw [Bool.and_eq_false_iff] at hf
 rcases hf with hf | hf
 ·have := l2 (by simpa using hf); omega
 ·have := l4 (by simpa using hf); omega
theorem itr_J (hd : Dat n sa up) (hd' : Dat n sz dn) (h : J n sa sz up dn q [] [] s) : ∀ i, ∃ Da Dz, J n sa sz up dn q Da Dz (itr q up dn s i) ∧ ((∀ j, j < i → fin q up dn (itr q up dn s j) = false) → i ≤ Da.length + Dz.length)
 | 0 => ⟨[], [], h, fun _ => Nat.zero_le _⟩
 | i + 1 => by
  obtain ⟨Da, Dz, j1, l1⟩ := itr_J hd hd' h i
  obtain ⟨Da', Dz', j2, l2, l3, l4⟩ := rnd_J hd hd' j1
  refine ⟨Da', Dz', j2, fun hf => ?_⟩
  have := l1 (fun j hj => hf j (by omega))
  have := l4 (hf i (by omega))
  omega
/-- The search ends. -/
theorem itr_end (hd : Dat n sa up) (hd' : Dat n sz dn) (h : J n sa sz up dn q [] [] s) : ∃ N, (∀ j, j < N → fin q up dn (itr q up dn s j) = false) ∧ fin q up dn (itr q up dn s N) = true := by
 refine Classical.byContradiction fun hn => ?_
 have all : ∀ j, fin q up dn (itr q up dn s j) = false := by
  intro j
  induction j using Nat.strongRecOn with
  | _ j ih =>
   refine Classical.byContradiction fun h2 => hn ⟨j, ih, ?_⟩
   simpa using h2
 obtain ⟨Da, Dz, j1, l1⟩ := itr_J hd hd' h (2 * n.toNat + 1)
 have := l1 (fun j _ => all j)
 have := j1.ia.len; have := j1.iz.len
 omega
theorem fin_iff : fin q up dn s = true ↔ okT s.a s.b = false ∧ okT s.z s.b = false := by
 unfold fin
 rw [Bool.and_eq_true]
 constructor
 ·rintro ⟨h1, h2⟩
  have h1 : okT s.a s.b = false := by simpa using h1
  rw [hlf_id h1] at h2
  exact ⟨h1, by simpa using h2⟩
 ·rintro ⟨h1, h2⟩
  rw [hlf_id h1, h1, h2]; exact ⟨rfl, rfl⟩
theorem fin_keys {S : Sd} {b : Bst} (h : okT S b = false) (hp : Hp S.L) : ∀ k v, (k, v) ∈ S.L → b.cost ≤ k := fun k v hm => by
 obtain ⟨j, hj, e⟩ := mem_at hm
 have := hp_top hp j hj
 rw [e, nlt_iff] at this
 refine Classical.byContradiction fun hn => ?_
 have : okT S b = true := okT_iff.2 ⟨by omega, by simp only at this; omega⟩
 rw [h] at this; cases this
/-- What the search tells at its end. -/
theorem fin_min (hd : Dat n sa up) (hd' : Dat n sz dn) (h : J n sa sz up dn false Da Dz s) (hf : fin false up dn s = true) {v ka kz : Int} (ha : Wk sa up v ka) (hz : Wk sz dn v kz) : s.b.cost ≤ ka + kz ∨ NC ≤ ka + kz := by
 obtain ⟨f1, f2⟩ := fin_iff.1 hf
 have hbc : s.b.cost ≤ NC := by rcases h.bb with ⟨_, e⟩ | ⟨_, e, _⟩ <;> omega
 refine Classical.byContradiction fun hn => ?_
 have g1 := wk_ok hd ha
 have g2 := wk_ok hd' hz
 obtain ⟨d1, k1, e1, l1⟩ := cover hd h.ia h.ba (h.ca rfl) hbc (fin_keys f1 h.ia.hp) ha (by omega)
 obtain ⟨d2, k2, e2, l2⟩ := cover hd' h.iz h.bz (h.cz rfl) hbc (fin_keys f2 h.iz.hp) hz (by omega)
 have := h.mt v d1 d2 k1 k2 e1 e2
 omega
/-- The way that was found costs what is told. -/
theorem fin_sum (hd : Dat n sa up) (hd' : Dat n sz dn) (h : J n sa sz up dn false Da Dz s) (hf : fin false up dn s = true) (hp : s.b.pt ≠ -1) :
  ∃ ka kz, s.a.c s.b.pt = some ka ∧ s.z.c s.b.pt = some kz ∧ s.b.cost = ka + kz := by
 rcases h.bb with ⟨h1, _⟩ | ⟨h0, h1, ka, kz, ka', kz', w1, w2, e1, e2, e3, l1, l2⟩
 ·exact absurd h1 hp
 ·refine ⟨ka', kz', e2, e3, ?_⟩
  have := fin_min hd hd' h hf (h.ia.snd _ _ e2) (h.iz.snd _ _ e3)
  omega
end
/-! ### The way back -/
inductive PC (st : List It) (lk : Int → List It) : List Int → Int → Prop
 | one {k v : Int} (h : (k, v) ∈ st) (hm : ∀ k', (k', v) ∈ st → k ≤ k') : PC st lk [v] k
 | cons {v u ku w : Int} {l : List Int} (h : PC st lk (u :: l) ku) (h2 : (w, v) ∈ lk u) : PC st lk (v :: u :: l) (ku + w)
def pth (f : Int → Int) : Nat → Int → List Int
 | 0, _ => []
 | n + 1, v => match decide (v < 0) with
  | true => []
  | false => v :: pth f n (f v)
theorem pth_ok {n : Int} {st : List It} {lk : Int → List It} {D : List Int} {S : Sd} (h : Inv n st lk D S) (hb : Beg st S) (rk : Int → Nat) (hr : ∀ u w v, (w, v) ∈ lk u → rk u < rk v) :
  ∀ (r : Nat) (v k : Int), rk v ≤ r → S.c v = some k → ∃ N, (∀ j, pth S.f (N + j) v = pth S.f N v) ∧ PC st lk (pth S.f N v) k ∧ (pth S.f N v).length ≤ r + 1 ∧
   (pth S.f N v).head? = some v ∧ (∀ i, i < (pth S.f N v).length → ∃ k', S.c ((pth S.f N v).getD i (-1)) = some k' ∧ S.f ((pth S.f N v).getD i (-1)) = (pth S.f N v).getD (i + 1) (-1)) := by
 intro r
 induction r with
 | zero =>
  intro v k hv e
  have hg := h.rng v k e
  have hv0 : decide (v < 0) = false := decide_eq_false (by omega)
  rcases h.chain v k e with ⟨e1, e2⟩ | ⟨e1, ku, w, e2, e3, e4⟩
  ·have ep : ∀ j, pth S.f (1 + j) v = [v] := fun j => by
    rw [Nat.add_comm]; unfold pth; rw [hv0, e1]
    cases j <;> rfl
   refine ⟨1, fun j => by rw [ep j, ep 0], ?_, ?_, ?_, ?_⟩
   ·rw [show (1 : Nat) = 1 + 0 from rfl, ep 0]; exact .one e2 (fun k' hk' => by obtain ⟨k2, f2, l2⟩ := hb _ _ hk'; rw [e] at f2; cases f2; exact l2)
   ·rw [show pth S.f 1 v = [v] from ep 0]; simp
   ·rw [show pth S.f 1 v = [v] from ep 0]; rfl
   ·rw [show pth S.f 1 v = [v] from ep 0]
    intro i hi
    have : i = 0 := by simpa using hi
    subst this
    exact ⟨k, e, e1⟩
  ·have := hr _ _ _ e3; omega
 | succ r ih =>
  intro v k hv e
  have hg := h.rng v k e
  have hv0 : decide (v < 0) = false := decide_eq_false (by omega)
  rcases h.chain v k e with ⟨e1, e2⟩ | ⟨e1, ku, w, e2, e3, e4⟩
  ·have ep : ∀ j, pth S.f (1 + j) v = [v] := fun j => by
    rw [Nat.add_comm]; unfold pth; rw [hv0, e1]
    cases j <;> rfl
   refine ⟨1, fun j => by rw [ep j, ep 0], ?_, ?_, ?_, ?_⟩
   ·rw [show (1 : Nat) = 1 + 0 from rfl, ep 0]; exact .one e2 (fun k' hk' => by obtain ⟨k2, f2, l2⟩ := hb _ _ hk'; rw [e] at f2; cases f2; exact l2)
   ·rw [show pth S.f 1 v = [v] from ep 0]; simp
   ·rw [show pth S.f 1 v = [v] from ep 0]; rfl
   ·rw [show pth S.f 1 v = [v] from ep 0]
    intro i hi
    have : i = 0 := by simpa using hi
    subst this
    exact ⟨k, e, e1⟩
  ·have hlt := hr _ _ _ e3
   obtain ⟨N, n1, n2, n3, n4, n5⟩ := ih (S.f v) ku (by omega) e2
   have ep : ∀ j, pth S.f (N + 1 + j) v = v :: pth S.f N (S.f v) := fun j => by
    rw [show N + 1 + j = (N + j) + 1 by omega]
    show (match decide (v < 0) with
     | true => []
     | false => v :: pth S.f (N + j) (S.f v)) = _
    rw [hv0, n1 j]
   have ep0 : pth S.f (N + 1) v = v :: pth S.f N (S.f v) := ep 0
   refine ⟨N + 1, fun j => by rw [ep j, ep0], ?_, ?_, ?_, ?_⟩
   ·rw [ep0]
    cases hl : pth S.f N (S.f v) with
    | nil => rw [hl] at n4; cases n4
    | cons u l =>
     rw [hl] at n2 n4
     have : u = S.f v := by simpa using n4
     subst this
     rw [e4]; exact .cons n2 e3
   ·rw [ep0]; simp; exact n3
   ·rw [ep0]; rfl
   ·rw [ep0]
    intro i hi
    cases i with
    | zero =>
     refine ⟨k, e, ?_⟩
     cases hl : pth S.f N (S.f v) with
     | nil => rw [hl] at n4; cases n4
     | cons u l =>
      rw [hl] at n4
      have : u = S.f v := by simpa using n4
      subst this
      rfl
    | succ i => exact n5 i (by simpa using hi)
end Go.HeapL
namespace Go.HeapL
/-! ### Least costs by definition -/
theorem int_min (P : Int → Prop) (h0 : ∀ d, P d → 0 ≤ d) (h : ∃ d, P d) : ∃ d, P d ∧ ∀ e, P e → d ≤ e := by
 obtain ⟨d, hd⟩ := h
 have key : ∀ (n : Nat) (d : Int), d.toNat ≤ n → P d → ∃ d, P d ∧ ∀ e, P e → d ≤ e := by
  intro n
  induction n with
  | zero =>
   intro d hn hd
   exact ⟨d, hd, fun e he => by have := h0 e he; have := h0 d hd; omega⟩
  | succ n ih =>
   intro d hn hd
   by_cases hc : ∃ e, P e ∧ e < d
   ·obtain ⟨e, he, hlt⟩ := hc
    exact ih e (by have := h0 e he; have := h0 d hd; omega) he
   ·exact ⟨d, hd, fun e he => Classical.byContradiction fun hn => hc ⟨e, he, by omega⟩⟩
 exact key d.toNat d (Nat.le_refl _) hd
/-- A cost that is the least of those told, or none below 2^62. -/
def IsMin (P : Int → Prop) (x : Int) : Prop := x ≤ NC ∧ (∀ d, P d → x ≤ d ∨ NC ≤ d) ∧ (x < NC → P x)
theorem IsMin.uniq {P : Int → Prop} {x y : Int} (h : IsMin P x) (k : IsMin P y) : x = y := by
 obtain ⟨h1, h2, h3⟩ := h
 obtain ⟨k1, k2, k3⟩ := k
 by_cases hx : x < NC
 ·have := k2 x (h3 hx)
  by_cases hy : y < NC
  ·have := h2 y (k3 hy); omega
  ·omega
 ·by_cases hy : y < NC
  ·have := h2 y (k3 hy); omega
  ·omega
theorem IsMin.ex (P : Int → Prop) (h0 : ∀ d, P d → 0 ≤ d) : ∃ x, IsMin P x := by
 by_cases h : ∃ d, P d ∧ d < NC
 ·obtain ⟨d, ⟨h1, h2⟩, h3⟩ := int_min (fun d => P d ∧ d < NC) (fun d h => h0 d h.1) h
  refine ⟨d, by omega, fun e he => ?_, fun _ => h1⟩
  by_cases hl : e < NC
  ·exact .inl (h3 e ⟨he, hl⟩)
  ·exact .inr (by omega)
 ·exact ⟨NC, Int.le_refl _, fun d hd => .inr (Classical.byContradiction fun hn => h ⟨d, hd, by omega⟩), fun h => absurd h (by omega)⟩
theorem IsMin.congr {P Q : Int → Prop} (h : ∀ d, P d ↔ Q d) {x : Int} (k : IsMin P x) : IsMin Q x :=
 ⟨k.1, fun d hd => k.2.1 d ((h d).2 hd), fun hx => (h x).1 (k.2.2 hx)⟩
open Classical in
noncomputable def minV (P : Int → Prop) : Int := if h : ∃ x, IsMin P x then Classical.choose h else 0
theorem minV_ok {P : Int → Prop} (h : ∃ x, IsMin P x) : IsMin P (minV P) := by
 unfold minV; rw [dif_pos h]; exact Classical.choose_spec h
theorem minV_eq {P : Int → Prop} {x : Int} (h : IsMin P x) : minV P = x := (minV_ok ⟨x, h⟩).uniq h
/-- A walk begins at one of its starts. -/
theorem wk_split {st : List It} {lk : Int → List It} {v d : Int} : Wk st lk v d ↔ ∃ k s, (k, s) ∈ st ∧ Wk [(0, s)] lk v (d - k) := by
 constructor
 ·intro h
  induction h with
  | start h => exact ⟨_, _, h, by rw [Int.sub_self]; exact .start (by simp)⟩
  | step h h2 ih =>
   obtain ⟨k, s, h3, h4⟩ := ih
   refine ⟨k, s, h3, ?_⟩
   have := Wk.step h4 h2
   rw [show ∀ a b c : Int, a - b + c = a + c - b from fun a b c => by omega] at this
   exact this
 ·rintro ⟨k, s, h, h2⟩
  have key : ∀ {v e : Int}, Wk [(0, s)] lk v e → Wk st lk v (k + e) := by
   intro v e h2
   induction h2 with
   | start hm =>
    simp only [List.mem_singleton, Prod.mk.injEq] at hm
    obtain ⟨rfl, rfl⟩ := hm
    rw [Int.add_zero]; exact .start h
   | step h3 h4 ih => rw [← Int.add_assoc]; exact .step ih h4
  have := key h2
  rw [show k + (d - k) = d by omega] at this
  exact this
def two (sa sz : List It) (up dn : Int → List It) (x : Int) : Prop := ∃ v ka kz, Wk sa up v ka ∧ Wk sz dn v kz ∧ x = ka + kz
theorem fin_isMin {n : Int} {sa sz : List It} {up dn : Int → List It} {Da Dz : List Int} {s : St} (hd : Dat n sa up) (hd' : Dat n sz dn) (h : J n sa sz up dn false Da Dz s) (hf : fin false up dn s = true) : IsMin (two sa sz up dn) s.b.cost := by
 refine ⟨by rcases h.bb with ⟨_, e⟩ | ⟨_, e, _⟩ <;> omega, ?_, ?_⟩
 ·rintro d ⟨v, ka, kz, h1, h2, rfl⟩
  exact fin_min hd hd' h hf h1 h2
 ·intro hlt
  rcases h.bb with ⟨_, e⟩ | ⟨_, _, ka, kz, _, _, w1, w2, e1, _⟩
  ·omega
  ·exact ⟨_, ka, kz, w1, w2, e1⟩
/-- What is told without what is stalled is never less. -/
theorem quick_ge {n : Int} {sa sz : List It} {up dn : Int → List It} {q : Bool} {Da Dz : List Int} {s : St} (h : J n sa sz up dn q Da Dz s) (hp : s.b.pt ≠ -1) {x : Int} (hx : IsMin (two sa sz up dn) x) : x ≤ s.b.cost ∧ s.b.cost < NC := by
 rcases h.bb with ⟨e, _⟩ | ⟨_, hl, ka, kz, _, _, w1, w2, e1, _⟩
 ·exact absurd e hp
 ·have := hx.2.1 s.b.cost ⟨_, ka, kz, w1, w2, e1⟩
  omega
/-- Of a pair of starts and ends, of all of them. -/
theorem two_split {sa sz : List It} {up dn : Int → List It} (x : Int) : two sa sz up dn x ↔ ∃ p ∈ sa, ∃ e ∈ sz, two [(0, p.2)] [(0, e.2)] up dn (x - p.1 - e.1) := by
 constructor
 ·rintro ⟨v, ka, kz, h1, h2, rfl⟩
  obtain ⟨k, s, m1, w1⟩ := wk_split.1 h1
  obtain ⟨k', s', m2, w2⟩ := wk_split.1 h2
  exact ⟨(k, s), m1, (k', s'), m2, v, _, _, w1, w2, by simp only; omega⟩
 ·rintro ⟨⟨k, s⟩, m1, ⟨k', s'⟩, m2, v, ka, kz, w1, w2, e⟩
  simp only at e w1 w2
  refine ⟨v, k + ka, k' + kz, wk_split.2 ⟨k, s, m1, ?_⟩, wk_split.2 ⟨k', s', m2, ?_⟩, by omega⟩
  ·rw [show k + ka - k = ka by omega]; exact w1
  ·rw [show k' + kz - k' = kz by omega]; exact w2
end Go.HeapL
namespace Go.HeapL
/-! ### Least costs by rounds -/
def updF1 (c : Nat → Int) (j : Nat) (x : Int) : Nat → Int := fun k => if k = j then x else c k
inductive UW (m : Nat) (ea eb ew : Nat → Int) (rk : Int → Int) (fr : Int) : Int → Int → Prop
 | start : UW m ea eb ew rk fr fr 0
 | step {i : Nat} {d : Int} (h : UW m ea eb ew rk fr (ea i) d) (hi : i < m) (hr : rk (ea i) < rk (eb i)) : UW m ea eb ew rk fr (eb i) (d + ew i)
structure UpI (m n : Nat) (ea eb ew : Nat → Int) (rk : Int → Int) (fr : Int) (t i : Nat) (c : Nat → Int) : Prop where
 bd : ∀ v : Nat, v < n → 0 ≤ c v ∧ c v ≤ NC ∧ (c v < NC → UW m ea eb ew rk fr v (c v))
 st : ∀ v : Nat, v < n → (v : Int) = fr → c v ≤ 0
 done : ∀ v : Nat, v < n → rk v < t → ∀ d, UW m ea eb ew rk fr v d → d < NC → c v ≤ d
 part : ∀ v : Nat, v < n → rk v = t → ∀ k, k < i → k < m → eb k = v → rk (ea k) < rk (eb k) → ∀ d, UW m ea eb ew rk fr (ea k) d → d + ew k < NC → c v ≤ d + ew k
section
variable {m n : Nat} {ea eb ew : Nat → Int} {rk : Int → Int} {fr : Int} {t i : Nat} {c : Nat → Int}
theorem UpI.init (hr : ∀ v : Nat, v < n → 0 ≤ rk v) : UpI m n ea eb ew rk fr 0 0 (fun v => if (v : Int) = fr then 0 else NC) := by
 refine ⟨fun v hv => ?_, fun v hv e => ?_, fun v hv h => ?_, fun v hv h k hk => by omega⟩
 ·split
  ·rename_i e; exact ⟨Int.le_refl _, by unfold NC; omega, fun _ => by rw [e]; exact .start⟩
  ·exact ⟨by unfold NC; omega, Int.le_refl _, fun h => absurd h (by omega)⟩
 ·rw [if_pos e]; exact Int.le_refl _
 ·have := hr v hv; omega
theorem UpI.round (h : UpI m n ea eb ew rk fr t m c) : UpI m n ea eb ew rk fr (t + 1) 0 c := by
 refine ⟨h.bd, h.st, fun v hv hlt d hw hd => ?_, fun v hv e k hk => by omega⟩
 by_cases e : rk v < t
 ·exact h.done v hv e d hw hd
 ·generalize hx : (v : Int) = x at hw
  cases hw with
  | start => exact h.st v hv hx
  | step hw hi hr => exact h.part v hv (by omega) _ hi hi hx.symm hr _ hw hd
theorem UpI.cut (h : UpI m n ea eb ew rk fr t i c) (hi : i < m) (hno : rk (ea i) < rk (eb i) → ∀ d, UW m ea eb ew rk fr (ea i) d → d + ew i < NC → rk (eb i) = t → c (eb i).toNat ≤ d + ew i) : UpI m n ea eb ew rk fr t (i + 1) c := by
 refine ⟨h.bd, h.st, h.done, fun v hv e k hk hkm hb hr d hw hd => ?_⟩
 by_cases ek : k = i
 ·subst ek
  have := hno hr d hw hd (by rw [hb]; exact e)
  rw [hb] at this; simpa using this
 ·exact h.part v hv e k (by omega) hkm hb hr d hw hd
/-- One link of a round. -/
theorem UpI.link (h : UpI m n ea eb ew rk fr t i c) (hi : i < m) (ha : 0 ≤ ea i ∧ ea i < n) (hb : 0 ≤ eb i ∧ eb i < n) (hw : 0 ≤ ew i) :
  (rk (ea i) < rk (eb i) → c (ea i).toNat < NC → c (ea i).toNat + ew i < c (eb i).toNat → UpI m n ea eb ew rk fr t (i + 1) (updF1 c (eb i).toNat (c (ea i).toNat + ew i))) ∧
  (¬ (rk (ea i) < rk (eb i) ∧ c (ea i).toNat < NC ∧ c (ea i).toNat + ew i < c (eb i).toNat) → UpI m n ea eb ew rk fr t (i + 1) c) := by
 have ea' : ((ea i).toNat : Int) = ea i := by omega
 have eb' : ((eb i).toNat : Int) = eb i := by omega
 have low : rk (eb i) = t → rk (ea i) < rk (eb i) → ∀ d, UW m ea eb ew rk fr (ea i) d → d + ew i < NC → c (ea i).toNat ≤ d := fun e hr d hd hl =>
  h.done (ea i).toNat (by omega) (by rw [ea']; omega) d (by rw [ea']; exact hd) (by omega)
 constructor
 ·intro hr h1 h2
  have hdn : ∀ v, updF1 c (eb i).toNat (c (ea i).toNat + ew i) v ≤ c v := fun v => by
   unfold updF1; split
   ·rename_i e; subst e; omega
   ·exact Int.le_refl _
  refine ⟨fun v hv => ?_, fun v hv e => Int.le_trans (hdn v) (h.st v hv e), fun v hv e d hw hd => Int.le_trans (hdn v) (h.done v hv e d hw hd), fun v hv e k hk hkm hbk hrk d hwk hd => ?_⟩
  ·have hb2 := h.bd (eb i).toNat (by omega)
   have ha2 := h.bd (ea i).toNat (by omega)
   unfold updF1; split
   ·rename_i e; subst e
    refine ⟨by omega, by omega, fun _ => ?_⟩
    rw [eb']
    have := ha2.2.2 h1
    rw [ea'] at this
    exact .step this hi hr
   ·exact h.bd v hv
  ·by_cases ek : k = i
   ·subst ek
    have := low (by rw [hbk]; exact e) hrk d hwk hd
    have ev : v = (eb k).toNat := by omega
    unfold updF1; rw [if_pos ev]; omega
   ·exact Int.le_trans (hdn v) (h.part v hv e k (by omega) hkm hbk hrk d hwk hd)
 ·intro hn
  refine h.cut hi fun hr d hd hl e => ?_
  have h1 := low e hr d hd hl
  refine Classical.byContradiction fun hc => hn ⟨hr, by omega, by omega⟩
theorem UpI.fin (h : UpI m n ea eb ew rk fr t i c) (hr : ∀ v : Nat, v < n → rk v < t) {v : Nat} (hv : v < n) : IsMin (UW m ea eb ew rk fr v) (c v) := by
 obtain ⟨h1, h2, h3⟩ := h.bd v hv
 refine ⟨h2, fun d hd => ?_, h3⟩
 by_cases hl : d < NC
 ·exact .inl (h.done v hv (hr v hv) d hd hl)
 ·exact .inr (by omega)
end
end Go.HeapL
namespace Go.HeapL
/-! ### Least costs of pairs, one behind the other -/
theorem IsMin.none {P : Int → Prop} (h : ∀ d, ¬ P d) : IsMin P NC := ⟨Int.le_refl _, fun d hd => absurd hd (h d), fun h => absurd h (by omega)⟩
theorem IsMin.step {P T P' : Int → Prop} {b n k : Int} (h : IsMin P b) (ht : IsMin T n) (h0 : ∀ d, T d → 0 ≤ d) (hk : 0 ≤ k) (hp : ∀ d, P' d ↔ P d ∨ T (d - k)) :
  (n < NC → k + n < b → IsMin P' (k + n)) ∧ (¬ (n < NC ∧ k + n < b) → IsMin P' b) := by
 obtain ⟨h1, h2, h3⟩ := h
 obtain ⟨t1, t2, t3⟩ := ht
 constructor
 ·intro a c
  refine ⟨by omega, fun d hd => ?_, fun _ => (hp _).2 (.inr ?_)⟩
  ·rcases (hp d).1 hd with hd | hd
   ·have := h2 d hd; omega
   ·have := t2 _ hd; have := h0 _ hd; omega
  ·rw [show k + n - k = n by omega]; exact t3 a
 ·intro hn
  refine ⟨h1, fun d hd => ?_, fun hb => (hp _).2 (.inl (h3 hb))⟩
  rcases (hp d).1 hd with hd | hd
  ·exact h2 d hd
  ·have := t2 _ hd; have := h0 _ hd
   refine Classical.byContradiction fun hc => hn ⟨by omega, by omega⟩
theorem IsMin.step2 {P A B P' : Int → Prop} {b x y : Int} (h : IsMin P b) (ha : IsMin A x) (hb : IsMin B y) (a0 : ∀ d, A d → 0 ≤ d) (b0 : ∀ d, B d → 0 ≤ d) (hp : ∀ d, P' d ↔ P d ∨ ∃ s t, A s ∧ B t ∧ d = s + t) :
  (x < NC → y < NC → x + y < b → IsMin P' (x + y)) ∧ (¬ (x < NC ∧ y < NC ∧ x + y < b) → IsMin P' b) := by
 obtain ⟨h1, h2, h3⟩ := h
 obtain ⟨t1, t2, t3⟩ := ha
 obtain ⟨u1, u2, u3⟩ := hb
 constructor
 ·intro p q c
  refine ⟨by omega, fun d hd => ?_, fun _ => (hp _).2 (.inr ⟨x, y, t3 p, u3 q, rfl⟩)⟩
  rcases (hp d).1 hd with hd | ⟨s, t, e1, e2, rfl⟩
  ·have := h2 d hd; omega
  ·have := t2 _ e1; have := u2 _ e2; have := a0 _ e1; have := b0 _ e2; omega
 ·intro hn
  refine ⟨h1, fun d hd => ?_, fun hb => (hp _).2 (.inl (h3 hb))⟩
  rcases (hp d).1 hd with hd | ⟨s, t, e1, e2, rfl⟩
  ·exact h2 d hd
  ·have := t2 _ e1; have := u2 _ e2; have := a0 _ e1; have := b0 _ e2
   refine Classical.byContradiction fun hc => hn ⟨by omega, by omega, by omega⟩
/-- Starts and ends that are reckoned with, up to a place. -/
def twoTo (sa sz : List It) (up dn : Int → List It) (i k : Nat) (x : Int) : Prop := ∃ i' k', (i' < i ∨ (i' = i ∧ k' < k)) ∧ i' < sa.length ∧ k' < sz.length ∧ two [(0, (gt sa i').2)] [(0, (gt sz k').2)] up dn (x - ((gt sa i').1 + (gt sz k').1))
theorem twoTo_step {sa sz : List It} {up dn : Int → List It} {i k : Nat} (hi : i < sa.length) (hk : k < sz.length) (x : Int) :
  twoTo sa sz up dn i (k + 1) x ↔ twoTo sa sz up dn i k x ∨ two [(0, (gt sa i).2)] [(0, (gt sz k).2)] up dn (x - ((gt sa i).1 + (gt sz k).1)) := by
 constructor
 ·rintro ⟨i', k', h, h1, h2, h3⟩
  by_cases e : i' = i ∧ k' = k
  ·obtain ⟨rfl, rfl⟩ := e; exact .inr h3
  ·exact .inl ⟨i', k', by omega, h1, h2, h3⟩
 ·rintro (⟨i', k', h, h1, h2, h3⟩ | h)
  ·exact ⟨i', k', by omega, h1, h2, h3⟩
  ·exact ⟨i, k, by omega, hi, hk, h⟩
theorem twoTo_row {sa sz : List It} {up dn : Int → List It} {i : Nat} (x : Int) : twoTo sa sz up dn i sz.length x ↔ twoTo sa sz up dn (i + 1) 0 x := by
 constructor
 ·rintro ⟨i', k', h, h1, h2, h3⟩; exact ⟨i', k', by omega, h1, h2, h3⟩
 ·rintro ⟨i', k', h, h1, h2, h3⟩; exact ⟨i', k', by omega, h1, h2, h3⟩
theorem twoTo_all {sa sz : List It} {up dn : Int → List It} (x : Int) : twoTo sa sz up dn sa.length 0 x ↔ two sa sz up dn x := by
 rw [two_split]
 constructor
 ·rintro ⟨i', k', h, h1, h2, h3⟩
  refine ⟨gt sa i', mem_gt h1, gt sz k', mem_gt h2, ?_⟩
  rw [show x - (gt sa i').1 - (gt sz k').1 = x - ((gt sa i').1 + (gt sz k').1) by omega]; exact h3
 ·rintro ⟨p, hp, e, he, h⟩
  obtain ⟨i, hi, rfl⟩ := mem_at hp
  obtain ⟨k, hk, rfl⟩ := mem_at he
  refine ⟨i, k, .inl hi, hi, hk, ?_⟩
  rw [show x - ((gt sa i).1 + (gt sz k).1) = x - (gt sa i).1 - (gt sz k).1 by omega]; exact h
/-- Walks by rounds are walks. -/
theorem uw_wk {m : Nat} {ea eb ew : Nat → Int} {rk : Int → Int} {lk : Int → List It} (h : ∀ u w v, (w, v) ∈ lk u ↔ ∃ i, i < m ∧ ea i = u ∧ eb i = v ∧ ew i = w ∧ rk (ea i) < rk (eb i)) (fr v d : Int) :
  UW m ea eb ew rk fr v d ↔ Wk [(0, fr)] lk v d := by
 constructor
 ·intro hw
  induction hw with
  | start => exact .start (by simp)
  | step _ hi hr ih => exact .step ih ((h _ _ _).2 ⟨_, hi, rfl, rfl, rfl, hr⟩)
 ·intro hw
  induction hw with
  | start hm =>
   simp only [List.mem_singleton, Prod.mk.injEq] at hm
   obtain ⟨rfl, rfl⟩ := hm
   exact .start
  | step _ hm ih =>
   obtain ⟨i, hi, e1, e2, e3, hr⟩ := (h _ _ _).1 hm
   subst e1 e2 e3
   exact .step ih hi hr
/-- Least ways from a vertex to another one, over each vertex. -/
theorem two_at {up dn : Int → List It} {n : Int} {s e : Int} (hu : Dat n [(0, s)] up) (x : Int) :
  two [(0, s)] [(0, e)] up dn x ↔ ∃ v : Nat, (v : Int) < n ∧ ∃ a b, Wk [(0, s)] up v a ∧ Wk [(0, e)] dn v b ∧ x = a + b := by
 constructor
 ·rintro ⟨v, a, b, h1, h2, h3⟩
  have := wk_ok hu h1
  refine ⟨v.toNat, by omega, a, b, ?_, ?_, h3⟩
  ·rw [show (v.toNat : Int) = v by omega]; exact h1
  ·rw [show (v.toNat : Int) = v by omega]; exact h2
 ·rintro ⟨v, _, a, b, h1, h2, h3⟩; exact ⟨v, a, b, h1, h2, h3⟩
end Go.HeapL
namespace Go.Proofs.Ytfhdmhoeopbhnaa
open Go.Proofs.Ytfhdmhoeopbhnaa.Am Go.HeapL
variable [Inhabited DRT]
/-! ### A hierarchy's links as arcs, up and down: plain laws -/
abbrev rkI (rk : List Int) (v : Int) : Int := rk.getD v.toNat 0
def upE (rk : List Int) (ls : List Lk) (u : Int) : List It := ls.filterMap (upF rk u)
def dnE (rk : List Int) (ls : List Lk) (u : Int) : List It := ls.filterMap (downF rk u)
theorem mem_at' {ls : List Lk} {x : Lk} : x ∈ ls ↔ ∃ i, i < ls.length ∧ ls.getD i default = x := by
 constructor
 ·intro h
  obtain ⟨i, hi, e⟩ := List.getElem_of_mem h
  exact ⟨i, hi, by rw [List.getD_eq_getElem?_getD, List.getElem?_eq_getElem hi]; exact e⟩
 ·rintro ⟨i, hi, rfl⟩
  rw [List.getD_eq_getElem?_getD, List.getElem?_eq_getElem hi]; exact List.getElem_mem hi
theorem upE_mem (rk : List Int) (ls : List Lk) (u w v : Int) : (w, v) ∈ upE rk ls u ↔ ∃ i, i < ls.length ∧ (ls.getD i default).f = u ∧ (ls.getD i default).t = v ∧ (ls.getD i default).w = w ∧ rkI rk (ls.getD i default).f < rkI rk (ls.getD i default).t := by
 unfold upE
 rw [List.mem_filterMap]
 constructor
 ·rintro ⟨x, hx, e⟩
  obtain ⟨i, hi, rfl⟩ := mem_at'.1 hx
  unfold upF at e
  split at e
  ·rename_i h
   simp only [Option.some.injEq, Prod.mk.injEq] at e
   exact ⟨i, hi, h.1, e.2, e.1, by rw [h.1]; exact h.2⟩
  ·cases e
 ·rintro ⟨i, hi, h1, h2, h3, h4⟩
  refine ⟨_, mem_at'.2 ⟨i, hi, rfl⟩, ?_⟩
  unfold upF
  rw [if_pos ⟨h1, by rw [← h1]; exact h4⟩, h2, h3]
theorem dnE_mem (rk : List Int) (ls : List Lk) (u w v : Int) : (w, v) ∈ dnE rk ls u ↔ ∃ i, i < ls.length ∧ (ls.getD i default).t = u ∧ (ls.getD i default).f = v ∧ (ls.getD i default).w = w ∧ rkI rk (ls.getD i default).t < rkI rk (ls.getD i default).f := by
 unfold dnE
 rw [List.mem_filterMap]
 constructor
 ·rintro ⟨x, hx, e⟩
  obtain ⟨i, hi, rfl⟩ := mem_at'.1 hx
  unfold downF at e
  split at e
  ·rename_i h
   simp only [Option.some.injEq, Prod.mk.injEq] at e
   exact ⟨i, hi, h.1, e.2, e.1, by rw [h.1]; exact h.2⟩
  ·cases e
 ·rintro ⟨i, hi, h1, h2, h3, h4⟩
  refine ⟨_, mem_at'.2 ⟨i, hi, rfl⟩, ?_⟩
  unfold downF
  rw [if_pos ⟨h1, by rw [← h1]; exact h4⟩, h2, h3]
/-- Starts, or ends, that may be. -/
def ItP (n : Nat) (l : List It) : Prop := l.length ≤ 1000 ∧ ∀ i, i < l.length → 0 ≤ (l.getD i (0, 0)).2 ∧ (l.getD i (0, 0)).2 < n ∧ 0 ≤ (l.getD i (0, 0)).1 ∧ (l.getD i (0, 0)).1 ≤ 1152921504606846976
instance (n : Nat) (l : List It) : Decidable (ItP n l) := inferInstanceAs (Decidable (_ ∧ ∀ i, i < l.length → _))
theorem ItP.mem {n : Nat} {l : List It} (h : ItP n l) {k v : Int} (hm : (k, v) ∈ l) : 0 ≤ v ∧ v < n ∧ 0 ≤ k ∧ k ≤ 1152921504606846976 := by
 obtain ⟨i, hi, e⟩ := mem_at hm
 have := h.2 i hi
 unfold gt at e
 rw [e] at this; exact this
theorem dat_up {rk : List Int} {ls : List Lk} (hS : SortedP rk.length ls) {l : List It} (h : ItP rk.length l) : Dat rk.length l (upE rk ls) :=
 ⟨fun k v hm => by have := h.mem hm; unfold NC; omega, fun u w v hm => by
  obtain ⟨i, hi, e1, e2, e3, _⟩ := (upE_mem rk ls u w v).1 hm
  have ho := (hS i hi).1
  unfold okL at ho; rw [e2, e3] at ho; omega⟩
theorem dat_dn {rk : List Int} {ls : List Lk} (hS : SortedP rk.length ls) {l : List It} (h : ItP rk.length l) : Dat rk.length l (dnE rk ls) :=
 ⟨fun k v hm => by have := h.mem hm; unfold NC; omega, fun u w v hm => by
  obtain ⟨i, hi, e1, e2, e3, _⟩ := (dnE_mem rk ls u w v).1 hm
  have ho := (hS i hi).1
  unfold okL at ho; rw [e2, e3] at ho; omega⟩
theorem itp_one {n : Nat} {v : Int} (h : 0 ≤ v ∧ v < n) : ItP n [(0, v)] := by
 refine ⟨by simp, fun i hi => ?_⟩
 have : i = 0 := by simpa using hi
 subst this
 exact ⟨h.1, h.2, by show (0 : Int) ≤ 0; omega, by show (0 : Int) ≤ 1152921504606846976; omega⟩
def rkN (rk : List Int) (v : Int) : Nat := (rkI rk v).toNat
theorem rise_up {rk : List Int} {ls : List Lk} (hR : RanksP rk) (hS : SortedP rk.length ls) (u w v : Int) (h : (w, v) ∈ upE rk ls u) : rkN rk u < rkN rk v := by
 obtain ⟨i, hi, e1, e2, e3, e4⟩ := (upE_mem rk ls u w v).1 h
 have ho := (hS i hi).1
 unfold okL at ho
 have r1 := (hR (ls.getD i default).f.toNat (by omega)).1
 unfold rkN rkI at *
 rw [e1, e2] at e4
 rw [e1] at r1
 omega
theorem rise_dn {rk : List Int} {ls : List Lk} (hR : RanksP rk) (hS : SortedP rk.length ls) (u w v : Int) (h : (w, v) ∈ dnE rk ls u) : rkN rk u < rkN rk v := by
 obtain ⟨i, hi, e1, e2, e3, e4⟩ := (dnE_mem rk ls u w v).1 h
 have ho := (hS i hi).1
 unfold okL at ho
 have r1 := (hR (ls.getD i default).t.toNat (by omega)).1
 unfold rkN rkI at *
 rw [e1, e2] at e4
 rw [e1] at r1
 omega
theorem rkN_le {rk : List Int} (hR : RanksP rk) {v : Int} (h : 0 ≤ v ∧ v < rk.length) : rkN rk v + 1 ≤ rk.length := by
 have r1 := (hR v.toNat (by omega)).1
 unfold rkN rkI
 omega
/-! ### Walks as lists -/
def wAt (ls : List Lk) (a b : Int) : Int := (ls.getD (posL ls a b).toNat default).w
def wsum (ls : List Lk) : List Int → Int
 | x :: y :: l => wAt ls x y + wsum ls (y :: l)
 | _ => 0
def chn (ls : List Lk) : List Int → Prop
 | x :: y :: l => 0 ≤ posL ls x y ∧ chn ls (y :: l)
 | _ => True
theorem uniqL {n : Nat} {ls : List Lk} (hS : SortedP n ls) {i : Nat} (hi : i < ls.length) : posL ls (ls.getD i default).f (ls.getD i default).t = (i : Int) := by
 rcases posL_cases ls (ls.getD i default).f (ls.getD i default).t with ⟨_, h⟩ | ⟨j, h1, h2, h3, h4⟩
 ·exact absurd ⟨rfl, rfl⟩ (h i hi)
 ·rw [h1]
  have key : ∀ i j, i < j → j < ls.length → (ls.getD i default).f = (ls.getD j default).f → (ls.getD i default).t = (ls.getD j default).t → False := by
   intro i j hij hj h1 h2
   have := rising hS i (j - i - 1) (by omega)
   rw [show i + (j - i - 1 + 1) = j by omega] at this
   unfold lexLt at this
   omega
  rcases Nat.lt_trichotomy i j with h | h | h
  ·exact (key i j h h2 h3.symm h4.symm).elim
  ·rw [h]
  ·exact (key j i h hi h3 h4).elim
theorem up_pos {rk : List Int} {ls : List Lk} (hS : SortedP rk.length ls) {u w v : Int} (h : (w, v) ∈ upE rk ls u) : 0 ≤ posL ls u v ∧ wAt ls u v = w := by
 obtain ⟨i, hi, e1, e2, e3, _⟩ := (upE_mem rk ls u w v).1 h
 have := uniqL hS hi
 rw [e1, e2] at this
 unfold wAt
 rw [this]
 exact ⟨by omega, e3⟩
theorem dn_pos {rk : List Int} {ls : List Lk} (hS : SortedP rk.length ls) {u w v : Int} (h : (w, v) ∈ dnE rk ls u) : 0 ≤ posL ls v u ∧ wAt ls v u = w := by
 obtain ⟨i, hi, e1, e2, e3, _⟩ := (dnE_mem rk ls u w v).1 h
 have := uniqL hS hi
 rw [e1, e2] at this
 unfold wAt
 rw [this]
 exact ⟨by omega, e3⟩
theorem wsum_app (ls : List Lk) (v : Int) (ys : List Int) : ∀ xs : List Int, wsum ls (xs ++ v :: ys) = wsum ls (xs ++ [v]) + wsum ls (v :: ys)
 | [] => by simp [wsum]
 | [x] => by simp [wsum]
 | x :: y :: l => by
  have := wsum_app ls v ys (y :: l)
  simp only [List.cons_append, wsum] at this ⊢
  omega
theorem chn_app (ls : List Lk) (v : Int) (ys : List Int) : ∀ xs : List Int, chn ls (xs ++ [v]) → chn ls (v :: ys) → chn ls (xs ++ v :: ys)
 | [], _, h => h
 | [x], h1, h2 => ⟨h1.1, h2⟩
 | x :: y :: l, h1, h2 => ⟨h1.1, chn_app ls v ys (y :: l) h1.2 h2⟩
/-- A way back on the side of the ends. -/
theorem pc_dn {rk : List Int} {ls : List Lk} (hS : SortedP rk.length ls) {sz : List It} {p : List Int} {k : Int} (h : PC sz (dnE rk ls) p k) :
  chn ls p ∧ ∃ k0, (k0, p.getLastD 0) ∈ sz ∧ (∀ k', (k', p.getLastD 0) ∈ sz → k0 ≤ k') ∧ k = k0 + wsum ls p := by
 induction h with
 | one h hm => exact ⟨trivial, _, h, hm, by simp [wsum]⟩
 | cons h h2 ih =>
  obtain ⟨c, k0, i1, i2, i3⟩ := ih
  obtain ⟨q1, q2⟩ := dn_pos hS h2
  refine ⟨⟨q1, c⟩, k0, by simpa using i1, by simpa using i2, ?_⟩
  rw [i3, wsum, q2]; omega
/-- A way back on the side of the starts, turned. -/
theorem pc_up {rk : List Int} {ls : List Lk} (hS : SortedP rk.length ls) {sa : List It} {p : List Int} {k : Int} (h : PC sa (upE rk ls) p k) :
  chn ls p.reverse ∧ ∃ k0, (k0, p.getLastD 0) ∈ sa ∧ (∀ k', (k', p.getLastD 0) ∈ sa → k0 ≤ k') ∧ k = k0 + wsum ls p.reverse := by
 induction h with
 | one h hm => exact ⟨trivial, _, h, hm, by simp [wsum]⟩
 | cons h h2 ih =>
  obtain ⟨c, k0, i1, i2, i3⟩ := ih
  obtain ⟨q1, q2⟩ := up_pos hS h2
  simp only [List.reverse_cons, List.append_assoc, List.cons_append, List.nil_append] at c i3 ⊢
  refine ⟨chn_app ls _ _ _ c ⟨q1, trivial⟩, k0, by simpa using i1, by simpa using i2, ?_⟩
  rw [wsum_app, i3, wsum, q2]
  simp [wsum]; omega
end Go.Proofs.Ytfhdmhoeopbhnaa
namespace Go.Proofs.Ytfhdmhoeopbhnaa
open Go.Proofs.Ytfhdmhoeopbhnaa.Am Go.HeapL
/-! ### The heap as a row and a map -/
def itA (x : It) : List A := [.int .i64 x.1, .int .i64 x.2]
def itR (L : List It) : Nat → List A := fun i => [.int .i64 (L.getD i (0, 0)).1, .int .i64 (L.getD i (0, 0)).2]
def atH (L : List It) : List KC → Bool
 | [.int v] => hasL L v
 | _ => false
def atV (L : List It) : List KC → A
 | [.int v] => .int .i64 ((ix L v : Nat) : Int)
 | _ => .junk
abbrev atB (L : List It) : Blk := .mapb false [.int .i64] (atH L) (atV L)
theorem row_set {L : List It} {i : Nat} {x : It} (h : i < L.length) (j : Nat) : updRow (itR L) i [.int .i64 x.1, .int .i64 x.2] j = itR (L.set i x) j := by
 have := gt_set (j := j) (x := x) h
 unfold gt at this
 unfold updRow itR
 rw [this]
 split <;> rfl
theorem row_sw {L : List It} {i k : Nat} (hi : i < L.length) (hk : k < L.length) (j : Nat) :
  updRow (updRow (itR L) i [.int .i64 (L.getD k (0, 0)).1, .int .i64 (L.getD k (0, 0)).2]) k [.int .i64 (L.getD i (0, 0)).1, .int .i64 (L.getD i (0, 0)).2] j = itR (sw L i k) j := by
 have h := gt_sw (j := j) hi hk
 unfold gt at h
 unfold updRow itR
 rw [h]
 split
 ·rfl
 ·split <;> rfl
theorem swap_has {L : List It} {i k : Nat} (hi : i < L.length) (hk : k < L.length) (key : List KC) :
  putH (putH (atH L) [.int (L.getD k (0, 0)).2] true) [.int (L.getD i (0, 0)).2] true key = atH (sw L i k) key := by
 have hp : ∀ v, hasL (sw L i k) v = hasL L v := has_perm (sw_perm hi hk)
 have h1 : hasL L (L.getD i (0, 0)).2 = true := has_at hi
 have h2 : hasL L (L.getD k (0, 0)).2 = true := has_at hk
 unfold putH
 split
 ·rename_i e; subst e; exact ((hp _).trans h1).symm
 ·split
  ·rename_i e; subst e; exact ((hp _).trans h2).symm
  ·unfold atH; split
   ·exact (hp _).symm
   ·rfl
theorem swap_val {L : List It} {i k : Nat} (hn : Nd L) (hi : i < L.length) (hk : k < L.length) (key : List KC) (h : putH (putH (atH L) [.int (L.getD k (0, 0)).2] true) [.int (L.getD i (0, 0)).2] true key = true) :
  putV (putV (atV L) [.int (L.getD k (0, 0)).2] (.int .i64 (i : Int))) [.int (L.getD i (0, 0)).2] (.int .i64 (k : Int)) key = atV (sw L i k) key := by
 have hn' : Nd (sw L i k) := (nd_perm (sw_perm hi hk)).2 hn
 have hix : ∀ j, j < L.length → ix (sw L i k) (gt (sw L i k) j).2 = j := fun j hj => ix_gt hn' (by rw [sw_len]; exact hj)
 have hk' := hix k hk
 rw [gt_sw hi hk, if_pos rfl] at hk'
 have hi' := hix i hi
 rw [gt_sw hi hk, if_pos rfl] at hi'
 rw [swap_has hi hk] at h
 unfold putV
 split
 ·rename_i e; subst e
  show _ = A.int .i64 ((ix (sw L i k) (gt L i).2 : Nat) : Int)
  rw [hk']
 ·rename_i h1
  split
  ·rename_i e; subst e
   show _ = A.int .i64 ((ix (sw L i k) (gt L k).2 : Nat) : Int)
   by_cases e : i = k
   ·subst e; exact absurd rfl h1
   ·rw [if_neg e] at hi'
    rw [hi']
  ·rename_i h2
   unfold atH at h
   split at h
   ·rename_i v
    show A.int .i64 ((ix L v : Nat) : Int) = A.int .i64 ((ix (sw L i k) v : Nat) : Int)
    rw [has_perm (sw_perm hi hk)] at h
    have hl := ix_lt h
    have ha := ix_at h
    have hj := hix _ hl
    rw [gt_sw hi hk] at hj
    rw [if_neg (fun e => h2 (by rw [← ha, e]; rfl)), if_neg (fun e => h1 (by rw [← ha, e]; rfl)), ha] at hj
    rw [hj]
   ·cases h
theorem del_has {L : List It} (hl : 0 < L.length) (hn : Nd L) (key : List KC) : putH (atH L) [.int (L.getD (L.length - 1) (0, 0)).2] false key = atH L.dropLast key := by
 have hp := drop_perm hl
 have hn2 : Nd (gt L (L.length - 1) :: L.dropLast) := (nd_perm hp).2 hn
 unfold Nd at hn2
 rw [List.map_cons, List.nodup_cons] at hn2
 have hm : ∀ v, hasL L v = true ↔ v = (gt L (L.length - 1)).2 ∨ hasL L.dropLast v = true := by
  intro v
  rw [← has_perm hp v, hasL_iff, hasL_iff]
  constructor
  ·rintro ⟨x, hx⟩
   rcases List.mem_cons.1 hx with e | e
   ·exact .inl (by rw [← e])
   ·exact .inr ⟨x, e⟩
  ·rintro (e | ⟨x, hx⟩)
   ·exact ⟨_, List.mem_cons.2 (.inl (Prod.ext rfl e))⟩
   ·exact ⟨x, List.mem_cons.2 (.inr hx)⟩
 unfold putH
 split
 ·rename_i e; subst e
  show false = hasL L.dropLast (gt L (L.length - 1)).2
  cases hh : hasL L.dropLast (gt L (L.length - 1)).2 with
  | false => rfl
  | true =>
   obtain ⟨x, hx⟩ := hasL_iff.1 hh
   exact absurd (List.mem_map.2 ⟨_, hx, rfl⟩) hn2.1
 ·rename_i hne
  unfold atH
  split
  ·rename_i v
   rw [Bool.eq_iff_iff, hm]
   constructor
   ·rintro (e | e)
    ·exact absurd (by rw [e]; rfl) hne
    ·exact e
   ·exact .inr
  ·rfl
theorem del_val {L : List It} (hl : 0 < L.length) (hn : Nd L) (key : List KC) (h : putH (atH L) [.int (L.getD (L.length - 1) (0, 0)).2] false key = true) : atV L key = atV L.dropLast key := by
 rw [del_has hl hn] at h
 unfold atH at h
 split at h
 ·rename_i v
  show A.int .i64 ((ix L v : Nat) : Int) = A.int .i64 ((ix L.dropLast v : Nat) : Int)
  have h1 := ix_lt h
  have h2 := ix_at h
  have h3 : ix L.dropLast v + 1 < L.length := by simp at h1; omega
  rw [gt_drop h3] at h2
  have := ix_gt hn (i := ix L.dropLast v) (by omega)
  rw [h2] at this
  rw [this]
 ·cases h
theorem push_has {L : List It} {x : It} (key : List KC) : putH (atH L) [.int x.2] true key = atH (L ++ [x]) key := by
 unfold putH
 split
 ·rename_i e; subst e
  show true = hasL (L ++ [x]) x.2
  exact (hasL_iff.2 ⟨x.1, by simp⟩).symm
 ·rename_i hne
  unfold atH
  split
  ·rename_i v
   rw [Bool.eq_iff_iff, hasL_iff, hasL_iff]
   constructor
   ·rintro ⟨k, hk⟩; exact ⟨k, by simp [hk]⟩
   ·rintro ⟨k, hk⟩
    rw [List.mem_append, List.mem_singleton] at hk
    rcases hk with hk | hk
    ·exact ⟨k, hk⟩
    ·exact absurd (by rw [← hk]) hne
  ·rfl
theorem push_val {L : List It} {x : It} (hn : Nd L) (hx : hasL L x.2 = false) (key : List KC) (h : putH (atH L) [.int x.2] true key = true) : putV (atV L) [.int x.2] (.int .i64 (L.length : Int)) key = atV (L ++ [x]) key := by
 have hn' : Nd (L ++ [x]) := by
  unfold Nd at *
  rw [List.map_append, List.nodup_append]
  refine ⟨hn, by simp, ?_⟩
  intro a ha b hb
  simp only [List.map_cons, List.map_nil, List.mem_singleton] at hb
  subst hb
  obtain ⟨⟨k, u⟩, hm, e⟩ := List.mem_map.1 ha
  intro e'
  simp only at e; subst e; subst e'
  rw [hasL_iff.2 ⟨k, hm⟩] at hx; cases hx
 have hg : ∀ j, j < L.length → gt (L ++ [x]) j = gt L j := fun j hj => by
  unfold gt; rw [List.getD_eq_getElem?_getD, List.getElem?_append_left hj, List.getD_eq_getElem?_getD]
 unfold putV
 split
 ·rename_i e; subst e
  show _ = A.int .i64 ((ix (L ++ [x]) x.2 : Nat) : Int)
  have h1 := ix_gt hn' (i := L.length) (by simp)
  have h2 : gt (L ++ [x]) L.length = x := by rw [gt_eq (by simp)]; simp
  rw [h2] at h1
  rw [h1]
 ·rename_i hne
  unfold putH at h
  rw [if_neg hne] at h
  unfold atH at h
  split at h
  ·rename_i v
   show A.int .i64 ((ix L v : Nat) : Int) = A.int .i64 ((ix (L ++ [x]) v : Nat) : Int)
   have h1 := ix_lt h
   have h2 := ix_at h
   have h3 := ix_gt hn' (i := ix L v) (by simp; omega)
   rw [hg _ h1, h2] at h3
   rw [h3]
  ·cases h
theorem set_has {L : List It} {i : Nat} (hi : i < L.length) {x : It} (e : (gt L i).2 = x.2) (key : List KC) : atH L key = atH (L.set i x) key := by
 unfold atH
 split
 ·rename_i v
  rw [Bool.eq_iff_iff, hasL_iff, hasL_iff]
  constructor
  ·rintro ⟨k, hk⟩
   obtain ⟨j, hj, f⟩ := mem_at hk
   have hg := gt_set (j := j) (x := x) hi
   by_cases ej : j = i
   ·subst ej
    refine ⟨x.1, ?_⟩
    rw [if_pos rfl] at hg
    have := mem_gt (L := L.set j x) (i := j) (by simpa using hj)
    rw [hg] at this
    rw [f] at e; simp only at e
    rw [show (x.1, v) = x from Prod.ext rfl e]; exact this
   ·rw [if_neg ej, f] at hg
    have := mem_gt (L := L.set i x) (i := j) (by simpa using hj)
    rw [hg] at this
    exact ⟨k, this⟩
  ·rintro ⟨k, hk⟩
   obtain ⟨j, hj, f⟩ := mem_at hk
   simp only [List.length_set] at hj
   rw [gt_set hi] at f
   split at f
   ·rename_i ej; subst ej
    have := mem_gt hi
    subst f
    exact ⟨(gt L j).1, by rw [show ((gt L j).1, v) = gt L j from Prod.ext rfl e.symm]; exact this⟩
   ·have := mem_gt hj
    rw [f] at this; exact ⟨k, this⟩
 ·rfl
theorem set_val {L : List It} (hn : Nd L) {i : Nat} (hi : i < L.length) {x : It} (e : (gt L i).2 = x.2) (key : List KC) (h : atH L key = true) : atV L key = atV (L.set i x) key := by
 unfold atH at h
 split at h
 ·rename_i v
  show A.int .i64 ((ix L v : Nat) : Int) = A.int .i64 ((ix (L.set i x) v : Nat) : Int)
  have h1 := ix_lt h
  have h2 := ix_at h
  have h3 := ix_gt (set_nd hn hi e) (i := ix L v) (by simpa using h1)
  rw [gt_set hi] at h3
  split at h3
  ·rename_i ej
   rw [← e, ← ej, h2] at h3
   subst ej
   rw [h3]
  ·rw [h2] at h3; rw [h3]
 ·cases h
end Go.Proofs.Ytfhdmhoeopbhnaa
namespace Go.Proofs.Ytfhdmhoeopbhnaa
open Go.Proofs.Ytfhdmhoeopbhnaa.Am Go.HeapL
variable [Inhabited DRT]
variable {G : GInv}
/-! ### The heap: its walks -/
set_option maxRecDepth 100000 in
theorem less_c (a b : It) : ACalls Try.prog G 187 [.agg [.int .i64 a.1, .int .i64 a.2], .agg [.int .i64 b.1, .int .i64 b.2]] (.sb (lt a b)) := by
 refine ACalls.of_WA ttok Try.func187 rfl rfl _ rfl ?_
 conv => whnf
 repeat' (first | refine sq ?_ | refine bk ?_ | ((first | refine rg ttok ?_ | refine dw ttok mixed ?_ | refine cd ?_ | refine sk ?_ | refine xt ?_ | refine rt ?_); conv => whnf) | (refine And.intro (fun h => ?_) (fun h => ?_) <;> (try simp only [brsA] at h) <;> conv => whnf) | ((first | refine wf ?_ | refine wp' ?_ | refine ai ?_ | refine And.intro rfl ?_ | refine an ?_ | fail); conv => whnf))
 ·rename_i h1
  unfold lt
  rw [decide_eq_false h1, decide_eq_true h]; simp
 ·rename_i h1
  unfold lt
  rw [decide_eq_false h1, decide_eq_false h]; rfl
 ·unfold lt
  rw [decide_eq_true h]; rfl
theorem putV_putV (v : List KC → A) (k : List KC) (x y : A) : putV (putV v k x) k y = putV v k y := by
 funext j; unfold putV; split <;> rfl
abbrev hBs (L : List It) : List Blk := [.box 213 [.own 2, .omap 3], .row 92 2 L.length (itR L), atB L]
set_option maxRecDepth 100000 in
set_option maxHeartbeats 1000000 in
theorem swap_c (L : List It) (i k : Nat) (hn : Nd L) (hi : i < L.length) (hk : k < L.length) (hl : L.length ≤ 1000000) :
  MCalls Try.prog G 165 [.ref 1 0, .int .i64 (i : Int), .int .i64 (k : Int)] (.ghost [.junk, .junk, .junk, .ref 1 0, .junk, .omap 3] :: hBs L) (.tup [])
   (.ghost [.junk, .junk, .junk, .ref 1 0, .junk, .omap 3] :: hBs (sw L i k)) := by
 have hsl := sw_len L i k
 have hr := fun j => row_sw hi hk j
 have hh := fun key => swap_has hi hk key
 have hv := fun key => swap_val hn hi hk key
 unfold hBs
 rw [hsl]
 generalize sw L i k = M at *
 by_cases hne : k = i
 ·subst hne
  refine MCalls.of_WA ttok Try.func165 rfl rfl _ rfl ?_
  conv => whnf
  repeat' (first | ((rw [updRow_eq]; conv => whnf)) | ((refine WA_trkR (id := 1) 3 ?_; (conv => whnf); refine dw ttok mixed ?_; conv => whnf)) | refine sq ?_ | refine bk ?_ | ((first | refine rg ttok ?_ | refine dw ttok mixed ?_ | refine cd ?_ | refine sk ?_ | refine xt ?_ | refine rt ?_); conv => whnf) | (refine And.intro (fun h => ?_) (fun h => ?_) <;> (try simp only [brsA] at h) <;> conv => whnf) | ((first | refine wf ?_ | refine wp' ?_ | refine ai ?_ | refine And.intro rfl ?_ | refine an ?_ | fail); conv => whnf))
  exact ⟨Or.inl fun j _ => hr j, rfl, rfl, fun key => hh key, fun key h => by have h2 := hv key h; simp only [putV_putV] at h2 ⊢; exact h2⟩
 ·refine MCalls.of_WA ttok Try.func165 rfl rfl _ rfl ?_
  conv => whnf
  repeat' (first | ((rw [updRow_ne (show (k : Int).toNat ≠ (i : Int).toNat by omega)]; conv => whnf)) | ((rw [updRow_ne (show (i : Int).toNat ≠ (k : Int).toNat by omega)]; conv => whnf)) | ((rw [updRow_eq]; conv => whnf)) | ((refine WA_trkR (id := 1) 3 ?_; (conv => whnf); refine dw ttok mixed ?_; conv => whnf)) | refine sq ?_ | refine bk ?_ | ((first | refine rg ttok ?_ | refine dw ttok mixed ?_ | refine cd ?_ | refine sk ?_ | refine xt ?_ | refine rt ?_); conv => whnf) | (refine And.intro (fun h => ?_) (fun h => ?_) <;> (try simp only [brsA] at h) <;> conv => whnf) | ((first | refine wf ?_ | refine wp' ?_ | refine ai ?_ | refine And.intro rfl ?_ | refine an ?_ | fail); conv => whnf))
  exact ⟨Or.inl fun j _ => hr j, rfl, rfl, fun key => hh key, fun key h => by have h2 := hv key h; simp only [putV_putV] at h2 ⊢; exact h2⟩
set_option maxRecDepth 100000 in
theorem len_c (L : List It) (hl : L.length ≤ 1000000) : MCalls Try.prog G 164 [.ref 1 0] (.ghost [.junk, .ref 1 0, .junk, .omap 3] :: hBs L) (.int .i64 (L.length : Int)) (.ghost [.junk, .ref 1 0, .junk, .omap 3] :: hBs L) := by
 refine MCalls.of_WA ttok Try.func164 rfl rfl _ rfl ?_
 conv => whnf
 repeat' (first | refine sq ?_ | refine bk ?_ | ((first | refine rg ttok ?_ | refine dw ttok mixed ?_ | refine cd ?_ | refine sk ?_ | refine xt ?_ | refine rt ?_); conv => whnf) | (refine And.intro (fun h => ?_) (fun h => ?_) <;> (try simp only [brsA] at h) <;> conv => whnf) | ((first | refine wf ?_ | refine wp' ?_ | refine ai ?_ | refine And.intro rfl ?_ | refine an ?_ | fail); conv => whnf))
 repeat (first | exact fa | ((first | refine fb ?_ | (refine And.intro ?_ ?_; rotate_left)); conv => whnf))
set_option maxRecDepth 100000 in
theorem least_yes (L : List It) (h : 0 < L.length) (hl : L.length ≤ 1000000) : MCalls Try.prog G 135 [.ref 1 0] (.ghost [.junk, .ref 1 0, .junk, .omap 3] :: hBs L) (.tup [.agg [.int .i64 (gt L 0).1, .int .i64 (gt L 0).2], .bool true]) (.ghost [.junk, .ref 1 0, .junk, .omap 3] :: hBs L) := by
 have h1 := len_c (G := G) L hl
 refine MCalls.of_WA ttok Try.func135 rfl rfl _ rfl ?_
 conv => whnf
 repeat' (first | refine sq ?_ | refine bk ?_ | ((first | refine rg ttok ?_ | refine dw ttok mixed ?_ | refine cd ?_ | refine sk ?_ | refine xt ?_ | refine rt ?_); conv => whnf) | (refine And.intro (fun h => ?_) (fun h => ?_) <;> (try simp only [brsA] at h) <;> conv => whnf) | (refine Or.inr (Or.inl ?_); (conv => whnf); refine ⟨_, _, h1, ?_⟩; conv => whnf) | ((first | refine wf ?_ | refine wp' ?_ | refine ai ?_ | refine And.intro rfl ?_ | refine an ?_ | fail); conv => whnf))
 repeat (first | exact fa | ((first | refine fb ?_ | (refine And.intro ?_ ?_; rotate_left)); conv => whnf))
set_option maxRecDepth 100000 in
theorem least_no (L : List It) (h : L.length = 0) : MCalls Try.prog G 135 [.ref 1 0] (.ghost [.junk, .ref 1 0, .junk, .omap 3] :: hBs L) (.tup [.agg [.int .i64 0, .int .i64 0], .bool false]) (.ghost [.junk, .ref 1 0, .junk, .omap 3] :: hBs L) := by
 have h1 := len_c (G := G) L (by omega)
 refine MCalls.of_WA ttok Try.func135 rfl rfl _ rfl ?_
 conv => whnf
 repeat' (first | refine sq ?_ | refine bk ?_ | ((first | refine rg ttok ?_ | refine dw ttok mixed ?_ | refine cd ?_ | refine sk ?_ | refine xt ?_ | refine rt ?_); conv => whnf) | (refine And.intro (fun h => ?_) (fun h => ?_) <;> (try simp only [brsA] at h) <;> conv => whnf) | (refine Or.inr (Or.inl ?_); (conv => whnf); refine ⟨_, _, h1, ?_⟩; conv => whnf) | ((first | refine wf ?_ | refine wp' ?_ | refine ai ?_ | refine And.intro rfl ?_ | refine an ?_ | fail); conv => whnf))
 repeat (first | exact fa | ((first | refine fb ?_ | (refine And.intro ?_ ?_; rotate_left)); conv => whnf))
set_option maxRecDepth 100000 in
set_option maxHeartbeats 1000000 in
theorem up_c (L : List It) (i : Nat) (hn : Nd L) (hi : i < L.length) (hl : L.length ≤ 1000000) :
  MCalls Try.prog G 186 [.ref 1 0, .int .i64 (i : Int)] (.ghost [.junk, .junk, .ref 1 0, .junk, .omap 3] :: hBs L) (.tup []) (.ghost [.junk, .junk, .ref 1 0, .junk, .omap 3] :: hBs (up L i)) := by
 refine MCalls.of_WA ttok Try.func186 rfl rfl _ rfl ?_
 conv => whnf
 repeat (first | refine sq ?_ | refine bk ?_ | ((first | refine rg ttok ?_ | refine dw ttok mixed ?_ | refine cd ?_ | refine sk ?_ | refine xt ?_ | refine rt ?_); conv => whnf))
 refine WA_loopI (ι := List It × Nat) (fun x => Nd x.1 ∧ x.2 < x.1.length ∧ x.1.length ≤ 1000000 ∧ up x.1 x.2 = up L i) (fun x => match x with | (L', i') => [(1, .int .i64 (i' : Int))]) (fun x => match x with | (L', i') => .ghost [.junk, .junk, .ref 1 0, .junk, .omap 3] :: hBs L') (fun x => x.2) (L, i) ⟨hn, hi, hl, rfl⟩ ?_ ?_
 ·conv => whnf
  repeat (first | exact fa | ((first | refine fb ?_ | (refine And.intro ?_ ?_; rotate_left)); conv => whnf))
 ·rintro ⟨M, j⟩ ⟨hm, hj, hml, he⟩
  have hm : Nd M := hm
  have hj : j < M.length := hj
  have hml : M.length ≤ 1000000 := hml
  have he : up M j = up L i := he
  have hp : 0 < (j : Int) → ((j : Int) - 1).tdiv 2 = (((j - 1) / 2 : Nat) : Int) := fun h => by
   rw [show (j : Int) - 1 = ((j - 1 : Nat) : Int) by omega]; rfl
  have hs : 0 < (j : Int) → MCalls Try.prog G 165 [.ref 1 0, .int .i64 (j : Int), .int .i64 (((j : Int) - 1).tdiv 2)] (.ghost [.junk, .junk, .junk, .ref 1 0, .junk, .omap 3] :: hBs M) (.tup [])
   (.ghost [.junk, .junk, .junk, .ref 1 0, .junk, .omap 3] :: hBs (sw M j ((j - 1) / 2))) := fun h => by rw [hp h]; exact swap_c M j _ hm hj (by omega) hml
  conv => whnf
  repeat' (first | refine sq ?_ | refine bk ?_ | ((first | refine rg ttok ?_ | refine dw ttok mixed ?_ | refine cd ?_ | refine sk ?_ | refine xt ?_ | refine rt ?_); conv => whnf) | (refine And.intro (fun h => ?_) (fun h => ?_) <;> (try simp only [brsA] at h) <;> conv => whnf) | (refine Or.inl ?_; (conv => whnf); refine ⟨_, less_c _ _, ?_⟩; conv => whnf) | (refine Or.inr (Or.inl ?_); (conv => whnf); refine ⟨_, _, hs (by omega), ?_⟩; conv => whnf) | ((first | refine wf ?_ | refine wp' ?_ | refine ai ?_ | refine And.intro rfl ?_ | refine an ?_ | fail); conv => whnf))
  ·rename_i h0
   rw [hp h0] at h
   have e : up M j = up (sw M j ((j - 1) / 2)) ((j - 1) / 2) := by
    conv => lhs; rw [up]
    rw [dif_pos ⟨by omega, h⟩]
   refine ⟨(sw M j ((j - 1) / 2), (j - 1) / 2), ⟨(nd_perm (sw_perm hj (by omega))).2 hm, (by show (j - 1) / 2 < (sw M j ((j - 1) / 2)).length; rw [sw_len]; omega), (by show (sw M j ((j - 1) / 2)).length ≤ 1000000; rw [sw_len]; exact hml), (by show up (sw M j ((j - 1) / 2)) ((j - 1) / 2) = up L i; rw [← e]; exact he)⟩, (by show (j - 1) / 2 < j; omega), ?_⟩
   conv => whnf
   repeat (first | exact fa | ((first | refine fb ?_ | (refine And.intro ?_ ?_; rotate_left)); conv => whnf))
   exact hp h0
  ·rename_i h0
   rw [hp h0] at h
   have e : up M j = M := by
    rw [up, dif_neg]
    rintro ⟨_, h2⟩
    rw [show lt (gt M j) (gt M ((j - 1) / 2)) = false from h] at h2; cases h2
   rw [← he, e]
   exact ⟨rfl, Or.inl fun _ _ => rfl, rfl, rfl, fun _ => rfl, fun _ _ => rfl⟩
  ·have e : up M j = M := by
    rw [up, dif_neg]
    rintro ⟨h1, _⟩; omega
   rw [← he, e]
   exact ⟨rfl, Or.inl fun _ _ => rfl, rfl, rfl, fun _ => rfl, fun _ _ => rfl⟩
end Go.Proofs.Ytfhdmhoeopbhnaa
namespace Go.Proofs.Ytfhdmhoeopbhnaa
open Go.Proofs.Ytfhdmhoeopbhnaa.Am Go.HeapL
variable [Inhabited DRT]
variable {G : GInv}
set_option maxRecDepth 100000 in
set_option maxHeartbeats 2000000 in
theorem down_c (L : List It) (i : Nat) (hn : Nd L) (hi : i < L.length ∨ (i = 0 ∧ L.length = 0)) (hl : L.length ≤ 1000000) :
  MCalls Try.prog G 166 [.ref 1 0, .int .i64 (i : Int)] (.ghost [.junk, .junk, .ref 1 0, .junk, .omap 3] :: hBs L) (.tup []) (.ghost [.junk, .junk, .ref 1 0, .junk, .omap 3] :: hBs (dn L i)) := by
 refine MCalls.of_WA ttok Try.func166 rfl rfl _ rfl ?_
 conv => whnf
 repeat (first | refine sq ?_ | refine bk ?_ | ((first | refine rg ttok ?_ | refine dw ttok mixed ?_ | refine cd ?_ | refine sk ?_ | refine xt ?_ | refine rt ?_); conv => whnf))
 refine WA_loopI (ι := List It × Nat) (fun x => Nd x.1 ∧ (x.2 < x.1.length ∨ (x.2 = 0 ∧ x.1.length = 0)) ∧ x.1.length ≤ 1000000 ∧ dn x.1 x.2 = dn L i) (fun x => match x with | (L', i') => [(1, .int .i64 (i' : Int))]) (fun x => match x with | (L', i') => .ghost [.junk, .junk, .ref 1 0, .junk, .omap 3] :: hBs L') (fun x => x.1.length - x.2) (L, i) ⟨hn, hi, hl, rfl⟩ ?_ ?_
 ·conv => whnf
  repeat (first | exact fa | ((first | refine fb ?_ | (refine And.intro ?_ ?_; rotate_left)); conv => whnf))
 ·rintro ⟨M, j⟩ ⟨hm, hj, hml, he⟩
  have hm : Nd M := hm
  have hj : j < M.length ∨ (j = 0 ∧ M.length = 0) := hj
  have hml : M.length ≤ 1000000 := hml
  have he : dn M j = dn L i := he
  conv => whnf
  repeat' (first | refine sq ?_ | refine bk ?_ | ((first | refine rg ttok ?_ | refine dw ttok mixed ?_ | refine cd ?_ | refine sk ?_ | refine xt ?_ | refine rt ?_); conv => whnf) | (refine And.intro (fun h => ?_) (fun h => ?_) <;> (try simp only [brsA] at h) <;> conv => whnf) | ((first | refine wf ?_ | refine wp' ?_ | refine ai ?_ | refine And.intro rfl ?_ | refine an ?_ | fail); conv => whnf))
  refine WA_loopI (ι := Nat × Nat) (fun x => (x.1 = 2 * j + 1 ∧ x.2 = j) ∨ (x.1 = 2 * j + 2 ∧ x.2 = c1 M j) ∨ (x.1 = 2 * j + 3 ∧ x.2 = ch M j)) (fun x => match x with | (k, a) => [(5, .int .i64 (k : Int)), (4, .int .i64 (a : Int))]) (fun _ => .ghost [.junk, .junk, .ref 1 0, .junk, .omap 3] :: hBs M) (fun x => 2 * j + 3 - x.1) (2 * j + 1, j) (.inl ⟨rfl, rfl⟩) ?_ ?_
  ·conv => whnf
   repeat (first | exact fa | ((first | refine fb ?_ | (refine And.intro ?_ ?_; rotate_left)); conv => whnf))
  ·rintro ⟨k, a⟩ hI
   have hI : (k = 2 * j + 1 ∧ a = j) ∨ (k = 2 * j + 2 ∧ a = c1 M j) ∨ (k = 2 * j + 3 ∧ a = ch M j) := hI
   have hlt : a = j ∨ (j < M.length ∧ j < a ∧ a < M.length) := by
    rcases hI with ⟨_, e⟩ | ⟨_, e⟩ | ⟨_, e⟩
    ·exact .inl e
    ·rcases c1_cases M j with ⟨e1, _⟩ | ⟨e1, h1, _⟩ <;> omega
    ·rcases ch_cases M j with e1 | ⟨e1, e2, _⟩ <;> omega
   have ha : (k : Int) < M.length → (a : Int) < M.length := fun h => by omega
   have hexit : ¬ ((k : Int) ≤ 2 * (j : Int) + 2) ∨ ¬ ((k : Int) < M.length) → a = ch M j := fun h => by
    unfold ch
    rcases hI with ⟨e, e2⟩ | ⟨e, e2⟩ | ⟨e, e2⟩
    ·rcases c1_cases M j with ⟨e1, _⟩ | ⟨e1, h1, _⟩
     ·rcases c2_cases M j (c1 M j) with ⟨f1, _⟩ | ⟨f1, h2, _⟩ <;> omega
     ·omega
    ·rcases c2_cases M j (c1 M j) with ⟨f1, _⟩ | ⟨f1, h2, _⟩ <;> omega
    ·exact e2
   have hs : ¬ (a : Int) = j → MCalls Try.prog G 165 [.ref 1 0, .int .i64 (j : Int), .int .i64 (a : Int)] (.ghost [.junk, .junk, .junk, .ref 1 0, .junk, .omap 3] :: hBs M) (.tup [])
    (.ghost [.junk, .junk, .junk, .ref 1 0, .junk, .omap 3] :: hBs (sw M j a)) := fun h => swap_c M j a hm (by omega) (by omega) hml
   have nxt : (k : Int) ≤ 2 * (j : Int) + 2 → (k : Int) < M.length → (lt (gt M k) (gt M a) = true → (k + 1 = 2 * j + 1 ∧ k = j) ∨ (k + 1 = 2 * j + 2 ∧ k = c1 M j) ∨ (k + 1 = 2 * j + 3 ∧ k = ch M j)) ∧ (lt (gt M k) (gt M a) = false → (k + 1 = 2 * j + 1 ∧ a = j) ∨ (k + 1 = 2 * j + 2 ∧ a = c1 M j) ∨ (k + 1 = 2 * j + 3 ∧ a = ch M j)) := fun h1 h2 => by
    rcases hI with ⟨e, e2⟩ | ⟨e, e2⟩ | ⟨e, e2⟩
    ·subst e; subst e2
     refine ⟨fun h => .inr (.inl ⟨rfl, ?_⟩), fun h => .inr (.inl ⟨rfl, ?_⟩)⟩
     ·unfold c1; rw [if_pos ⟨by omega, h⟩]
     ·unfold c1; rw [if_neg (fun hh => by rw [h] at hh; cases hh.2)]
    ·subst e; subst e2
     refine ⟨fun h => .inr (.inr ⟨rfl, ?_⟩), fun h => .inr (.inr ⟨rfl, ?_⟩)⟩
     ·unfold ch c2; rw [if_pos ⟨by omega, h⟩]
     ·unfold ch c2; rw [if_neg (fun hh => by rw [h] at hh; cases hh.2)]
    ·omega
   clear hI
   have stop : a = ch M j → (a : Int) = j → dn L i = M := fun h1 h2 => by
    rw [← he, dn, dif_pos (by omega)]
   have goon : a = ch M j → ¬ (a : Int) = j → (Nd (sw M j a) ∧ (a < (sw M j a).length ∨ (a = 0 ∧ (sw M j a).length = 0)) ∧ (sw M j a).length ≤ 1000000 ∧ dn (sw M j a) a = dn L i) ∧ (sw M j a).length - a < M.length - j := fun h1 h2 => by
    refine ⟨⟨(nd_perm (sw_perm (by omega) (by omega))).2 hm, .inl (by rw [sw_len]; omega), by rw [sw_len]; exact hml, ?_⟩, by rw [sw_len]; omega⟩
    rw [← he]
    conv => rhs; rw [dn]
    rw [dif_neg (by omega), ← h1]
   conv => whnf
   repeat' (first | refine sq ?_ | refine bk ?_ | ((first | refine rg ttok ?_ | refine dw ttok mixed ?_ | refine cd ?_ | refine sk ?_ | refine xt ?_ | refine rt ?_); conv => whnf) | (refine And.intro (fun h => ?_) (fun h => ?_) <;> (try simp only [brsA] at h) <;> conv => whnf) | (refine Or.inl ?_; (conv => whnf); refine ⟨_, less_c _ _, ?_⟩; conv => whnf) | (refine Or.inr (Or.inl ?_); (conv => whnf); refine ⟨_, _, hs (by assumption), ?_⟩; conv => whnf) | ((first | refine wf ?_ | refine wp' ?_ | refine ai ?_ | refine And.intro rfl ?_ | refine an ?_ | fail); conv => whnf))
   ·rename_i g1 g2
    refine ⟨(k + 1, k), (nxt g1 g2).1 h, (by show 2 * j + 3 - (k + 1) < 2 * j + 3 - k; omega), ?_⟩
    conv => whnf
    repeat (first | exact fa | ((first | refine fb ?_ | (refine And.intro ?_ ?_; rotate_left)); conv => whnf))
   ·rename_i g1 g2
    refine ⟨(k + 1, a), (nxt g1 g2).2 h, (by show 2 * j + 3 - (k + 1) < 2 * j + 3 - k; omega), ?_⟩
    conv => whnf
    repeat (first | exact fa | ((first | refine fb ?_ | (refine And.intro ?_ ?_; rotate_left)); conv => whnf))
   ·rename_i g1 g2
    rw [stop (hexit (.inr g2)) h]
    exact ⟨rfl, Or.inl fun _ _ => rfl, rfl, rfl, fun _ => rfl, fun _ _ => rfl⟩
   ·rename_i g1 g2
    obtain ⟨q1, q2⟩ := goon (hexit (.inr g2)) h
    refine ⟨(sw M j a, a), q1, q2, ?_⟩
    conv => whnf
    repeat (first | exact fa | ((first | refine fb ?_ | (refine And.intro ?_ ?_; rotate_left)); conv => whnf))
   ·rename_i g1
    rw [stop (hexit (.inl g1)) h]
    exact ⟨rfl, Or.inl fun _ _ => rfl, rfl, rfl, fun _ => rfl, fun _ _ => rfl⟩
   ·rename_i g1
    obtain ⟨q1, q2⟩ := goon (hexit (.inl g1)) h
    refine ⟨(sw M j a, a), q1, q2, ?_⟩
    conv => whnf
    repeat (first | exact fa | ((first | refine fb ?_ | (refine And.intro ?_ ?_; rotate_left)); conv => whnf))
end Go.Proofs.Ytfhdmhoeopbhnaa
namespace Go.Proofs.Ytfhdmhoeopbhnaa
open Go.Proofs.Ytfhdmhoeopbhnaa.Am Go.HeapL
variable [Inhabited DRT]
variable {G : GInv}
abbrev gh2 : Blk := .ghost [.junk, .junk, .ref 1 0, .junk, .omap 3]
theorem up_fit (M : List It) (i n : Nat) (r : Nat → List A) (H : List KC → Bool) (V : List KC → A) (hm : Nd M) (hi : i < M.length) (hl : M.length ≤ 1000000) (hn : n = M.length) (hr : ∀ j, j < n → r j = itR M j) (hH : ∀ key, H key = atH M key) (hV : ∀ key, H key = true → V key = atV M key) :
  MCalls Try.prog G 186 [.ref 1 0, .int .i64 (i : Int)] [gh2, .box 213 [.own 2, .omap 3], .row 92 2 n r, .mapb false [.int .i64] H V] (.tup []) (gh2 :: hBs (up M i)) := by
 refine MCalls.fit (up_c M i hm hi hl) rfl ?_
 conv => whnf
 repeat (first | exact fa | ((first | refine fb ?_ | (refine And.intro ?_ ?_; rotate_left)); conv => whnf))
 ·exact hV
 ·exact hn
 ·exact Or.inl hr
 ·exact hH
set_option maxRecDepth 100000 in
set_option maxHeartbeats 2000000 in
theorem set_old (L : List It) (x : It) (hn : Nd L) (hh : hasL L x.2 = true) (hl : L.length ≤ 1000000) :
  MCalls Try.prog G 163 [.ref 1 0, .agg [.int .i64 x.1, .int .i64 x.2]] (gh2 :: hBs L) .junk (gh2 :: hBs (hset L x)) := by
 have hi := ix_lt hh
 have ha := ix_at hh
 have hn' := set_nd hn hi (x := x) ha
 have hlen : (L.set (ix L x.2) x).length = L.length := by simp
 have hup := up_fit (G := G) (L.set (ix L x.2) x) (ix L x.2) L.length (updRow (itR L) ((ix L x.2 : Nat) : Int).toNat [.int .i64 x.1, .int .i64 x.2]) (atH L) (atV L) hn' (by omega) (by omega) hlen.symm (fun j _ => row_set hi j) (fun key => set_has hi ha key) (fun key h => set_val hn hi ha key h)
 have hul : (up (L.set (ix L x.2) x) (ix L x.2)).length = L.length := by rw [up_len (by omega)]; exact hlen
 have hpm := up_perm (ix L x.2) (L.set (ix L x.2) x) (by omega)
 have hxu : hasL (up (L.set (ix L x.2) x) (ix L x.2)) x.2 = true := by
  rw [has_perm hpm]
  have := has_at (L := L.set (ix L x.2) x) (i := ix L x.2) (by omega)
  rw [gt_set hi, if_pos rfl] at this; exact this
 have hdn := down_c (G := G) (up (L.set (ix L x.2) x) (ix L x.2)) (ix (up (L.set (ix L x.2) x) (ix L x.2)) x.2) ((nd_perm hpm).2 hn') (.inl (ix_lt hxu)) (by omega)
 by_cases hk : (gt L (ix L x.2)).1 = x.1
 ·have e : hset L x = L := by unfold hset; rw [if_pos hh, if_pos hk]
  rw [e]
  refine MCalls.of_WA ttok Try.func163 rfl rfl _ rfl ?_
  conv => whnf
  repeat' (first | (exact absurd hh (by rw [show hasL L x.2 = false from h]; exact Bool.noConfusion)) | (exact absurd hk h) | refine sq ?_ | refine bk ?_ | ((first | refine rg ttok ?_ | refine dw ttok mixed ?_ | refine cd ?_ | refine sk ?_ | refine xt ?_ | refine rt ?_); conv => whnf) | (refine And.intro (fun h => ?_) (fun h => ?_) <;> (try simp only [brsA] at h) <;> conv => whnf) | ((first | refine wf ?_ | refine wp' ?_ | refine ai ?_ | refine And.intro rfl ?_ | refine an ?_ | fail); conv => whnf))
  repeat (first | exact fa | ((first | refine fb ?_ | (refine And.intro ?_ ?_; rotate_left)); conv => whnf))
 ·have e : hset L x = dn (up (L.set (ix L x.2) x) (ix L x.2)) (ix (up (L.set (ix L x.2) x) (ix L x.2)) x.2) := by unfold hset; rw [if_pos hh, if_neg hk]
  rw [e]
  refine MCalls.of_WA ttok Try.func163 rfl rfl _ rfl ?_
  conv => whnf
  repeat' (first | (exact absurd hh (by rw [show hasL L x.2 = false from h]; exact Bool.noConfusion)) | (exact absurd h hk) | ((exact absurd hxu (by rw [show hasL (up (L.set (ix L x.2) x) (ix L x.2)) x.2 = false from h]; exact Bool.noConfusion))) | ((refine WA_drawB (id := 12) 8 [] ttok mixed rfl (by kernel_rfl) ?_; conv => whnf)) | refine sq ?_ | refine bk ?_ | ((first | refine rg ttok ?_ | refine dw ttok mixed ?_ | refine cd ?_ | refine sk ?_ | refine xt ?_ | refine rt ?_); conv => whnf) | (refine And.intro (fun h => ?_) (fun h => ?_) <;> (try simp only [brsA] at h) <;> conv => whnf) | (refine Or.inr (Or.inl ?_); (conv => whnf); (first | refine ⟨_, _, hup, ?_⟩ | refine ⟨_, _, hdn, ?_⟩); conv => whnf) | ((first | refine wf ?_ | refine wp' ?_ | refine ai ?_ | refine And.intro rfl ?_ | refine an ?_ | fail); conv => whnf))
  repeat (first | exact fa | ((first | refine fb ?_ | (refine And.intro ?_ ?_; rotate_left)); conv => whnf))
end Go.Proofs.Ytfhdmhoeopbhnaa
namespace Go.Proofs.Ytfhdmhoeopbhnaa
open Go.Proofs.Ytfhdmhoeopbhnaa.Am Go.HeapL
variable [Inhabited DRT]
variable {G : GInv}
theorem rowCat_at (n : Nat) (r1 r2 : Nat → List A) : rowCat n r1 r2 ((n : Int)).toNat = r2 0 := by
 unfold rowCat
 rw [show ((n : Int)).toNat = n from rfl]
 split
 ·rename_i h
  have h : n < n := Nat.le_of_ble_eq_true h
  omega
 ·rw [Nat.sub_self]
theorem row_push (L : List It) (x : It) (r2 : Nat → List A) (j : Nat) (h : j < L.length + 1) : updRow (rowCat L.length (itR L) r2) ((L.length : Nat) : Int).toNat [.int .i64 x.1, .int .i64 x.2] j = itR (L ++ [x]) j := by
 unfold updRow
 split
 ·rename_i e
  have e : j = L.length := e
  subst e
  show _ = [A.int .i64 ((L ++ [x]).getD L.length (0, 0)).1, A.int .i64 ((L ++ [x]).getD L.length (0, 0)).2]
  rw [List.getD_eq_getElem?_getD, List.getElem?_append_right (Nat.le_refl _)]
  simp
 ·rename_i e
  have e : j ≠ L.length := e
  unfold rowCat
  have hj : Nat.blt j L.length = true := Nat.ble_eq_true_of_le (by show j + 1 ≤ L.length; omega)
  rw [hj]
  show [A.int .i64 (L.getD j (0, 0)).1, A.int .i64 (L.getD j (0, 0)).2] = [A.int .i64 ((L ++ [x]).getD j (0, 0)).1, A.int .i64 ((L ++ [x]).getD j (0, 0)).2]
  simp only [List.getD_eq_getElem?_getD, List.getElem?_append_left (show j < L.length by omega)]
theorem push_nd {L : List It} {x : It} (hn : Nd L) (hx : hasL L x.2 = false) : Nd (L ++ [x]) := by
 unfold Nd at *
 rw [List.map_append, List.nodup_append]
 refine ⟨hn, by simp, ?_⟩
 intro a ha b hb
 simp only [List.map_cons, List.map_nil, List.mem_singleton] at hb
 subst hb
 obtain ⟨⟨k, u⟩, hm, e⟩ := List.mem_map.1 ha
 intro e'
 simp only at e; subst e; subst e'
 rw [hasL_iff.2 ⟨k, hm⟩] at hx; cases hx
set_option maxRecDepth 100000 in
set_option maxHeartbeats 2000000 in
theorem set_new (L : List It) (x : It) (hn : Nd L) (hh : hasL L x.2 = false) (hl : L.length ≤ 100000) :
  MCalls Try.prog G 163 [.ref 1 0, .agg [.int .i64 x.1, .int .i64 x.2]] (gh2 :: hBs L) .junk (gh2 :: hBs (hset L x)) := by
 have hn' := push_nd (x := x) hn hh
 have hlen : (L ++ [x]).length = L.length + 1 := by simp
 have hup := up_fit (G := G) (L ++ [x]) L.length (L.length + 1) (updRow (rowCat L.length (itR L) (fun i => takeL 2 (List.drop (i * 2) [.int .i64 x.1, .int .i64 x.2]))) ((L.length : Nat) : Int).toNat [.int .i64 x.1, .int .i64 x.2])
  (putH (atH L) [.int x.2] true) (putV (atV L) [.int x.2] (.int .i64 (L.length : Int))) hn' (by omega) (by omega) hlen.symm (fun j h => row_push L x _ j h) (fun key => push_has key) (fun key h => push_val hn hh key h)
 have hul : (up (L ++ [x]) L.length).length = L.length + 1 := by rw [up_len (by omega)]; exact hlen
 have hpm := up_perm L.length (L ++ [x]) (by omega)
 have hxu : hasL (up (L ++ [x]) L.length) x.2 = true := by
  rw [has_perm hpm]; exact hasL_iff.2 ⟨x.1, by simp⟩
 have hdn := down_c (G := G) (up (L ++ [x]) L.length) (ix (up (L ++ [x]) L.length) x.2) ((nd_perm hpm).2 hn') (.inl (ix_lt hxu)) (by omega)
 have e : hset L x = dn (up (L ++ [x]) L.length) (ix (up (L ++ [x]) L.length) x.2) := by unfold hset; rw [if_neg (by rw [hh]; exact Bool.noConfusion)]
 rw [e]
 refine MCalls.of_WA ttok Try.func163 rfl rfl _ rfl ?_
 conv => whnf
 repeat' (first | (exact absurd (show hasL L x.2 = true from h) (by rw [hh]; exact Bool.noConfusion)) | ((exact absurd hxu (by rw [show hasL (up (L ++ [x]) L.length) x.2 = false from h]; exact Bool.noConfusion))) | ((rw [rowCat_at]; conv => whnf)) | ((refine WA_renR (id := 13) 7 [0, 1, 6, 3] rfl rfl ?_; conv => whnf)) | ((refine WA_drawB (id := 12) 8 [] ttok mixed rfl (by kernel_rfl) ?_; conv => whnf)) | refine sq ?_ | refine bk ?_ | ((first | refine rg ttok ?_ | refine dw ttok mixed ?_ | refine cd ?_ | refine sk ?_ | refine xt ?_ | refine rt ?_); conv => whnf) | (refine And.intro (fun h => ?_) (fun h => ?_) <;> (try simp only [brsA] at h) <;> conv => whnf) | (refine Or.inr (Or.inl ?_); (conv => whnf); (first | refine ⟨_, _, hup, ?_⟩ | refine ⟨_, _, hdn, ?_⟩); conv => whnf) | ((first | refine wf ?_ | refine wp' ?_ | refine ai ?_ | refine And.intro rfl ?_ | refine an ?_ | fail); conv => whnf))
 exact ⟨Or.inl fun _ _ => rfl, rfl, rfl, fun _ => rfl, fun _ _ => rfl⟩
theorem down_fit (M : List It) (i n : Nat) (r : Nat → List A) (H : List KC → Bool) (V : List KC → A) (hm : Nd M) (hi : i < M.length ∨ (i = 0 ∧ M.length = 0)) (hl : M.length ≤ 1000000) (hn : n = M.length) (hr : ∀ j, j < n → r j = itR M j) (hH : ∀ key, H key = atH M key) (hV : ∀ key, H key = true → V key = atV M key) :
  MCalls Try.prog G 166 [.ref 1 0, .int .i64 (i : Int)] [gh2, .box 213 [.own 2, .omap 3], .row 92 2 n r, .mapb false [.int .i64] H V] (.tup []) (gh2 :: hBs (dn M i)) := by
 refine MCalls.fit (down_c M i hm hi hl) rfl ?_
 conv => whnf
 repeat (first | exact fa | ((first | refine fb ?_ | (refine And.intro ?_ ?_; rotate_left)); conv => whnf))
 ·exact hV
 ·exact hn
 ·exact Or.inl hr
 ·exact hH
abbrev gh1 : Blk := .ghost [.junk, .ref 1 0, .junk, .omap 3]
set_option maxRecDepth 100000 in
set_option maxHeartbeats 2000000 in
theorem pop_c (L : List It) (hn : Nd L) (h0 : 0 < L.length) (hl : L.length ≤ 1000000) :
  MCalls Try.prog G 136 [.ref 1 0] (gh1 :: hBs L) (.tup [.agg [.int .i64 (gt L 0).1, .int .i64 (gt L 0).2], .bool true]) (gh1 :: hBs (hpop L)) := by
 have h1 := least_yes (G := G) L h0 hl
 have h2 : MCalls Try.prog G 165 [.ref 1 0, .int .i64 0, .int .i64 ((L.length : Int) - 1)] (.ghost [.junk, .junk, .junk, .ref 1 0, .junk, .omap 3] :: hBs L) (.tup []) (.ghost [.junk, .junk, .junk, .ref 1 0, .junk, .omap 3] :: hBs (sw L 0 (L.length - 1))) := by
  have := swap_c (G := G) L 0 (L.length - 1) hn h0 (by omega) hl
  rw [show ((L.length - 1 : Nat) : Int) = (L.length : Int) - 1 by omega] at this
  exact this
 have hsn : Nd (sw L 0 (L.length - 1)) := (nd_perm (sw_perm h0 (by omega))).2 hn
 have hsl := sw_len L 0 (L.length - 1)
 have hlast : (sw L 0 (L.length - 1)).getD ((sw L 0 (L.length - 1)).length - 1) (0, 0) = gt L 0 := by
  have := gt_sw (L := L) (i := 0) (k := L.length - 1) (j := L.length - 1) h0 (by omega)
  rw [if_pos rfl] at this
  rw [hsl]; exact this
 have hdl : (sw L 0 (L.length - 1)).dropLast.length = L.length - 1 := by rw [List.length_dropLast, hsl]
 have hdp := drop_perm (L := sw L 0 (L.length - 1)) (by omega)
 have hdn' : Nd (sw L 0 (L.length - 1)).dropLast := by
  have := (nd_perm hdp).2 hsn
  unfold Nd at *; rw [List.map_cons, List.nodup_cons] at this; exact this.2
 have h3 := down_fit (G := G) (sw L 0 (L.length - 1)).dropLast 0 (((sw L 0 (L.length - 1)).length : Int) - 1).toNat (itR (sw L 0 (L.length - 1))) (putH (atH (sw L 0 (L.length - 1))) [.int (gt L 0).2] false) (atV (sw L 0 (L.length - 1))) hdn' (by omega) (by omega) (by omega)
  (fun j hj => by
   have := gt_drop (L := sw L 0 (L.length - 1)) (j := j) (by omega)
   unfold gt at this
   unfold itR; rw [this]) (fun key => by
   have := del_has (L := sw L 0 (L.length - 1)) (by omega) hsn key
   rw [hlast] at this; exact this) (fun key hk => by
   have := del_val (L := sw L 0 (L.length - 1)) (by omega) hsn key
   rw [hlast] at this; exact this hk)
 have h4 : MCalls Try.prog G 166 [.ref 1 0, .int .i64 0] _ _ _ := h3
 have e : hpop L = dn (sw L 0 (L.length - 1)).dropLast 0 := rfl
 rw [e]
 refine MCalls.of_WA ttok Try.func136 rfl rfl _ rfl ?_
 conv => whnf
 repeat' (first | (refine WA_drawR (id := 5) [(11,1)] ttok mixed ?_; conv => whnf) | ((refine WA_renR (id := 8) 7 [0, 1, 6, 3, 4, 5] rfl rfl ?_; conv => whnf)) | refine sq ?_ | refine bk ?_ | ((first | refine rg ttok ?_ | refine dw ttok mixed ?_ | refine cd ?_ | refine sk ?_ | refine xt ?_ | refine rt ?_); conv => whnf) | (refine And.intro (fun h => ?_) (fun h => ?_) <;> (try simp only [brsA] at h) <;> conv => whnf) | (refine Or.inr (Or.inl ?_); (conv => whnf); (first | refine ⟨_, _, h1, ?_⟩ | refine ⟨_, _, h2, ?_⟩ | refine ⟨_, _, h4, ?_⟩); conv => whnf) | ((first | refine wf ?_ | refine wp' ?_ | refine ai ?_ | refine And.intro rfl ?_ | refine an ?_ | fail); conv => whnf))
 repeat (first | exact fa | ((first | refine fb ?_ | (refine And.intro ?_ ?_; rotate_left)); conv => whnf))
set_option maxRecDepth 100000 in
theorem new_c : MCalls Try.prog G 133 [] [] (.ref 0 0) [.box 213 [.own 1, .omap 2], .row 92 2 0 (itR []), atB []] := by
 refine MCalls.of_WA ttok Try.func133 rfl rfl _ rfl ?_
 conv => whnf
 repeat' (first | ((refine WA_nilB (code := .ret) 1 0 92 2 rfl rfl ?_; conv => whnf)) | refine sq ?_ | refine bk ?_ | ((first | refine rg ttok ?_ | refine dw ttok mixed ?_ | refine cd ?_ | refine sk ?_ | refine xt ?_ | refine rt ?_); conv => whnf) | (refine And.intro (fun h => ?_) (fun h => ?_) <;> (try simp only [brsA] at h) <;> conv => whnf) | ((first | refine wf ?_ | refine wp' ?_ | refine ai ?_ | refine And.intro rfl ?_ | refine an ?_ | fail); conv => whnf))
 exact ⟨Or.inl fun i hi => absurd hi (Nat.not_lt_zero _), rfl, rfl, fun key => by unfold atH; split <;> rfl, fun key h => by cases h⟩
end Go.Proofs.Ytfhdmhoeopbhnaa
namespace Go.Proofs.Ytfhdmhoeopbhnaa
open Go.Proofs.Ytfhdmhoeopbhnaa.Am Go.HeapL
variable [Inhabited DRT]
variable {G : GInv}
/-! ### One side's walks -/
def cH (S : Sd) : List KC → Bool
 | [.int v] => (S.c v).isSome
 | _ => false
def cV (S : Sd) : List KC → A
 | [.int v] => .int .i64 ((S.c v).getD 0)
 | _ => .junk
def fV (S : Sd) : List KC → A
 | [.int v] => .int .i64 (S.f v)
 | _ => .junk
abbrev cB (S : Sd) : Blk := .mapb false [.int .i64] (cH S) (cV S)
abbrev fB (S : Sd) : Blk := .mapb false [.int .i64] (cH S) (fV S)
abbrev tabA (N : Nat) (lk : Int → List It) : A := .sl N 1 fun v => [.sl (lk v).length 2 (itR (lk v))]
abbrev sBs (S : Sd) (N : Nat) (lk ok : Int → List It) (q : Bool) : List Blk := [.box 120 [.ref 2 0, .omap 5, .omap 6, tabA N lk, tabA N ok, .int .i64 S.t, .bool q], .box 213 [.own 3, .omap 4], .row 92 2 S.L.length (itR S.L), atB S.L, cB S, fB S]
abbrev gs4 : Blk := .ghost [.junk, .junk, .junk, .junk, .ref 1 0, .ref 2 0, .junk, .omap 4, .omap 5, .omap 6]
theorem set_c (L : List It) (x : It) (hn : Nd L) (hl : L.length ≤ 100000) :
  MCalls Try.prog G 163 [.ref 1 0, .agg [.int .i64 x.1, .int .i64 x.2]] (gh2 :: hBs L) .junk (gh2 :: hBs (hset L x)) := by
 cases h : hasL L x.2 with
 | true => exact set_old L x hn h (by omega)
 | false => exact set_new L x hn h hl
theorem put_cH (S : Sd) (v u cost : Int) (key : List KC) : putH (cH S) [.int v] true key = cH (upd S v u cost) key := by
 unfold putH
 split
 ·rename_i e; subst e
  show true = (if v = v then some cost else S.c v).isSome
  rw [if_pos rfl]; rfl
 ·rename_i hne
  unfold cH
  split
  ·rename_i x
   have : x ≠ v := fun e => hne (by rw [e])
   show (S.c x).isSome = (if x = v then some cost else S.c x).isSome
   rw [if_neg this]
  ·rfl
theorem put_cV (S : Sd) (v u cost : Int) (key : List KC) : putV (cV S) [.int v] (.int .i64 cost) key = cV (upd S v u cost) key := by
 unfold putV
 split
 ·rename_i e; subst e
  show A.int .i64 cost = A.int .i64 ((if v = v then some cost else S.c v).getD 0)
  rw [if_pos rfl]; rfl
 ·rename_i hne
  unfold cV
  split
  ·rename_i x
   have : x ≠ v := fun e => hne (by rw [e])
   show A.int .i64 ((S.c x).getD 0) = A.int .i64 ((if x = v then some cost else S.c x).getD 0)
   rw [if_neg this]
  ·rfl
theorem put_fV (S : Sd) (v u cost : Int) (key : List KC) : putV (fV S) [.int v] (.int .i64 u) key = fV (upd S v u cost) key := by
 unfold putV
 split
 ·rename_i e; subst e
  show A.int .i64 u = A.int .i64 (if v = v then u else S.f v)
  rw [if_pos rfl]
 ·rename_i hne
  unfold fV
  split
  ·rename_i x
   have : x ≠ v := fun e => hne (by rw [e])
   show A.int .i64 (S.f x) = A.int .i64 (if x = v then u else S.f x)
   rw [if_neg this]
  ·rfl
theorem kp_true {S : Sd} {v cost : Int} (h : NC ≤ cost ∨ ((S.c v).isSome = true ∧ (S.c v).getD 0 ≤ cost)) : kp S v cost = true := by
 unfold kp
 rw [Bool.or_eq_true, decide_eq_true_eq]
 rcases h with h | ⟨h1, h2⟩
 ·exact .inl h
 ·cases e : S.c v with
  | none => rw [e] at h1; cases h1
  | some k => rw [e] at h2; exact .inr (decide_eq_true h2)
theorem kp_false {S : Sd} {v cost : Int} (h : ¬ NC ≤ cost) (h' : (S.c v).isSome = true → ¬ (S.c v).getD 0 ≤ cost) : kp S v cost = false := by
 unfold kp
 rw [Bool.or_eq_false_iff, decide_eq_false_iff_not]
 refine ⟨h, ?_⟩
 cases e : S.c v with
 | none => rfl
 | some k => rw [e] at h'; exact decide_eq_false (h' rfl)
set_option maxRecDepth 100000 in
set_option maxHeartbeats 2000000 in
theorem reach_c (S : Sd) (N : Nat) (lk ok : Int → List It) (q : Bool) (v u cost : Int) (hn : Nd S.L) (hl : S.L.length ≤ 100000) :
  MCalls Try.prog G 134 [.ref 1 0, .int .i64 v, .int .i64 u, .int .i64 cost] (gs4 :: sBs S N lk ok q) (.tup []) (gs4 :: sBs (rch S v u cost) N lk ok q) := by
 have h1 : MCalls Try.prog G 163 [.ref 1 0, .agg [.int .i64 cost, .int .i64 v]] (gh2 :: hBs S.L) .junk (gh2 :: hBs (hset S.L (cost, v))) := set_c (G := G) S.L (cost, v) hn hl
 cases hkp : kp S v cost with
 | true =>
  have e : rch S v u cost = S := by unfold rch; rw [hkp]
  rw [e]
  refine MCalls.of_WA ttok Try.func134 rfl rfl _ rfl ?_
  conv => whnf
  repeat' (first | refine sq ?_ | refine bk ?_ | ((first | refine rg ttok ?_ | refine dw ttok mixed ?_ | refine cd ?_ | refine sk ?_ | refine xt ?_ | refine rt ?_); conv => whnf) | (refine And.intro (fun h => ?_) (fun h => ?_) <;> (try simp only [brsA] at h) <;> conv => whnf) | ((first | refine wf ?_ | refine wp' ?_ | refine ai ?_ | refine And.intro rfl ?_ | refine an ?_ | fail); conv => whnf))
  ·repeat (first | exact fa | ((first | refine fb ?_ | (refine And.intro ?_ ?_; rotate_left)); conv => whnf))
  ·exact absurd hkp (by rw [kp_false (by unfold NC; omega) (fun _ => by omega)]; exact Bool.noConfusion)
  ·repeat (first | exact fa | ((first | refine fb ?_ | (refine And.intro ?_ ?_; rotate_left)); conv => whnf))
  ·exact absurd hkp (by rw [kp_false (by unfold NC; omega) (fun h' => absurd h' (by rw [show (S.c v).isSome = false by assumption]; exact Bool.noConfusion))]; exact Bool.noConfusion)
  ·repeat (first | exact fa | ((first | refine fb ?_ | (refine And.intro ?_ ?_; rotate_left)); conv => whnf))
 | false =>
  have e : rch S v u cost = upd S v u cost := by unfold rch; rw [hkp]
  rw [e]
  refine MCalls.of_WA ttok Try.func134 rfl rfl _ rfl ?_
  conv => whnf
  repeat' (first | ((refine WA_trkR (id := 2) 5 ?_; (conv => whnf); refine WA_trkR (id := 2) 6 ?_; (conv => whnf); refine dw ttok mixed ?_; conv => whnf)) | refine sq ?_ | refine bk ?_ | ((first | refine rg ttok ?_ | refine dw ttok mixed ?_ | refine cd ?_ | refine sk ?_ | refine xt ?_ | refine rt ?_); conv => whnf) | (refine And.intro (fun h => ?_) (fun h => ?_) <;> (try simp only [brsA] at h) <;> conv => whnf) | (refine Or.inr (Or.inl ?_); (conv => whnf); refine ⟨_, _, h1, ?_⟩; conv => whnf) | ((first | refine wf ?_ | refine wp' ?_ | refine ai ?_ | refine And.intro rfl ?_ | refine an ?_ | fail); conv => whnf))
  ·exact absurd hkp (by rw [kp_true (.inr ⟨by assumption, h⟩)]; exact Bool.noConfusion)
  ·repeat (first | exact fa | ((first | refine fb ?_ | (refine And.intro ?_ ?_; rotate_left)); conv => whnf))
   all_goals first
    | exact fun key => put_cH S v u cost key
    | exact fun key _ => by simp only [putV_putV]; exact put_cV S v u cost key
    | exact fun key _ => by simp only [putV_putV]; exact put_fV S v u cost key
  ·exact absurd hkp (by rw [kp_true (.inl (by unfold NC; omega))]; exact Bool.noConfusion)
  ·repeat (first | exact fa | ((first | refine fb ?_ | (refine And.intro ?_ ?_; rotate_left)); conv => whnf))
   all_goals first
    | exact fun key => put_cH S v u cost key
    | exact fun key _ => by simp only [putV_putV]; exact put_cV S v u cost key
    | exact fun key _ => by simp only [putV_putV]; exact put_fV S v u cost key
  ·exact absurd hkp (by rw [kp_true (.inl (by unfold NC; omega))]; exact Bool.noConfusion)
end Go.Proofs.Ytfhdmhoeopbhnaa
namespace Go.Proofs.Ytfhdmhoeopbhnaa
open Go.Proofs.Ytfhdmhoeopbhnaa.Am Go.HeapL
variable [Inhabited DRT]
variable {G : GInv}
abbrev bLs (S : Sd) (N : Nat) (lk ok : Int → List It) (q : Bool) : List Blk := [.box 213 [.own 1, .omap 2], .row 92 2 S.L.length (itR S.L), atB S.L, cB S, fB S, .box 120 [.ref 0 0, .omap 3, .omap 4, tabA N lk, tabA N ok, .int .i64 S.t, .bool q]]
abbrev bBs (S : Sd) (N : Nat) (lk ok : Int → List It) (q : Bool) : List Blk := [.box 120 [.ref 1 0, .omap 4, .omap 5, tabA N lk, tabA N ok, .int .i64 S.t, .bool q], .box 213 [.own 2, .omap 3], .row 92 2 S.L.length (itR S.L), atB S.L, cB S, fB S]
theorem begL_step (l : List It) (i : Nat) (hi : i < l.length) : begL (l.take (i + 1)) Sd0 = rch (begL (l.take i) Sd0) (l.getD i (0, 0)).2 (-1) (l.getD i (0, 0)).1 := by
 unfold begL
 rw [List.take_add_one, List.foldl_append, List.getElem?_eq_getElem hi]
 simp [List.getD_eq_getElem?_getD, hi]
set_option maxRecDepth 100000 in
set_option maxHeartbeats 2000000 in
theorem begin_c (l : List It) (N : Nat) (lk ok : Int → List It) (hl : l.length ≤ 1000) (hk : ∀ i, i ≤ l.length → Nd (begL (l.take i) Sd0).L ∧ (begL (l.take i) Sd0).L.length ≤ 100000) :
  MCalls Try.prog G 101 [.sl l.length 2 (itR l), tabA N lk, tabA N ok] [] (.ref 0 0) (bBs (begL l Sd0) N lk ok false) := by
 have h0 := new_c (G := G)
 refine MCalls.of_WA ttok Try.func101 rfl rfl _ rfl ?_
 conv => whnf
 repeat' (first | refine sq ?_ | refine bk ?_ | ((first | refine rg ttok ?_ | refine dw ttok mixed ?_ | refine cd ?_ | refine sk ?_ | refine xt ?_ | refine rt ?_); conv => whnf) | (refine And.intro (fun h => ?_) (fun h => ?_) <;> (try simp only [brsA] at h) <;> conv => whnf) | ((first | refine Or.inr (Or.inr (Or.inr ?_)) | refine Or.inr ?_); (conv => whnf); refine ⟨_, _, h0, ?_⟩; conv => whnf) | ((first | refine wf ?_ | refine wp' ?_ | refine ai ?_ | refine And.intro rfl ?_ | refine an ?_ | fail); conv => whnf))
 refine WA_loopI (fun i => i ≤ l.length) (fun i => [(19, .int .i64 (i : Int))]) (fun i => bLs (begL (l.take i) Sd0) N lk ok false) (fun i => l.length - i) 0 (by omega) ?_ ?_
 ·conv => whnf
  repeat (first | exact fa | ((first | refine fb ?_ | (refine And.intro ?_ ?_; rotate_left)); conv => whnf))
  all_goals first
   | (intro key h; cases h; done)
   | (intro key; unfold cH; split <;> rfl)
 ·intro i hi
  have h1 : i < l.length → MCalls Try.prog G 134 [.ref 1 0, .int .i64 (l.getD i (0, 0)).2, .int .i64 (-1), .int .i64 (l.getD i (0, 0)).1] (gs4 :: sBs (begL (l.take i) Sd0) N lk ok false) (.tup []) (gs4 :: sBs (begL (l.take (i + 1)) Sd0) N lk ok false) := fun h => by
   rw [begL_step l i h]
   exact reach_c _ N lk ok false _ _ _ (hk i hi).1 (hk i hi).2
  conv => whnf
  repeat' (first | refine sq ?_ | refine bk ?_ | ((first | refine rg ttok ?_ | refine dw ttok mixed ?_ | refine cd ?_ | refine sk ?_ | refine xt ?_ | refine rt ?_); conv => whnf) | (refine And.intro (fun h => ?_) (fun h => ?_) <;> (try simp only [brsA] at h) <;> conv => whnf) | (refine Or.inr (Or.inl ?_); (conv => whnf); refine ⟨_, _, (h1 (by omega)), ?_⟩; conv => whnf) | ((first | refine wf ?_ | refine wp' ?_ | refine ai ?_ | refine And.intro rfl ?_ | refine an ?_ | fail); conv => whnf))
  ·refine ⟨i + 1, (by show i + 1 ≤ l.length; omega), (by show l.length - (i + 1) < l.length - i; omega), ?_⟩
   conv => whnf
   repeat (first | exact fa | ((first | refine fb ?_ | (refine And.intro ?_ ?_; rotate_left)); conv => whnf))
  ·have e : i = l.length := by omega
   subst e
   rw [List.take_length]
   repeat (first | exact fa | ((first | refine fb ?_ | (refine And.intro ?_ ?_; rotate_left)); conv => whnf))
end Go.Proofs.Ytfhdmhoeopbhnaa
namespace Go.Proofs.Ytfhdmhoeopbhnaa
open Go.Proofs.Ytfhdmhoeopbhnaa.Am Go.HeapL
variable [Inhabited DRT]
variable {G : GInv}
def fidx (p : It → Bool) (l : List It) : Int := match l.findIdx? p with
 | some i => (i : Int)
 | none => -1
theorem fidx_at {p : It → Bool} {l : List It} {i : Nat} (h : i < l.length) (hp : p (l.getD i (0, 0)) = true) (hn : ∀ j, j < i → p (l.getD j (0, 0)) = false) : fidx p l = i := by
 have : l.findIdx? p = some i := by
  rw [List.findIdx?_eq_some_iff_getElem]
  refine ⟨h, by simpa [List.getD_eq_getElem?_getD, h] using hp, fun j hj => ?_⟩
  have := hn j hj
  rw [List.getD_eq_getElem?_getD, List.getElem?_eq_getElem (by omega)] at this
  simpa using this
 unfold fidx; rw [this]
theorem fidx_none {p : It → Bool} {l : List It} (hn : ∀ j, j < l.length → p (l.getD j (0, 0)) = false) : fidx p l = -1 := by
 have : l.findIdx? p = none := by
  rw [List.findIdx?_eq_none_iff]
  intro x hx
  obtain ⟨j, hj, rfl⟩ := List.getElem_of_mem hx
  have := hn j hj
  rw [List.getD_eq_getElem?_getD, List.getElem?_eq_getElem hj] at this
  exact this
 unfold fidx; rw [this]
theorem fidx_any (p : It → Bool) (l : List It) : decide (0 ≤ fidx p l) = l.any p := by
 unfold fidx
 cases h : l.findIdx? p with
 | none =>
  rw [List.findIdx?_eq_none_iff] at h
  have : l.any p = false := by rw [List.any_eq_false]; exact fun x hx => by rw [h x hx]; exact Bool.noConfusion
  rw [this]; rfl
 | some i =>
  rw [List.findIdx?_eq_some_iff_getElem] at h
  obtain ⟨hi, hp, _⟩ := h
  have : l.any p = true := List.any_eq_true.2 ⟨_, List.getElem_mem hi, hp⟩
  rw [this]; exact decide_eq_true (by show (0 : Int) ≤ (i : Int); omega)
def pS (S : Sd) (x a : It) : Bool := match S.c a.2 with
 | some k => decide (k + a.1 < x.1)
 | none => false
theorem pS_has {S : Sd} {x a : It} (h : (S.c a.2).isSome = true) : pS S x a = decide ((S.c a.2).getD 0 + a.1 < x.1) := by
 unfold pS
 cases e : S.c a.2 with
 | none => rw [e] at h; cases h
 | some k => rfl
theorem pS_no {S : Sd} {x a : It} (h : (S.c a.2).isSome = false) : pS S x a = false := by
 unfold pS
 cases e : S.c a.2 with
 | none => rfl
 | some k => rw [e] at h; cases h
theorem stl_any (S : Sd) (l : List It) (x : It) : stl S l x = l.any (pS S x) := rfl
abbrev kBs (S : Sd) (N : Nat) (lk ok : Int → List It) (q : Bool) (x : It) : List Blk := [.box 109 [.ref 2 0], .box 120 [.ref 3 0, .omap 6, .omap 7, tabA N lk, tabA N ok, .int .i64 S.t, .bool q], .box 213 [.own 4, .omap 5], .row 92 2 S.L.length (itR S.L), atB S.L, cB S, fB S, .box 92 [.int .i64 x.1, .int .i64 x.2]]
abbrev gk3 : Blk := .ghost [.junk, .junk, .junk, .ref 1 0, .ref 2 0, .ref 3 0, .junk, .omap 5, .omap 6, .omap 7, .ref 8 0]
abbrev gk2 : Blk := .ghost [.junk, .junk, .ref 1 0, .ref 2 0, .ref 3 0, .junk, .omap 5, .omap 6, .omap 7, .ref 8 0]
/-- What a side's numbers are. -/
def CB (S : Sd) : Prop := ∀ v, 0 ≤ (S.c v).getD 0 ∧ (S.c v).getD 0 < 4611686018427387904
set_option maxRecDepth 100000 in
set_option maxHeartbeats 1000000 in
theorem clo_c (S : Sd) (N : Nat) (lk ok : Int → List It) (q : Bool) (x a : It) (hb : CB S) (ha : 0 ≤ a.1 ∧ a.1 ≤ 1152921504606846976) :
  MCalls Try.prog G 167 [.agg [.int .i64 a.1, .int .i64 a.2], .ref 1 0, .ref 8 0] (gk3 :: kBs S N lk ok q x) (.sb (pS S x a)) (gk3 :: kBs S N lk ok q x) := by
 have hc := hb a.2
 refine MCalls.of_WA ttok Try.func167 rfl rfl _ rfl ?_
 conv => whnf
 repeat' (first | refine sq ?_ | refine bk ?_ | ((first | refine rg ttok ?_ | refine dw ttok mixed ?_ | refine cd ?_ | refine sk ?_ | refine xt ?_ | refine rt ?_); conv => whnf) | (refine And.intro (fun h => ?_) (fun h => ?_) <;> (try simp only [brsA] at h) <;> conv => whnf) | ((first | refine wf ?_ | refine wp' ?_ | refine ai ?_ | refine And.intro rfl ?_ | refine an ?_ | fail); conv => whnf))
 ·rw [pS_has h]
  repeat (first | exact fa | ((first | refine fb ?_ | (refine And.intro ?_ ?_; rotate_left)); conv => whnf))
 ·rw [pS_no h]
  repeat (first | exact fa | ((first | refine fb ?_ | (refine And.intro ?_ ?_; rotate_left)); conv => whnf))
set_option maxRecDepth 100000 in
set_option maxHeartbeats 1000000 in
theorem idx_c (S : Sd) (N : Nat) (lk ok : Int → List It) (q : Bool) (x : It) (l : List It) (hb : CB S) (hl : l.length ≤ 1000000) (ha : ∀ i, i < l.length → 0 ≤ (l.getD i (0, 0)).1 ∧ (l.getD i (0, 0)).1 ≤ 1152921504606846976) :
  MCalls Try.prog G 162 [.sl l.length 2 (itR l), .fn 167 [.ref 1 0, .ref 8 0]] (gk2 :: kBs S N lk ok q x) (.int .i64 (fidx (pS S x) l)) (gk2 :: kBs S N lk ok q x) := by
 refine MCalls.of_WA ttok Try.func162 rfl rfl _ rfl ?_
 conv => whnf
 repeat' (first | refine sq ?_ | refine bk ?_ | ((first | refine rg ttok ?_ | refine dw ttok mixed ?_ | refine cd ?_ | refine sk ?_ | refine xt ?_ | refine rt ?_); conv => whnf) | (refine And.intro (fun h => ?_) (fun h => ?_) <;> (try simp only [brsA] at h) <;> conv => whnf) | ((first | refine wf ?_ | refine wp' ?_ | refine ai ?_ | refine And.intro rfl ?_ | refine an ?_ | fail); conv => whnf))
 refine WA_loopI (fun i => i ≤ l.length ∧ ∀ j, j < i → pS S x (l.getD j (0, 0)) = false) (fun i => [(8, .int .i64 (i : Int))]) (fun i => gk2 :: kBs S N lk ok q x) (fun i => l.length - i) 0 ⟨by omega, fun j h => by omega⟩ ?_ ?_
 ·conv => whnf
  repeat (first | exact fa | ((first | refine fb ?_ | (refine And.intro ?_ ?_; rotate_left)); conv => whnf))
 ·rintro i ⟨hi, hI⟩
  have h1 : i < l.length → MCalls Try.prog G 167 [.agg [.int .i64 (l.getD i (0, 0)).1, .int .i64 (l.getD i (0, 0)).2], .ref 1 0, .ref 8 0] (gk3 :: kBs S N lk ok q x) (.sb (pS S x (l.getD i (0, 0)))) (gk3 :: kBs S N lk ok q x) := fun h => clo_c S N lk ok q x _ hb (ha i h)
  conv => whnf
  repeat' (first | refine sq ?_ | refine bk ?_ | ((first | refine rg ttok ?_ | refine dw ttok mixed ?_ | refine cd ?_ | refine sk ?_ | refine xt ?_ | refine rt ?_); conv => whnf) | (refine And.intro (fun h => ?_) (fun h => ?_) <;> (try simp only [brsA] at h) <;> conv => whnf) | (refine Or.inr (Or.inl ?_); (conv => whnf); refine ⟨_, _, (h1 (by omega)), ?_⟩; conv => whnf) | ((first | refine wf ?_ | refine wp' ?_ | refine ai ?_ | refine And.intro rfl ?_ | refine an ?_ | fail); conv => whnf))
  ·rw [fidx_at (by omega) h hI]
   repeat (first | exact fa | ((first | refine fb ?_ | (refine And.intro ?_ ?_; rotate_left)); conv => whnf))
  ·refine ⟨i + 1, ⟨(by show i + 1 ≤ l.length; omega), fun j hj => ?_⟩, (by show l.length - (i + 1) < l.length - i; omega), ?_⟩
   ·have hj : j < i + 1 := hj
    by_cases e : j = i
    ·rw [e]; exact h
    ·exact hI j (by omega)
   ·conv => whnf
    repeat (first | exact fa | ((first | refine fb ?_ | (refine And.intro ?_ ?_; rotate_left)); conv => whnf))
  ·rw [fidx_none (fun j hj => hI j (by omega))]
   repeat (first | exact fa | ((first | refine fb ?_ | (refine And.intro ?_ ?_; rotate_left)); conv => whnf))
set_option maxRecDepth 100000 in
set_option maxHeartbeats 1000000 in
theorem con_c (S : Sd) (N : Nat) (lk ok : Int → List It) (q : Bool) (x : It) (l : List It) (hb : CB S) (hl : l.length ≤ 1000000) (ha : ∀ i, i < l.length → 0 ≤ (l.getD i (0, 0)).1 ∧ (l.getD i (0, 0)).1 ≤ 1152921504606846976) :
  MCalls Try.prog G 131 [.sl l.length 2 (itR l), .fn 167 [.ref 1 0, .ref 8 0]] (gk2 :: kBs S N lk ok q x) (.sb (stl S l x)) (gk2 :: kBs S N lk ok q x) := by
 have h1 := idx_c (G := G) S N lk ok q x l hb hl ha
 refine MCalls.of_WA ttok Try.func131 rfl rfl _ rfl ?_
 conv => whnf
 repeat' (first | refine sq ?_ | refine bk ?_ | ((first | refine rg ttok ?_ | refine dw ttok mixed ?_ | refine cd ?_ | refine sk ?_ | refine xt ?_ | refine rt ?_); conv => whnf) | (refine And.intro (fun h => ?_) (fun h => ?_) <;> (try simp only [brsA] at h) <;> conv => whnf) | (refine Or.inr (Or.inl ?_); (conv => whnf); refine ⟨_, _, h1, ?_⟩; conv => whnf) | ((first | refine wf ?_ | refine wp' ?_ | refine ai ?_ | refine And.intro rfl ?_ | refine an ?_ | fail); conv => whnf))
 rw [stl_any, ← fidx_any]
 repeat (first | exact fa | ((first | refine fb ?_ | (refine And.intro ?_ ?_; rotate_left)); conv => whnf))
abbrev gs2 : Blk := .ghost [.junk, .junk, .ref 1 0, .ref 2 0, .junk, .omap 4, .omap 5, .omap 6]
set_option maxRecDepth 100000 in
set_option maxHeartbeats 1000000 in
theorem stalled_c (S : Sd) (N : Nat) (lk ok : Int → List It) (q : Bool) (x : It) (hb : CB S) (hx : 0 ≤ x.2 ∧ x.2 < N) (hl : ∀ v, (ok v).length ≤ 1000000) (ha : ∀ v i, i < (ok v).length → 0 ≤ ((ok v).getD i (0, 0)).1 ∧ ((ok v).getD i (0, 0)).1 ≤ 1152921504606846976) :
  MCalls Try.prog G 137 [.ref 1 0, .agg [.int .i64 x.1, .int .i64 x.2]] (gs2 :: sBs S N lk ok q) (.sb (stl S (ok x.2) x)) (gs2 :: sBs S N lk ok q) := by
 have h1 := con_c (G := G) S N lk ok q x (ok x.2.toNat) hb (hl _) (ha _)
 refine MCalls.of_WA ttok Try.func137 rfl rfl _ rfl ?_
 conv => whnf
 repeat' (first | ((refine WA_drawB (id := 1) 9 [] ttok mixed rfl (by kernel_rfl) ?_; conv => whnf)) | refine sq ?_ | refine bk ?_ | ((first | refine rg ttok ?_ | refine dw ttok mixed ?_ | refine cd ?_ | refine sk ?_ | refine xt ?_ | refine rt ?_); conv => whnf) | (refine And.intro (fun h => ?_) (fun h => ?_) <;> (try simp only [brsA] at h) <;> conv => whnf) | (refine Or.inr (Or.inl ?_); (conv => whnf); refine ⟨_, _, h1, ?_⟩; conv => whnf) | ((first | refine wf ?_ | refine wp' ?_ | refine ai ?_ | refine And.intro rfl ?_ | refine an ?_ | fail); conv => whnf))
 rw [Int.toNat_of_nonneg hx.1]
 repeat (first | exact fa | ((first | refine fb ?_ | (refine And.intro ?_ ?_; rotate_left)); conv => whnf))
end Go.Proofs.Ytfhdmhoeopbhnaa
namespace Go.Proofs.Ytfhdmhoeopbhnaa
open Go.Proofs.Ytfhdmhoeopbhnaa.Am Go.HeapL
variable [Inhabited DRT]
variable {G : GInv}
abbrev tBs (S : Sd) (b : Bst) (Z : Sd) (N : Nat) (lk ok : Int → List It) (q : Bool) : List Blk := [.box 120 [.ref 2 0, .omap 5, .omap 6, tabA N lk, tabA N ok, .int .i64 S.t, .bool q], .box 213 [.own 3, .omap 4], .row 92 2 S.L.length (itR S.L), atB S.L, cB S, fB S,
 .box 111 [.int .i64 b.cost, .int .i64 b.pt],
 .box 120 [.ref 9 0, .omap 12, .omap 13, tabA N ok, tabA N lk, .int .i64 Z.t, .bool q], .box 213 [.own 10, .omap 11], .row 92 2 Z.L.length (itR Z.L), atB Z.L, cB Z, fB Z]
abbrev gt3 : Blk := .ghost [.junk, .junk, .junk, .ref 1 0, .ref 2 0, .junk, .omap 4, .omap 5, .omap 6, .ref 7 0, .ref 8 0, .ref 9 0, .junk, .omap 11, .omap 12, .omap 13]
theorem mtb_yes {b : Bst} {Z : Sd} {x : It} (h : cH Z [.int x.2] = true) (h2 : (Z.c x.2).getD 0 + x.1 < b.cost) : mtb b (Z.c x.2) x = ⟨(Z.c x.2).getD 0 + x.1, x.2⟩ := by
 have h : (Z.c x.2).isSome = true := h
 unfold mtb
 cases e : Z.c x.2 with
 | none => rw [e] at h; cases h
 | some k => rw [e] at h2; exact if_pos h2
theorem mtb_no {b : Bst} {Z : Sd} {x : It} (h : cH Z [.int x.2] = false) : mtb b (Z.c x.2) x = b := by
 have h : (Z.c x.2).isSome = false := h
 unfold mtb
 cases e : Z.c x.2 with
 | none => rfl
 | some k => rw [e] at h; cases h
theorem mtb_ge {b : Bst} {Z : Sd} {x : It} (h : cH Z [.int x.2] = true) (h2 : ¬ (Z.c x.2).getD 0 + x.1 < b.cost) : mtb b (Z.c x.2) x = b := by
 have h : (Z.c x.2).isSome = true := h
 unfold mtb
 cases e : Z.c x.2 with
 | none => rfl
 | some k => rw [e] at h2; exact if_neg h2
theorem rlx_step (v key : Int) (l : List It) (S : Sd) (i : Nat) (hi : i < l.length) : rlx v key (l.take (i + 1)) S = rch (rlx v key (l.take i) S) (l.getD i (0, 0)).2 v (key + (l.getD i (0, 0)).1) := by
 unfold rlx
 rw [List.take_add_one, List.foldl_append, List.getElem?_eq_getElem hi]
 simp [List.getD_eq_getElem?_getD, hi]
structure TB (S Z : Sd) (N : Nat) (lk ok : Int → List It) : Prop where
 nd : Nd S.L
 ln : S.L.length ≤ 100000
 cb : CB S
 cz : CB Z
 ky : 0 < S.L.length → (0 ≤ (gt S.L 0).1 ∧ (gt S.L 0).1 < 4611686018427387904) ∧ 0 ≤ (gt S.L 0).2 ∧ (gt S.L 0).2 < N
 tk : 0 ≤ S.t ∧ S.t ≤ 100000
 ll : ∀ v, (lk v).length ≤ 1000000 ∧ (ok v).length ≤ 1000000
 la : ∀ v i, i < (lk v).length → 0 ≤ ((lk v).getD i (0, 0)).1 ∧ ((lk v).getD i (0, 0)).1 ≤ 1152921504606846976
 oa : ∀ v i, i < (ok v).length → 0 ≤ ((ok v).getD i (0, 0)).1 ∧ ((ok v).getD i (0, 0)).1 ≤ 1152921504606846976
 rl : 0 < S.L.length → ∀ i, Nd (rlx (gt S.L 0).2 (gt S.L 0).1 ((lk (gt S.L 0).2).take i) (popd S)).L ∧ (rlx (gt S.L 0).2 (gt S.L 0).1 ((lk (gt S.L 0).2).take i) (popd S)).L.length ≤ 100000
set_option maxRecDepth 100000 in
set_option maxHeartbeats 2000000 in
theorem turn_none (S Z : Sd) (b : Bst) (N : Nat) (lk ok : Int → List It) (q : Bool) (h0 : S.L.length = 0) :
  MCalls Try.prog G 102 [.ref 1 0, .ref 7 0, .ref 8 0] (gt3 :: tBs S b Z N lk ok q) (.bool false) (gt3 :: tBs S b Z N lk ok q) := by
 have h1 := least_no (G := G) S.L h0
 refine MCalls.of_WA ttok Try.func102 rfl rfl _ rfl ?_
 conv => whnf
 repeat' (first | refine sq ?_ | refine bk ?_ | ((first | refine rg ttok ?_ | refine dw ttok mixed ?_ | refine cd ?_ | refine sk ?_ | refine xt ?_ | refine rt ?_); conv => whnf) | (refine And.intro (fun h => ?_) (fun h => ?_) <;> (try simp only [brsA] at h) <;> conv => whnf) | (refine Or.inr (Or.inl ?_); (conv => whnf); refine ⟨_, _, h1, ?_⟩; conv => whnf) | ((first | refine wf ?_ | refine wp' ?_ | refine ai ?_ | refine And.intro rfl ?_ | refine an ?_ | fail); conv => whnf))
 repeat (first | exact fa | ((first | refine fb ?_ | (refine And.intro ?_ ?_; rotate_left)); conv => whnf))
set_option maxRecDepth 100000 in
set_option maxHeartbeats 2000000 in
theorem turn_far (S Z : Sd) (b : Bst) (N : Nat) (lk ok : Int → List It) (q : Bool) (h0 : 0 < S.L.length) (hl : S.L.length ≤ 100000) (hb : ¬ (gt S.L 0).1 < b.cost) :
  MCalls Try.prog G 102 [.ref 1 0, .ref 7 0, .ref 8 0] (gt3 :: tBs S b Z N lk ok q) (.bool false) (gt3 :: tBs S b Z N lk ok q) := by
 have h1 := least_yes (G := G) S.L h0 (by omega)
 refine MCalls.of_WA ttok Try.func102 rfl rfl _ rfl ?_
 conv => whnf
 repeat' (first | refine sq ?_ | refine bk ?_ | ((first | refine rg ttok ?_ | refine dw ttok mixed ?_ | refine cd ?_ | refine sk ?_ | refine xt ?_ | refine rt ?_); conv => whnf) | (refine And.intro (fun h => ?_) (fun h => ?_) <;> (try simp only [brsA] at h) <;> conv => whnf) | (refine Or.inr (Or.inl ?_); (conv => whnf); refine ⟨_, _, h1, ?_⟩; conv => whnf) | ((first | refine wf ?_ | refine wp' ?_ | refine ai ?_ | refine And.intro rfl ?_ | refine an ?_ | fail); conv => whnf))
 ·repeat (first | exact fa | ((first | refine fb ?_ | (refine And.intro ?_ ?_; rotate_left)); conv => whnf))
 ·omega
abbrev tLs (S : Sd) (b : Bst) (Z : Sd) (N : Nat) (lk ok : Int → List It) (q : Bool) (x : It) : List Blk := [.box 120 [.ref 2 0, .omap 5, .omap 6, tabA N lk, tabA N ok, .int .i64 S.t, .bool q], .box 213 [.own 3, .omap 4], .row 92 2 S.L.length (itR S.L), atB S.L, cB S, fB S,
 .box 111 [.int .i64 b.cost, .int .i64 b.pt],
 .box 120 [.ref 9 0, .omap 12, .omap 13, tabA N ok, tabA N lk, .int .i64 Z.t, .bool q], .box 213 [.own 10, .omap 11], .row 92 2 Z.L.length (itR Z.L), atB Z.L, cB Z, fB Z, .box 92 [.int .i64 x.1, .int .i64 x.2]]
set_option maxRecDepth 100000 in
set_option maxHeartbeats 8000000 in
theorem turn_go0 (S Z : Sd) (b : Bst) (N : Nat) (lk ok : Int → List It) (hT : TB S Z N lk ok) (h0 : 0 < S.L.length) (hb : (gt S.L 0).1 < b.cost) :
  MCalls Try.prog G 102 [.ref 1 0, .ref 7 0, .ref 8 0] (gt3 :: tBs S b Z N lk ok false) (.bool true) (gt3 :: tBs (rlx (gt S.L 0).2 (gt S.L 0).1 (lk (gt S.L 0).2) (popd S)) (mtb b (Z.c (gt S.L 0).2) (gt S.L 0)) Z N lk ok false) := by
 have hl := hT.ln
 have hky := hT.ky h0
 have htk := hT.tk
 have hcz := hT.cz (gt S.L 0).2
 have hll := (hT.ll (gt S.L 0).2.toNat).1
 have hnn : (((gt S.L 0).2.toNat : Nat) : Int) = (gt S.L 0).2 := Int.toNat_of_nonneg hky.2.1
 have h1 := least_yes (G := G) S.L h0 (by omega)
 have h2 := pop_c (G := G) S.L hT.nd h0 (by omega)
 rw [show lk (gt S.L 0).2 = lk ((gt S.L 0).2.toNat : Nat) by rw [hnn]]
 refine MCalls.of_WA ttok Try.func102 rfl rfl _ rfl ?_
 conv => whnf
 repeat' (first | refine sq ?_ | refine bk ?_ | ((first | refine rg ttok ?_ | refine dw ttok mixed ?_ | refine cd ?_ | refine sk ?_ | refine xt ?_ | refine rt ?_); conv => whnf) | (refine And.intro (fun h => ?_) (fun h => ?_) <;> (try simp only [brsA] at h) <;> conv => whnf) | (refine Or.inr (Or.inl ?_); (conv => whnf); (first | refine ⟨_, _, h1, ?_⟩ | refine ⟨_, _, h2, ?_⟩); conv => whnf) | ((first | refine wf ?_ | refine wp' ?_ | refine ai ?_ | refine And.intro rfl ?_ | refine an ?_ | fail); conv => whnf))
 all_goals first
  | (exfalso; omega)
  | exact absurd (show stl S (ok (gt S.L 0).2) (gt S.L 0) = true by assumption) (by rw [hs]; exact Bool.noConfusion)
  | skip
 all_goals
  refine WA_loopI (fun i => i ≤ (lk (gt S.L 0).2.toNat).length) (fun i => [(96, .int .i64 (i : Int))]) (fun i => gt3 :: tLs (rlx (gt S.L 0).2 (gt S.L 0).1 ((lk (gt S.L 0).2.toNat).take i) (popd S)) (mtb b (Z.c (gt S.L 0).2) (gt S.L 0)) Z N lk ok false (gt S.L 0)) (fun i => (lk (gt S.L 0).2.toNat).length - i) 0 (by omega) ?_ ?_
  ·first
    | rw [mtb_yes (b := b) (Z := Z) (x := gt S.L 0) (by assumption) (by assumption)]
    | rw [mtb_ge (b := b) (Z := Z) (x := gt S.L 0) (by assumption) (by assumption)]
    | rw [mtb_no (b := b) (Z := Z) (x := gt S.L 0) (by assumption)]
   conv => whnf
   repeat (first | exact fa | ((first | refine fb ?_ | (refine And.intro ?_ ?_; rotate_left)); conv => whnf))
  ·intro i hi
   have hrl := hT.rl h0 i
   have hla : (i : Int) < ((lk (gt S.L 0).2.toNat).length : Int) → 0 ≤ ((lk (gt S.L 0).2.toNat).getD (i : Int).toNat (0, 0)).1 ∧ ((lk (gt S.L 0).2.toNat).getD (i : Int).toNat (0, 0)).1 ≤ 1152921504606846976 := fun h => hT.la (gt S.L 0).2.toNat i (by omega)
   rw [show lk (gt S.L 0).2 = lk ((gt S.L 0).2.toNat : Nat) by rw [hnn]] at hrl
   have h4 : i < (lk (gt S.L 0).2.toNat).length → MCalls Try.prog G 134 [.ref 1 0, .int .i64 ((lk (gt S.L 0).2.toNat).getD i (0, 0)).2, .int .i64 (gt S.L 0).2, .int .i64 ((gt S.L 0).1 + ((lk (gt S.L 0).2.toNat).getD i (0, 0)).1)] (gs4 :: sBs (rlx (gt S.L 0).2 (gt S.L 0).1 ((lk (gt S.L 0).2.toNat).take i) (popd S)) N lk ok false) (.tup []) (gs4 :: sBs (rlx (gt S.L 0).2 (gt S.L 0).1 ((lk (gt S.L 0).2.toNat).take (i + 1)) (popd S)) N lk ok false) := fun h => by
    rw [rlx_step _ _ _ _ i h]
    exact reach_c _ N lk ok false _ _ _ hrl.1 hrl.2
   conv => whnf
   repeat' (first | refine sq ?_ | refine bk ?_ | ((first | refine rg ttok ?_ | refine dw ttok mixed ?_ | refine cd ?_ | refine sk ?_ | refine xt ?_ | refine rt ?_); conv => whnf) | (refine And.intro (fun h => ?_) (fun h => ?_) <;> (try simp only [brsA] at h) <;> conv => whnf) | (refine Or.inr (Or.inl ?_); (conv => whnf); refine ⟨_, _, (h4 (by omega)), ?_⟩; conv => whnf) | ((first | refine wf ?_ | refine wp' ?_ | refine ai ?_ | refine And.intro rfl ?_ | refine an ?_ | fail); conv => whnf))
   ·refine ⟨i + 1, (by show i + 1 ≤ (lk (gt S.L 0).2.toNat).length; omega), (by show (lk (gt S.L 0).2.toNat).length - (i + 1) < (lk (gt S.L 0).2.toNat).length - i; omega), ?_⟩
    conv => whnf
    repeat (first | exact fa | ((first | refine fb ?_ | (refine And.intro ?_ ?_; rotate_left)); conv => whnf))
   ·have e : i = (lk (gt S.L 0).2.toNat).length := by omega
    subst e
    rw [List.take_length]
    repeat (first | exact fa | ((first | refine fb ?_ | (refine And.intro ?_ ?_; rotate_left)); conv => whnf))
set_option maxRecDepth 100000 in
set_option maxHeartbeats 8000000 in
theorem turn_go1 (S Z : Sd) (b : Bst) (N : Nat) (lk ok : Int → List It) (hT : TB S Z N lk ok) (h0 : 0 < S.L.length) (hb : (gt S.L 0).1 < b.cost) (hs : stl S (ok (gt S.L 0).2) (gt S.L 0) = false) :
  MCalls Try.prog G 102 [.ref 1 0, .ref 7 0, .ref 8 0] (gt3 :: tBs S b Z N lk ok true) (.bool true) (gt3 :: tBs (rlx (gt S.L 0).2 (gt S.L 0).1 (lk (gt S.L 0).2) (popd S)) (mtb b (Z.c (gt S.L 0).2) (gt S.L 0)) Z N lk ok true) := by
 have hl := hT.ln
 have hky := hT.ky h0
 have htk := hT.tk
 have hcz := hT.cz (gt S.L 0).2
 have hll := (hT.ll (gt S.L 0).2.toNat).1
 have hnn : (((gt S.L 0).2.toNat : Nat) : Int) = (gt S.L 0).2 := Int.toNat_of_nonneg hky.2.1
 have h1 := least_yes (G := G) S.L h0 (by omega)
 have h2 := pop_c (G := G) S.L hT.nd h0 (by omega)
 have h3 := stalled_c (G := G) (popd S) N lk ok true (gt S.L 0) hT.cb hky.2 (fun v => (hT.ll v).2) hT.oa
 rw [show lk (gt S.L 0).2 = lk ((gt S.L 0).2.toNat : Nat) by rw [hnn]]
 refine MCalls.of_WA ttok Try.func102 rfl rfl _ rfl ?_
 conv => whnf
 repeat' (first | refine sq ?_ | refine bk ?_ | ((first | refine rg ttok ?_ | refine dw ttok mixed ?_ | refine cd ?_ | refine sk ?_ | refine xt ?_ | refine rt ?_); conv => whnf) | (refine And.intro (fun h => ?_) (fun h => ?_) <;> (try simp only [brsA] at h) <;> conv => whnf) | (refine Or.inr (Or.inl ?_); (conv => whnf); (first | refine ⟨_, _, h1, ?_⟩ | refine ⟨_, _, h2, ?_⟩ | refine ⟨_, _, h3, ?_⟩); conv => whnf) | ((first | refine wf ?_ | refine wp' ?_ | refine ai ?_ | refine And.intro rfl ?_ | refine an ?_ | fail); conv => whnf))
 all_goals first
  | (exfalso; omega)
  | exact absurd (show stl S (ok (gt S.L 0).2) (gt S.L 0) = true by assumption) (by rw [hs]; exact Bool.noConfusion)
  | skip
 all_goals
  refine WA_loopI (fun i => i ≤ (lk (gt S.L 0).2.toNat).length) (fun i => [(96, .int .i64 (i : Int))]) (fun i => gt3 :: tLs (rlx (gt S.L 0).2 (gt S.L 0).1 ((lk (gt S.L 0).2.toNat).take i) (popd S)) (mtb b (Z.c (gt S.L 0).2) (gt S.L 0)) Z N lk ok true (gt S.L 0)) (fun i => (lk (gt S.L 0).2.toNat).length - i) 0 (by omega) ?_ ?_
  ·first
    | rw [mtb_yes (b := b) (Z := Z) (x := gt S.L 0) (by assumption) (by assumption)]
    | rw [mtb_ge (b := b) (Z := Z) (x := gt S.L 0) (by assumption) (by assumption)]
    | rw [mtb_no (b := b) (Z := Z) (x := gt S.L 0) (by assumption)]
   conv => whnf
   repeat (first | exact fa | ((first | refine fb ?_ | (refine And.intro ?_ ?_; rotate_left)); conv => whnf))
  ·intro i hi
   have hrl := hT.rl h0 i
   have hla : (i : Int) < ((lk (gt S.L 0).2.toNat).length : Int) → 0 ≤ ((lk (gt S.L 0).2.toNat).getD (i : Int).toNat (0, 0)).1 ∧ ((lk (gt S.L 0).2.toNat).getD (i : Int).toNat (0, 0)).1 ≤ 1152921504606846976 := fun h => hT.la (gt S.L 0).2.toNat i (by omega)
   rw [show lk (gt S.L 0).2 = lk ((gt S.L 0).2.toNat : Nat) by rw [hnn]] at hrl
   have h4 : i < (lk (gt S.L 0).2.toNat).length → MCalls Try.prog G 134 [.ref 1 0, .int .i64 ((lk (gt S.L 0).2.toNat).getD i (0, 0)).2, .int .i64 (gt S.L 0).2, .int .i64 ((gt S.L 0).1 + ((lk (gt S.L 0).2.toNat).getD i (0, 0)).1)] (gs4 :: sBs (rlx (gt S.L 0).2 (gt S.L 0).1 ((lk (gt S.L 0).2.toNat).take i) (popd S)) N lk ok true) (.tup []) (gs4 :: sBs (rlx (gt S.L 0).2 (gt S.L 0).1 ((lk (gt S.L 0).2.toNat).take (i + 1)) (popd S)) N lk ok true) := fun h => by
    rw [rlx_step _ _ _ _ i h]
    exact reach_c _ N lk ok true _ _ _ hrl.1 hrl.2
   conv => whnf
   repeat' (first | refine sq ?_ | refine bk ?_ | ((first | refine rg ttok ?_ | refine dw ttok mixed ?_ | refine cd ?_ | refine sk ?_ | refine xt ?_ | refine rt ?_); conv => whnf) | (refine And.intro (fun h => ?_) (fun h => ?_) <;> (try simp only [brsA] at h) <;> conv => whnf) | (refine Or.inr (Or.inl ?_); (conv => whnf); refine ⟨_, _, (h4 (by omega)), ?_⟩; conv => whnf) | ((first | refine wf ?_ | refine wp' ?_ | refine ai ?_ | refine And.intro rfl ?_ | refine an ?_ | fail); conv => whnf))
   ·refine ⟨i + 1, (by show i + 1 ≤ (lk (gt S.L 0).2.toNat).length; omega), (by show (lk (gt S.L 0).2.toNat).length - (i + 1) < (lk (gt S.L 0).2.toNat).length - i; omega), ?_⟩
    conv => whnf
    repeat (first | exact fa | ((first | refine fb ?_ | (refine And.intro ?_ ?_; rotate_left)); conv => whnf))
   ·have e : i = (lk (gt S.L 0).2.toNat).length := by omega
    subst e
    rw [List.take_length]
    repeat (first | exact fa | ((first | refine fb ?_ | (refine And.intro ?_ ?_; rotate_left)); conv => whnf))
end Go.Proofs.Ytfhdmhoeopbhnaa
namespace Go.Proofs.Ytfhdmhoeopbhnaa
open Go.Proofs.Ytfhdmhoeopbhnaa.Am Go.HeapL
variable [Inhabited DRT]
variable {G : GInv}
set_option maxRecDepth 100000 in
set_option maxHeartbeats 4000000 in
theorem turn_stop (S Z : Sd) (b : Bst) (N : Nat) (lk ok : Int → List It) (hT : TB S Z N lk ok) (h0 : 0 < S.L.length) (hb : (gt S.L 0).1 < b.cost) (hs : stl S (ok (gt S.L 0).2) (gt S.L 0) = true) :
  MCalls Try.prog G 102 [.ref 1 0, .ref 7 0, .ref 8 0] (gt3 :: tBs S b Z N lk ok true) (.bool true) (gt3 :: tBs (popd S) (mtb b (Z.c (gt S.L 0).2) (gt S.L 0)) Z N lk ok true) := by
 have hl := hT.ln
 have hky := hT.ky h0
 have htk := hT.tk
 have hcz := hT.cz (gt S.L 0).2
 have h1 := least_yes (G := G) S.L h0 (by omega)
 have h2 := pop_c (G := G) S.L hT.nd h0 (by omega)
 have h3 := stalled_c (G := G) (popd S) N lk ok true (gt S.L 0) hT.cb hky.2 (fun v => (hT.ll v).2) hT.oa
 refine MCalls.of_WA ttok Try.func102 rfl rfl _ rfl ?_
 conv => whnf
 repeat' (first | refine sq ?_ | refine bk ?_ | ((first | refine rg ttok ?_ | refine dw ttok mixed ?_ | refine cd ?_ | refine sk ?_ | refine xt ?_ | refine rt ?_); conv => whnf) | (refine And.intro (fun h => ?_) (fun h => ?_) <;> (try simp only [brsA] at h) <;> conv => whnf) | (refine Or.inr (Or.inl ?_); (conv => whnf); (first | refine ⟨_, _, h1, ?_⟩ | refine ⟨_, _, h2, ?_⟩ | refine ⟨_, _, h3, ?_⟩); conv => whnf) | ((first | refine wf ?_ | refine wp' ?_ | refine ai ?_ | refine And.intro rfl ?_ | refine an ?_ | fail); conv => whnf))
 all_goals first
  | (exfalso; omega)
  | exact absurd (show stl S (ok (gt S.L 0).2) (gt S.L 0) = false by assumption) (by rw [hs]; exact Bool.noConfusion)
  | skip
 all_goals
  first
   | rw [mtb_yes (b := b) (Z := Z) (x := gt S.L 0) (by assumption) (by assumption)]
   | rw [mtb_ge (b := b) (Z := Z) (x := gt S.L 0) (by assumption) (by assumption)]
   | rw [mtb_no (b := b) (Z := Z) (x := gt S.L 0) (by assumption)]
  repeat (first | exact fa | ((first | refine fb ?_ | (refine And.intro ?_ ?_; rotate_left)); conv => whnf))
theorem turn_c (s : St) (N : Nat) (lk ok : Int → List It) (q : Bool) (hT : TB s.a s.z N lk ok) :
  MCalls Try.prog G 102 [.ref 1 0, .ref 7 0, .ref 8 0] (gt3 :: tBs s.a s.b s.z N lk ok q) (.bool (okT s.a s.b)) (gt3 :: tBs (hlf q lk ok s).a (hlf q lk ok s).b (hlf q lk ok s).z N lk ok q) := by
 cases ho : okT s.a s.b with
 | false =>
  rw [hlf_id ho]
  by_cases h0 : 0 < s.a.L.length
  ·refine turn_far s.a s.z s.b N lk ok q h0 hT.ln (fun h => ?_)
   rw [okT_iff.2 ⟨h0, h⟩] at ho; cases ho
  ·exact turn_none s.a s.z s.b N lk ok q (by omega)
 | true =>
  obtain ⟨h0, hb⟩ := okT_iff.1 ho
  have e : hlf q lk ok s = ⟨tS q lk ok s.a, s.z, mtb s.b (s.z.c (gt s.a.L 0).2) (gt s.a.L 0)⟩ := by unfold hlf; rw [ho]
  rw [e]
  unfold tS
  cases q with
  | false => exact turn_go0 s.a s.z s.b N lk ok hT h0 hb
  | true =>
   cases hs : stl s.a (ok (gt s.a.L 0).2) (gt s.a.L 0) with
   | false => exact turn_go1 s.a s.z s.b N lk ok hT h0 hb hs
   | true => exact turn_stop s.a s.z s.b N lk ok hT h0 hb hs
end Go.Proofs.Ytfhdmhoeopbhnaa
namespace Go.Proofs.Ytfhdmhoeopbhnaa
open Go.Proofs.Ytfhdmhoeopbhnaa.Am Go.HeapL
variable [Inhabited DRT]
variable {G : GInv}
theorem upE_step (rk : List Int) (ls : List Lk) (i : Nat) (u : Int) (hi : i < ls.length) : upE rk (ls.take (i + 1)) u = upE rk (ls.take i) u ++ (if (ls.getD i default).f = u ∧ rk.getD u.toNat 0 < rk.getD (ls.getD i default).t.toNat 0 then [((ls.getD i default).w, (ls.getD i default).t)] else []) := by
 unfold upE
 rw [filterMap_take (upF rk u) default ls i hi]
 congr 1
 unfold upF
 by_cases h : (ls.getD i default).f = u ∧ rk.getD u.toNat 0 < rk.getD (ls.getD i default).t.toNat 0
 ·simp only [if_pos h]
 ·simp only [if_neg h]
theorem dnE_step (rk : List Int) (ls : List Lk) (i : Nat) (u : Int) (hi : i < ls.length) : dnE rk (ls.take (i + 1)) u = dnE rk (ls.take i) u ++ (if (ls.getD i default).t = u ∧ rk.getD u.toNat 0 < rk.getD (ls.getD i default).f.toNat 0 then [((ls.getD i default).w, (ls.getD i default).f)] else []) := by
 unfold dnE
 rw [filterMap_take (downF rk u) default ls i hi]
 congr 1
 unfold downF
 by_cases h : (ls.getD i default).t = u ∧ rk.getD u.toNat 0 < rk.getD (ls.getD i default).f.toNat 0
 ·simp only [if_pos h]
 ·simp only [if_neg h]
theorem tab_fit {E E' : Int → List It} (fN : Nat) (x : It) (hE : ∀ v : Nat, E' v = E v ++ (if v = fN then [x] else [])) (r : Nat → List A) (hr : r 0 = [A.int .i64 x.1, A.int .i64 x.2]) (v : Nat) :
  updN (fun v => (E v).length) fN ((E fN).length + 1) v = (E' v).length ∧ ∀ k, k < updN (fun v => (E v).length) fN ((E fN).length + 1) v → updN (fun v k => itR (E v) k) fN (rowCat (E fN).length (fun k => itR (E fN) k) r) v k = itR (E' v) k := by
 have hv := hE v
 by_cases h : v = fN
 ·subst h
  rw [if_pos rfl] at hv
  rw [hv]
  simp only [updN, if_pos]
  refine ⟨by simp, fun k hk => ?_⟩
  exact rowCat_snoc (fun y : It => [A.int .i64 y.1, A.int .i64 y.2]) (0, 0) (E v) x _ hr k hk
 ·rw [if_neg h, List.append_nil] at hv
  rw [hv]
  simp only [updN, if_neg h]
  exact ⟨trivial, fun _ _ => trivial⟩
theorem tab_same {E E' : Int → List It} (v : Nat) (h : E' v = E v) : (E v).length = (E' v).length ∧ ∀ k, k < (E v).length → itR (E v) k = itR (E' v) k := by rw [h]; exact ⟨rfl, fun _ _ => rfl⟩
set_option maxRecDepth 100000 in
set_option maxHeartbeats 4000000 in
theorem tabled_c (rk : List Int) (ls : List Lk) (hl : ls.length ≤ 1000000) (hr : rk.length ≤ 1000000) (hR : RanksP rk) (hS : SortedP rk.length ls) :
  ACalls Try.prog G 100 [.agg [intsA rk, lksA ls]] (.agg [tabA rk.length (upE rk ls), tabA rk.length (dnE rk ls)]) := by
 refine ACalls.of_WA ttok Try.func100 rfl rfl _ rfl ?_
 conv => whnf
 repeat' (first | refine sq ?_ | refine bk ?_ | ((first | refine rg ttok ?_ | refine dw ttok mixed ?_ | refine cd ?_ | refine sk ?_ | refine xt ?_ | refine rt ?_); conv => whnf) | (refine And.intro (fun h => ?_) (fun h => ?_) <;> (try simp only [brsA] at h) <;> conv => whnf) | ((first | refine wf ?_ | refine wp' ?_ | refine ai ?_ | refine And.intro rfl ?_ | refine an ?_ | fail); conv => whnf))
 refine WA_nest 2 92 2 rfl (fun _ _ => rfl) ?_
 conv => whnf
 refine WA_nest 3 92 2 rfl (fun _ _ => rfl) ?_
 conv => whnf
 refine WA_loopI (fun i => i ≤ ls.length) (fun i => [(18, .int .i64 (i : Int))]) (fun i => [.box 25 [intsA rk, lksA ls], .box 150 [.nils, .nils], .nest 32 92 2 rk.length none (fun v => (upE rk (ls.take i) v).length) (fun v k => itR (upE rk (ls.take i) v) k), .nest 32 92 2 rk.length none (fun v => (dnE rk (ls.take i) v).length) (fun v k => itR (dnE rk (ls.take i) v) k), .box 150 [.own 2, .own 3]]) (fun i => ls.length - i) 0 (by omega) ?_ ?_
 ·conv => whnf
  repeat (first | exact fa | ((first | refine fb ?_ | (refine And.intro ?_ ?_; rotate_left)); conv => whnf))
  all_goals exact fun v _ => ⟨rfl, fun k hk => absurd hk (Nat.not_lt_zero _)⟩
 ·intro i hi
  have hok : (i : Int) < ls.length → (0 ≤ (ls.getD (i : Int).toNat default).t ∧ (ls.getD (i : Int).toNat default).t < rk.length) ∧ (0 ≤ (ls.getD (i : Int).toNat default).f ∧ (ls.getD (i : Int).toNat default).f < rk.length) := fun h => ⟨((hS i (by omega)).1).2.1, ((hS i (by omega)).1).1⟩
  have hlu : ∀ v, (upE rk (ls.take i) v).length ≤ 1000000 := fun v => Nat.le_trans (filterMap_len _ _) (by rw [List.length_take]; omega)
  have hld : ∀ v, (dnE rk (ls.take i) v).length ≤ 1000000 := fun v => Nat.le_trans (filterMap_len _ _) (by rw [List.length_take]; omega)
  have hlf := hlu (ls.getD (i : Int).toNat default).f.toNat
  have hlt := hld (ls.getD (i : Int).toNat default).t.toNat
  conv => whnf
  repeat' (first | (refine WA_drawR (id := 6) [(9,1)] ttok mixed ?_; conv => whnf) | (refine WA_drawR (id := 7) [(9,1)] ttok mixed ?_; conv => whnf) | refine sq ?_ | refine bk ?_ | ((first | refine rg ttok ?_ | refine dw ttok mixed ?_ | refine cd ?_ | refine sk ?_ | refine xt ?_ | refine rt ?_); conv => whnf) | (refine And.intro (fun h => ?_) (fun h => ?_) <;> (try simp only [brsA] at h) <;> conv => whnf) | ((first | refine wf ?_ | refine wp' ?_ | refine ai ?_ | refine And.intro rfl ?_ | refine an ?_ | fail); conv => whnf))
  ·have hi' : i < ls.length := by omega
   have hne : rk.getD (ls.getD i default).f.toNat 0 < rk.getD (ls.getD i default).t.toNat 0 := h
   have ho := hok (by omega)
   have ho : (0 ≤ (ls.getD i default).t ∧ (ls.getD i default).t < rk.length) ∧ (0 ≤ (ls.getD i default).f ∧ (ls.getD i default).f < rk.length) := ho
   have eu : ∀ v : Nat, upE rk (ls.take (i + 1)) v = upE rk (ls.take i) v ++ (if v = (ls.getD i default).f.toNat then [((ls.getD i default).w, (ls.getD i default).t)] else []) := fun v => by
    rw [upE_step rk ls i v hi']
    congr 1
    by_cases e : v = (ls.getD i default).f.toNat
    ·rw [if_pos e, if_pos ⟨by omega, by rw [show ((v : Nat) : Int).toNat = v from rfl, e]; exact hne⟩]
    ·rw [if_neg e, if_neg (fun h => e (by omega))]
   have ed : ∀ v : Nat, dnE rk (ls.take (i + 1)) v = dnE rk (ls.take i) v := fun v => by
    rw [dnE_step rk ls i v hi', if_neg, List.append_nil]
    rintro ⟨h1, h2⟩
    rw [← h1] at h2; omega
   refine ⟨i + 1, (by show i + 1 ≤ ls.length; omega), (by show ls.length - (i + 1) < ls.length - i; omega), ?_⟩
   conv => whnf
   repeat (first | exact fa | ((first | refine fb ?_ | (refine And.intro ?_ ?_; rotate_left)); conv => whnf))
   ·exact fun v _ => tab_same (E := dnE rk (ls.take i)) (E' := dnE rk (ls.take (i + 1))) v (ed v)
   ·exact fun v _ => tab_fit (E := upE rk (ls.take i)) (E' := upE rk (ls.take (i + 1))) (ls.getD i default).f.toNat ((ls.getD i default).w, (ls.getD i default).t) eu _ rfl v
  ·have hi' : i < ls.length := by omega
   have ho := hok (by omega)
   have ho : (0 ≤ (ls.getD i default).t ∧ (ls.getD i default).t < rk.length) ∧ (0 ≤ (ls.getD i default).f ∧ (ls.getD i default).f < rk.length) := ho
   have hft := ((hS i hi').1).2.2.1
   have hne' := ranks_ne hR (i := (ls.getD i default).f.toNat) (j := (ls.getD i default).t.toNat) (by omega) (by omega) (by omega)
   have hne : rk.getD (ls.getD i default).t.toNat 0 < rk.getD (ls.getD i default).f.toNat 0 := by
    have h : ¬ rk.getD (ls.getD i default).f.toNat 0 < rk.getD (ls.getD i default).t.toNat 0 := h
    omega
   have ed : ∀ v : Nat, dnE rk (ls.take (i + 1)) v = dnE rk (ls.take i) v ++ (if v = (ls.getD i default).t.toNat then [((ls.getD i default).w, (ls.getD i default).f)] else []) := fun v => by
    rw [dnE_step rk ls i v hi']
    congr 1
    by_cases e : v = (ls.getD i default).t.toNat
    ·rw [if_pos e, if_pos ⟨by omega, by rw [show ((v : Nat) : Int).toNat = v from rfl, e]; exact hne⟩]
    ·rw [if_neg e, if_neg (fun h => e (by omega))]
   have eu : ∀ v : Nat, upE rk (ls.take (i + 1)) v = upE rk (ls.take i) v := fun v => by
    rw [upE_step rk ls i v hi', if_neg, List.append_nil]
    rintro ⟨h1, h2⟩
    rw [← h1] at h2; omega
   refine ⟨i + 1, (by show i + 1 ≤ ls.length; omega), (by show ls.length - (i + 1) < ls.length - i; omega), ?_⟩
   conv => whnf
   repeat (first | exact fa | ((first | refine fb ?_ | (refine And.intro ?_ ?_; rotate_left)); conv => whnf))
   ·exact fun v _ => tab_fit (E := dnE rk (ls.take i)) (E' := dnE rk (ls.take (i + 1))) (ls.getD i default).t.toNat ((ls.getD i default).w, (ls.getD i default).f) ed _ rfl v
   ·exact fun v _ => tab_same (E := upE rk (ls.take i)) (E' := upE rk (ls.take (i + 1))) v (eu v)
  ·have e : i = ls.length := by omega
   subst e
   rw [List.take_length]
   repeat (first | exact fa | ((first | refine fb ?_ | (refine And.intro ?_ ?_; rotate_left)); conv => whnf))
end Go.Proofs.Ytfhdmhoeopbhnaa
namespace Go.Proofs.Ytfhdmhoeopbhnaa
open Go.Proofs.Ytfhdmhoeopbhnaa.Am Go.HeapL
variable [Inhabited DRT]
variable {G : GInv}
theorem CB_of {n : Int} {st : List It} {lk : Int → List It} {D : List Int} {S : Sd} (h : Inv n st lk D S) : CB S := fun v => by
 cases e : S.c v with
 | none => show (0 : Int) ≤ 0 ∧ (0 : Int) < 4611686018427387904; omega
 | some k => have := h.rng v k e; unfold NC at this; show 0 ≤ k ∧ k < 4611686018427387904; omega
theorem TB_of {n : Nat} {sa sz : List It} {up dn : Int → List It} {Da Dz : List Int} {S Z : Sd} (hd : Dat n sa up) (ha : Inv n sa up Da S) (hz : Inv n sz dn Dz Z) (hn : n ≤ 100000)
  (ll : ∀ v, (up v).length ≤ 1000000 ∧ (dn v).length ≤ 1000000)
  (la : ∀ v i, i < (up v).length → 0 ≤ ((up v).getD i (0, 0)).1 ∧ ((up v).getD i (0, 0)).1 ≤ 1152921504606846976)
  (oa : ∀ v i, i < (dn v).length → 0 ≤ ((dn v).getD i (0, 0)).1 ∧ ((dn v).getD i (0, 0)).1 ≤ 1152921504606846976) : TB S Z n up dn where
 nd := ha.nd
 ln := by have := ha.lenL; omega
 cb := CB_of ha
 cz := CB_of hz
 ky := fun h0 => by
  have := ha.rng (gt S.L 0).2 (gt S.L 0).1 (ha.inL (gt S.L 0).1 (gt S.L 0).2 (mem_gt h0)).1
  unfold NC at this
  exact ⟨⟨this.2.2.1, this.2.2.2⟩, this.1, this.2.1⟩
 tk := by have h1 := ha.tk; have h2 := ha.len; omega
 ll := ll
 la := la
 oa := oa
 rl := fun h0 i => by
  obtain ⟨p1, p2, p3, p4⟩ := pop_inv ha h0
  have hr := ha.rng _ _ p2
  obtain ⟨r1, _⟩ := rlx_inv hd (List.mem_cons_self) hr.2.2.1 ((up (gt S.L 0).2).take i) (popd S) (fun x hx => List.mem_of_mem_take hx) p1 p2 p4
  exact ⟨r1.nd, by have := r1.lenL; omega⟩
theorem fin_rnd {q : Bool} {up dn : Int → List It} {s : St} (h : fin q up dn s = true) : rnd q up dn s = s := by
 obtain ⟨h1, h2⟩ := fin_iff.1 h
 have e1 : hlf q up dn s = s := hlf_id h1
 have e2 : hlf q dn up s.sw = s.sw := hlf_id h2
 unfold rnd
 rw [e1, e2]; rfl
def bst0 : Bst := ⟨NC, -1⟩
def st0 (sa sz : List It) : St := ⟨begL sa Sd0, begL sz Sd0, bst0⟩
abbrev gLs (rk : List Int) (ls : List Lk) (q : Bool) (s : St) : List Blk := [.box 25 [intsA rk, lksA ls], .box 111 [.int .i64 0, .int .i64 0], .box 150 [tabA rk.length (upE rk ls), tabA rk.length (dnE rk ls)],
 .box 120 [.ref 4 0, .omap 7, .omap 8, tabA rk.length (upE rk ls), tabA rk.length (dnE rk ls), .int .i64 s.a.t, .bool q], .box 213 [.own 5, .omap 6], .row 92 2 s.a.L.length (itR s.a.L), atB s.a.L, cB s.a, fB s.a,
 .box 120 [.ref 10 0, .omap 13, .omap 14, tabA rk.length (dnE rk ls), tabA rk.length (upE rk ls), .int .i64 s.z.t, .bool q], .box 213 [.own 11, .omap 12], .row 92 2 s.z.L.length (itR s.z.L), atB s.z.L, cB s.z, fB s.z,
 .box 111 [.int .i64 s.b.cost, .int .i64 s.b.pt]]
/-- A side that is read only. -/
abbrev sideA (S : Sd) (N : Nat) (lk ok : Int → List It) (q : Bool) : A := .bref [.bref [.sl S.L.length 2 (itR S.L), .mv false [.int .i64] (atH S.L) (atV S.L)] 0, .mv false [.int .i64] (cH S) (cV S), .mv false [.int .i64] (cH S) (fV S), tabA N lk, tabA N ok, .int .i64 S.t, .bool q] 0
abbrev srA (rk : List Int) (ls : List Lk) (q : Bool) (s : St) : A := .tup [sideA s.a rk.length (upE rk ls) (dnE rk ls) q, sideA s.z rk.length (dnE rk ls) (upE rk ls) q, .agg [.int .i64 s.b.cost, .int .i64 s.b.pt]]
set_option maxRecDepth 100000 in
set_option maxHeartbeats 4000000 in
theorem search_c (rk : List Int) (ls : List Lk) (sa sz : List It) (q : Bool) (N : Nat) (hl : ls.length ≤ 1000000) (hr : rk.length ≤ 1000000) (hR : RanksP rk) (hS : SortedP rk.length ls)
  (hla : sa.length ≤ 1000) (hlz : sz.length ≤ 1000)
  (hka : ∀ i, i ≤ sa.length → Nd (begL (sa.take i) Sd0).L ∧ (begL (sa.take i) Sd0).L.length ≤ 100000) (hkz : ∀ i, i ≤ sz.length → Nd (begL (sz.take i) Sd0).L ∧ (begL (sz.take i) Sd0).L.length ≤ 100000)
  (hN1 : ∀ j, j < N → fin q (upE rk ls) (dnE rk ls) (itr q (upE rk ls) (dnE rk ls) (st0 sa sz) j) = false) (hN2 : fin q (upE rk ls) (dnE rk ls) (itr q (upE rk ls) (dnE rk ls) (st0 sa sz) N) = true)
  (hT : ∀ i, TB (itr q (upE rk ls) (dnE rk ls) (st0 sa sz) i).a (itr q (upE rk ls) (dnE rk ls) (st0 sa sz) i).z rk.length (upE rk ls) (dnE rk ls) ∧
   TB (hlf q (upE rk ls) (dnE rk ls) (itr q (upE rk ls) (dnE rk ls) (st0 sa sz) i)).z (hlf q (upE rk ls) (dnE rk ls) (itr q (upE rk ls) (dnE rk ls) (st0 sa sz) i)).a rk.length (dnE rk ls) (upE rk ls)) :
  ACalls Try.prog G 67 [.agg [intsA rk, lksA ls], .sl sa.length 2 (itR sa), .sl sz.length 2 (itR sz), .bool q] (srA rk ls q (itr q (upE rk ls) (dnE rk ls) (st0 sa sz) N)) := by
 have h1 := tabled_c (G := G) rk ls hl hr hR hS
 have h2 := begin_c (G := G) sa rk.length (upE rk ls) (dnE rk ls) hla hka
 have h3 := begin_c (G := G) sz rk.length (dnE rk ls) (upE rk ls) hlz hkz
 refine ACalls.of_WA ttok Try.func67 rfl rfl _ rfl ?_
 conv => whnf
 repeat' (first | (refine WA_drawR (id := 2) [(5,6),(11,6)] ttok mixed ?_; conv => whnf) | refine sq ?_ | refine bk ?_ | ((first | refine rg ttok ?_ | refine dw ttok mixed ?_ | refine cd ?_ | refine sk ?_ | refine xt ?_ | refine rt ?_); conv => whnf) | (refine And.intro (fun h => ?_) (fun h => ?_) <;> (try simp only [brsA] at h) <;> conv => whnf) | (refine Or.inl ?_; (conv => whnf); refine ⟨_, h1, ?_⟩; conv => whnf) | ((first | refine Or.inr (Or.inr (Or.inr ?_)) | refine Or.inr ?_); (conv => whnf); (first | refine ⟨_, _, h2, ?_⟩ | refine ⟨_, _, h3, ?_⟩); conv => whnf) | ((first | refine wf ?_ | refine wp' ?_ | refine ai ?_ | refine And.intro rfl ?_ | refine an ?_ | fail); conv => whnf))
 refine WA_loopI (ι := Nat × St) (fun x => x.1 ≤ N ∧ x.2 = itr q (upE rk ls) (dnE rk ls) (st0 sa sz) x.1) (fun x => match x with | (_, _) => []) (fun x => match x with | (_, s) => gLs rk ls q s) (fun x => N - x.1) (0, st0 sa sz) ⟨Nat.zero_le _, rfl⟩ ?_ ?_
 ·conv => whnf
  repeat (first | exact fa | ((first | refine fb ?_ | (refine And.intro ?_ ?_; rotate_left)); conv => whnf))
 ·rintro ⟨i, s⟩ ⟨hi, hs⟩
  have hi : i ≤ N := hi
  have hs : s = itr q (upE rk ls) (dnE rk ls) (st0 sa sz) i := hs
  obtain ⟨hT1, hT2⟩ := hT i
  have hf1 := hN1 i
  have hf2 : N ≤ i → fin q (upE rk ls) (dnE rk ls) s = true := fun h => by rw [hs, show i = N by omega]; exact hN2
  have hend : N ≤ i → itr q (upE rk ls) (dnE rk ls) (st0 sa sz) N = s := fun h => by rw [hs, show i = N by omega]
  have hnx : rnd q (upE rk ls) (dnE rk ls) s = itr q (upE rk ls) (dnE rk ls) (st0 sa sz) (i + 1) := by rw [hs]; rfl
  rw [← hs] at hT1 hT2 hf1
  have t1 := turn_c (G := G) s rk.length (upE rk ls) (dnE rk ls) q hT1
  have t2 := turn_c (G := G) (hlf q (upE rk ls) (dnE rk ls) s).sw rk.length (dnE rk ls) (upE rk ls) q hT2
  cases o1 : okT s.a s.b <;> cases o2 : okT (hlf q (upE rk ls) (dnE rk ls) s).sw.a (hlf q (upE rk ls) (dnE rk ls) s).sw.b <;> rw [o1] at t1 <;> rw [o2] at t2
  ·have hf : fin q (upE rk ls) (dnE rk ls) s = true := by
    unfold fin
    rw [o1, show okT (hlf q (upE rk ls) (dnE rk ls) s).z (hlf q (upE rk ls) (dnE rk ls) s).b = false from o2]; rfl
   have hge : N ≤ i := Nat.le_of_not_lt fun h => by rw [hf1 h] at hf; cases hf
   rw [hend hge]
   have e1 : hlf q (upE rk ls) (dnE rk ls) s = s := hlf_id o1
   rw [e1] at t1 t2 o2
   have e2 : hlf q (dnE rk ls) (upE rk ls) s.sw = s.sw := hlf_id o2
   rw [e2] at t2
   conv => whnf
   repeat' (first | ((refine WA_region2 (id := 6) ttok 3 [5, 6, 4, 7, 8, 3, 11, 12, 10, 13, 14, 9] ?_; conv => whnf)) | refine sq ?_ | refine bk ?_ | ((first | refine rg ttok ?_ | refine dw ttok mixed ?_ | refine cd ?_ | refine sk ?_ | refine xt ?_ | refine rt ?_); conv => whnf) | (refine And.intro (fun h => ?_) (fun h => ?_) <;> (try simp only [brsA] at h) <;> conv => whnf) | (refine Or.inr (Or.inl ?_); (conv => whnf); (first | refine ⟨_, _, t1, ?_⟩ | refine ⟨_, _, t2, ?_⟩); conv => whnf) | ((first | refine wf ?_ | refine wp' ?_ | refine ai ?_ | refine And.intro rfl ?_ | refine an ?_ | fail); conv => whnf))
   all_goals rfl
  all_goals
   have hf : fin q (upE rk ls) (dnE rk ls) s = false := by
    unfold fin
    rw [o1, show okT (hlf q (upE rk ls) (dnE rk ls) s).z (hlf q (upE rk ls) (dnE rk ls) s).b = _ from o2]; rfl
   have hlt : i < N := Nat.lt_of_not_le fun h => by rw [hf2 h] at hf; cases hf
   conv => whnf
   repeat' (first | refine sq ?_ | refine bk ?_ | ((first | refine rg ttok ?_ | refine dw ttok mixed ?_ | refine cd ?_ | refine sk ?_ | refine xt ?_ | refine rt ?_); conv => whnf) | (refine And.intro (fun h => ?_) (fun h => ?_) <;> (try simp only [brsA] at h) <;> conv => whnf) | (refine Or.inr (Or.inl ?_); (conv => whnf); (first | refine ⟨_, _, t1, ?_⟩ | refine ⟨_, _, t2, ?_⟩); conv => whnf) | ((first | refine wf ?_ | refine wp' ?_ | refine ai ?_ | refine And.intro rfl ?_ | refine an ?_ | fail); conv => whnf))
   refine ⟨(i + 1, rnd q (upE rk ls) (dnE rk ls) s), ⟨(by show i + 1 ≤ N; omega), hnx⟩, (by show N - (i + 1) < N - i; omega), ?_⟩
   conv => whnf
   repeat (first | exact fa | ((first | refine fb ?_ | (refine And.intro ?_ ?_; rotate_left)); conv => whnf))
end Go.Proofs.Ytfhdmhoeopbhnaa
namespace Go.Proofs.Ytfhdmhoeopbhnaa
open Go.Proofs.Ytfhdmhoeopbhnaa.Am Go.HeapL
variable [Inhabited DRT]
variable {G : GInv}
def rr (n : Nat) (r : Nat → Int) (k t : Nat) : Int := if t < k ∨ n < k + t + 1 then r (n - 1 - t) else r t
theorem rr_zero (n : Nat) (r : Nat → Int) (t : Nat) (h : t < n) : rr n r 0 t = r t := by unfold rr; rw [if_neg (by omega)]
theorem rr_end {n k : Nat} {r : Nat → Int} (h : ¬ (k : Int) < (n : Int) - 1 - k) (t : Nat) (ht : t < n) : rr n r k t = r (n - 1 - t) := by
 unfold rr
 split
 ·rfl
 ·congr 1; omega
theorem rev_fit {n k : Nat} {r : Nat → Int} (h : (k : Int) < (n : Int) - 1 - k) (t : Nat) (ht : t < n) :
  updRow (updRow (fun t => [A.int .i64 (rr n r k t)]) (k : Int).toNat [A.int .i64 (rr n r k ((n : Int) - 1 - k).toNat)]) ((n : Int) - 1 - k).toNat [A.int .i64 (rr n r k (k : Int).toNat)] t = [A.int .i64 (rr n r (k + 1) t)] := by
 unfold updRow
 split
 ·rename_i e; subst e
  congr 2
  unfold rr
  rw [if_neg (by omega), if_pos (by omega)]
  congr 1; omega
 ·rename_i h1
  split
  ·rename_i e; subst e
   congr 2
   unfold rr
   rw [if_neg (by omega), if_pos (by omega)]
   congr 1; omega
  ·rename_i h2
   show [A.int .i64 (rr n r k t)] = [A.int .i64 (rr n r (k + 1) t)]
   congr 2
   unfold rr
   by_cases h3 : t < k ∨ n < k + t + 1
   ·rw [if_pos h3, if_pos (by omega)]
   ·rw [if_neg h3, if_neg (by omega)]
set_option maxRecDepth 100000 in
set_option maxHeartbeats 2000000 in
theorem reverse_c (n : Nat) (r : Nat → Int) (hn : n ≤ 1000000) :
  MCalls Try.prog G 69 [.own 1] [.ghost [.own 1, .junk], .row 3 1 n fun k => [.int .i64 (r k)]] (.tup []) [.ghost [.own 1, .junk], .row 3 1 n fun k => [.int .i64 (r (n - 1 - k))]] := by
 refine MCalls.of_WA ttok Try.func69 rfl rfl _ rfl ?_
 conv => whnf
 repeat' (first | refine sq ?_ | refine bk ?_ | ((first | refine rg ttok ?_ | refine dw ttok mixed ?_ | refine cd ?_ | refine sk ?_ | refine xt ?_ | refine rt ?_); conv => whnf) | (refine And.intro (fun h => ?_) (fun h => ?_) <;> (try simp only [brsA] at h) <;> conv => whnf) | ((first | refine wf ?_ | refine wp' ?_ | refine ai ?_ | refine And.intro rfl ?_ | refine an ?_ | fail); conv => whnf))
 refine WA_loopI (fun k => 2 * k ≤ n + 1) (fun k => [(2, .int .i64 (k : Int)), (3, .int .i64 ((n : Int) - 1 - k))]) (fun k => [.ghost [.own 1, .junk], .row 3 1 n fun t => [.int .i64 (rr n r k t)]]) (fun k => n + 1 - k) 0 (by omega) ?_ ?_
 ·conv => whnf
  repeat (first | exact fa | ((first | refine fb ?_ | (refine And.intro ?_ ?_; rotate_left)); conv => whnf))
  ·exact Or.inl fun t ht => by show [A.int .i64 (r t)] = [A.int .i64 (rr n r 0 t)]; rw [rr_zero n r t ht]
  ·omega
 ·intro k hk
  have hk : 2 * k ≤ n + 1 := hk
  conv => whnf
  repeat' (first | ((rw [updRow_ne (show ((n : Int) - 1 - k).toNat ≠ (k : Int).toNat by omega)]; conv => whnf)) | refine sq ?_ | refine bk ?_ | ((first | refine rg ttok ?_ | refine dw ttok mixed ?_ | refine cd ?_ | refine sk ?_ | refine xt ?_ | refine rt ?_); conv => whnf) | (refine And.intro (fun h => ?_) (fun h => ?_) <;> (try simp only [brsA] at h) <;> conv => whnf) | ((first | refine wf ?_ | refine wp' ?_ | refine ai ?_ | refine And.intro rfl ?_ | refine an ?_ | fail); conv => whnf))
  ·have h' : (k : Int) < (n : Int) - 1 - k := h
   refine ⟨k + 1, (by show 2 * (k + 1) ≤ n + 1; omega), (by show n + 1 - (k + 1) < n + 1 - k; omega), ?_⟩
   conv => whnf
   repeat (first | exact fa | ((first | refine fb ?_ | (refine And.intro ?_ ?_; rotate_left)); conv => whnf))
   ·exact Or.inl fun t ht => rev_fit h' t ht
   ·omega
  ·have h' : ¬ (k : Int) < (n : Int) - 1 - k := h
   exact Or.inl fun t ht => by show [A.int .i64 (rr n r k t)] = [A.int .i64 (r (n - 1 - t))]; rw [rr_end h' t ht]
end Go.Proofs.Ytfhdmhoeopbhnaa
namespace Go.Proofs.Ytfhdmhoeopbhnaa
open Go.Proofs.Ytfhdmhoeopbhnaa.Am Go.HeapL
variable [Inhabited DRT]
variable {G : GInv}
theorem row_snocI (p : List Int) (i : Nat) (r2 : Nat → List A) (h2 : r2 0 = [A.int .i64 (p.getD i (-1))]) (k : Nat) (hk : k < i + 1) :
  rowCat i (fun k => [A.int .i64 (p.getD k (-1))]) r2 k = [A.int .i64 (p.getD k (-1))] := by
 unfold rowCat
 split
 ·rfl
 ·rename_i h
  have : ¬ k < i := fun h' => by
   have h3 : Nat.blt k i = true := Nat.ble_eq_true_of_le (show k + 1 ≤ i from h')
   rw [h3] at h; cases h
  have e : k = i := by omega
  subst e
  rw [Nat.sub_self]; exact h2
set_option maxRecDepth 100000 in
set_option maxHeartbeats 2000000 in
theorem back_n (S : Sd) (N : Nat) (lk ok : Int → List It) (q : Bool) (v : Int) (p : List Int) (hl : p.length ≤ 1000000) (h0 : p.getD 0 (-1) = v)
  (hp : ∀ i, i < p.length → 0 ≤ p.getD i (-1) ∧ (S.c (p.getD i (-1))).isSome = true ∧ S.f (p.getD i (-1)) = p.getD (i + 1) (-1)) :
  MCalls Try.prog G 68 [sideA S N lk ok q, .int .i64 v] [] (.own 0) [.row 3 1 p.length fun k => [.int .i64 (p.getD k (-1))]] := by
 subst h0
 refine MCalls.of_WA ttok Try.func68 rfl rfl _ rfl ?_
 conv => whnf
 repeat' (first | refine sq ?_ | refine bk ?_ | ((first | refine rg ttok ?_ | refine dw ttok mixed ?_ | refine cd ?_ | refine sk ?_ | refine xt ?_ | refine rt ?_); conv => whnf) | (refine And.intro (fun h => ?_) (fun h => ?_) <;> (try simp only [brsA] at h) <;> conv => whnf) | ((first | refine wf ?_ | refine wp' ?_ | refine ai ?_ | refine And.intro rfl ?_ | refine an ?_ | fail); conv => whnf))
 refine WA_nil 5 3 1 rfl ?_
 conv => whnf
 refine WA_loopI (fun i => i ≤ p.length) (fun i => [(1, .int .i64 (p.getD i (-1))), (5, .own 0)]) (fun i => [.row 3 1 i fun k => [.int .i64 (p.getD k (-1))]]) (fun i => p.length - i) 0 (by omega) ?_ ?_
 ·conv => whnf
  repeat (first | exact fa | ((first | refine fb ?_ | (refine And.intro ?_ ?_; rotate_left)); conv => whnf))
 ·intro i hi
  have hi : i ≤ p.length := hi
  have hpi := hp i
  have hend : ¬ i < p.length → p.getD i (-1) = -1 := fun h => by rw [List.getD_eq_getElem?_getD, List.getElem?_eq_none (by omega)]; rfl
  have hlt : 0 ≤ p.getD i (-1) → i < p.length := fun h => Classical.byContradiction fun hn => by have := hend hn; omega
  conv => whnf
  repeat' (first | refine sq ?_ | refine bk ?_ | ((first | refine rg ttok ?_ | refine dw ttok mixed ?_ | refine cd ?_ | refine sk ?_ | refine xt ?_ | refine rt ?_); conv => whnf) | (refine And.intro (fun h => ?_) (fun h => ?_) <;> (try simp only [brsA] at h) <;> conv => whnf) | ((first | refine wf ?_ | refine wp' ?_ | refine ai ?_ | refine And.intro rfl ?_ | refine an ?_ | fail); conv => whnf))
  ·rename_i g
   have hlt := hlt g
   refine ⟨i + 1, (by show i + 1 ≤ p.length; omega), (by show p.length - (i + 1) < p.length - i; omega), ?_⟩
   conv => whnf
   repeat (first | exact fa | ((first | refine fb ?_ | (refine And.intro ?_ ?_; rotate_left)); conv => whnf))
   ·exact Or.inl fun k hk => row_snocI p i _ rfl k hk
   ·exact (hpi hlt).2.2
  ·rename_i g
   exact absurd (hpi (hlt g)).2.1 (by rw [show (S.c (p.getD i (-1))).isSome = false from h]; exact Bool.noConfusion)
  ·have e : i = p.length := by
    rcases Nat.lt_or_ge i p.length with h' | h'
    ·have := (hpi h').1; exact absurd this h
    ·omega
   subst e
   repeat (first | exact fa | ((first | refine fb ?_ | (refine And.intro ?_ ?_; rotate_left)); conv => whnf))
set_option maxRecDepth 100000 in
set_option maxHeartbeats 2000000 in
theorem back_a (S : Sd) (N : Nat) (lk ok : Int → List It) (q : Bool) (v : Int) (p : List Int) (hl : p.length ≤ 1000000) (h0 : p.getD 0 (-1) = v)
  (hp : ∀ i, i < p.length → 0 ≤ p.getD i (-1) ∧ (S.c (p.getD i (-1))).isSome = true ∧ S.f (p.getD i (-1)) = p.getD (i + 1) (-1)) :
  ACalls Try.prog G 68 [sideA S N lk ok q, .int .i64 v] (.sl p.length 1 fun k => [.int .i64 (p.getD k (-1))]) := by
 subst h0
 refine ACalls.of_WA ttok Try.func68 rfl rfl _ rfl ?_
 conv => whnf
 repeat' (first | refine sq ?_ | refine bk ?_ | ((first | refine rg ttok ?_ | refine dw ttok mixed ?_ | refine cd ?_ | refine sk ?_ | refine xt ?_ | refine rt ?_); conv => whnf) | (refine And.intro (fun h => ?_) (fun h => ?_) <;> (try simp only [brsA] at h) <;> conv => whnf) | ((first | refine wf ?_ | refine wp' ?_ | refine ai ?_ | refine And.intro rfl ?_ | refine an ?_ | fail); conv => whnf))
 refine WA_nil 5 3 1 rfl ?_
 conv => whnf
 refine WA_loopI (fun i => i ≤ p.length) (fun i => [(1, .int .i64 (p.getD i (-1))), (5, .own 0)]) (fun i => [.row 3 1 i fun k => [.int .i64 (p.getD k (-1))]]) (fun i => p.length - i) 0 (by omega) ?_ ?_
 ·conv => whnf
  repeat (first | exact fa | ((first | refine fb ?_ | (refine And.intro ?_ ?_; rotate_left)); conv => whnf))
 ·intro i hi
  have hi : i ≤ p.length := hi
  have hpi := hp i
  have hend : ¬ i < p.length → p.getD i (-1) = -1 := fun h => by rw [List.getD_eq_getElem?_getD, List.getElem?_eq_none (by omega)]; rfl
  have hlt : 0 ≤ p.getD i (-1) → i < p.length := fun h => Classical.byContradiction fun hn => by have := hend hn; omega
  conv => whnf
  repeat' (first | refine sq ?_ | refine bk ?_ | ((first | refine rg ttok ?_ | refine dw ttok mixed ?_ | refine cd ?_ | refine sk ?_ | refine xt ?_ | refine rt ?_); conv => whnf) | (refine And.intro (fun h => ?_) (fun h => ?_) <;> (try simp only [brsA] at h) <;> conv => whnf) | ((first | refine wf ?_ | refine wp' ?_ | refine ai ?_ | refine And.intro rfl ?_ | refine an ?_ | fail); conv => whnf))
  ·rename_i g
   have hlt := hlt g
   refine ⟨i + 1, (by show i + 1 ≤ p.length; omega), (by show p.length - (i + 1) < p.length - i; omega), ?_⟩
   conv => whnf
   repeat (first | exact fa | ((first | refine fb ?_ | (refine And.intro ?_ ?_; rotate_left)); conv => whnf))
   ·exact Or.inl fun k hk => row_snocI p i _ rfl k hk
   ·exact (hpi hlt).2.2
  ·rename_i g
   exact absurd (hpi (hlt g)).2.1 (by rw [show (S.c (p.getD i (-1))).isSome = false from h]; exact Bool.noConfusion)
  ·have e : i = p.length := by
    rcases Nat.lt_or_ge i p.length with h' | h'
    ·have := (hpi h').1; exact absurd this h
    ·omega
   subst e
   repeat (first | exact fa | ((first | refine fb ?_ | (refine And.intro ?_ ?_; rotate_left)); conv => whnf))
end Go.Proofs.Ytfhdmhoeopbhnaa
namespace Go.Proofs.Ytfhdmhoeopbhnaa
open Go.Proofs.Ytfhdmhoeopbhnaa.Am Go.HeapL
variable [Inhabited DRT]
variable {G : GInv}
abbrev itmA (l : List It) : A := .sl l.length 2 (itR l)
def badI (n : Nat) (a : It) : Bool := decide (a.2 < 0) || decide ((n : Int) ≤ a.2) || decide (a.1 < 0) || decide (1152921504606846976 < a.1)
theorem badI_iff {n : Nat} {a : It} : badI n a = false ↔ 0 ≤ a.2 ∧ a.2 < n ∧ 0 ≤ a.1 ∧ a.1 ≤ 1152921504606846976 := by
 unfold badI
 simp only [Bool.or_eq_false_iff, decide_eq_false_iff_not]
 omega
theorem badI_true {n : Nat} {a : It} : badI n a = true ↔ a.2 < 0 ∨ (n : Int) ≤ a.2 ∨ a.1 < 0 ∨ 1152921504606846976 < a.1 := by
 unfold badI
 simp only [Bool.or_eq_true, decide_eq_true_eq]
 omega
theorem itp_iff (n : Nat) (l : List It) : ItP n l ↔ l.length ≤ 1000 ∧ l.any (badI n) = false := by
 unfold ItP
 rw [List.any_eq_false]
 constructor
 ·rintro ⟨h, h2⟩
  refine ⟨h, fun x hx => ?_⟩
  obtain ⟨i, hi, rfl⟩ := List.getElem_of_mem hx
  have := h2 i hi
  rw [List.getD_eq_getElem?_getD, List.getElem?_eq_getElem hi] at this
  have := badI_iff.2 (show 0 ≤ l[i].2 ∧ l[i].2 < n ∧ 0 ≤ l[i].1 ∧ l[i].1 ≤ 1152921504606846976 from this)
  rw [this]; exact Bool.noConfusion
 ·rintro ⟨h, h2⟩
  refine ⟨h, fun i hi => ?_⟩
  have := h2 l[i] (List.getElem_mem hi)
  rw [List.getD_eq_getElem?_getD, List.getElem?_eq_getElem hi]
  exact badI_iff.1 (by simpa using this)
set_option maxRecDepth 100000 in
set_option maxHeartbeats 1000000 in
theorem clo2_c (rk : List Int) (ls : List Lk) (a : It) (hr : rk.length ≤ 1000000) :
  ACalls Try.prog G 132 [.agg [.int .i64 a.1, .int .i64 a.2], .bref [intsA rk, lksA ls] 0] (.sb (badI rk.length a)) := by
 refine ACalls.of_WA ttok Try.func132 rfl rfl _ rfl ?_
 conv => whnf
 repeat' (first | refine sq ?_ | refine bk ?_ | ((first | refine rg ttok ?_ | refine dw ttok mixed ?_ | refine cd ?_ | refine sk ?_ | refine xt ?_ | refine rt ?_); conv => whnf) | (refine And.intro (fun h => ?_) (fun h => ?_) <;> (try simp only [brsA] at h) <;> conv => whnf) | ((first | refine wf ?_ | refine wp' ?_ | refine ai ?_ | refine And.intro rfl ?_ | refine an ?_ | fail); conv => whnf))
 all_goals first
  | exact (badI_true.2 (by omega)).symm
  | (rw [Bool.eq_iff_iff, badI_true, decide_eq_true_eq]; omega)
set_option maxRecDepth 100000 in
set_option maxHeartbeats 1000000 in
theorem idx2_c (rk : List Int) (ls : List Lk) (l : List It) (hr : rk.length ≤ 1000000) (hl : l.length ≤ 1000000) :
  ACalls Try.prog G 162 [itmA l, .fn 132 [.bref [intsA rk, lksA ls] 0]] (.int .i64 (fidx (badI rk.length) l)) := by
 refine ACalls.of_WA ttok Try.func162 rfl rfl _ rfl ?_
 conv => whnf
 repeat' (first | refine sq ?_ | refine bk ?_ | ((first | refine rg ttok ?_ | refine dw ttok mixed ?_ | refine cd ?_ | refine sk ?_ | refine xt ?_ | refine rt ?_); conv => whnf) | (refine And.intro (fun h => ?_) (fun h => ?_) <;> (try simp only [brsA] at h) <;> conv => whnf) | ((first | refine wf ?_ | refine wp' ?_ | refine ai ?_ | refine And.intro rfl ?_ | refine an ?_ | fail); conv => whnf))
 refine WA_loopI (fun i => i ≤ l.length ∧ ∀ j, j < i → badI rk.length (l.getD j (0, 0)) = false) (fun i => [(8, .int .i64 (i : Int))]) (fun i => []) (fun i => l.length - i) 0 ⟨by omega, fun j h => by omega⟩ ?_ ?_
 ·conv => whnf
  repeat (first | exact fa | ((first | refine fb ?_ | (refine And.intro ?_ ?_; rotate_left)); conv => whnf))
 ·rintro i ⟨hi, hI⟩
  have h1 := clo2_c (G := G) rk ls (l.getD i (0, 0)) hr
  conv => whnf
  repeat' (first | refine sq ?_ | refine bk ?_ | ((first | refine rg ttok ?_ | refine dw ttok mixed ?_ | refine cd ?_ | refine sk ?_ | refine xt ?_ | refine rt ?_); conv => whnf) | (refine And.intro (fun h => ?_) (fun h => ?_) <;> (try simp only [brsA] at h) <;> conv => whnf) | (refine Or.inl ?_; (conv => whnf); refine ⟨_, h1, ?_⟩; conv => whnf) | ((first | refine wf ?_ | refine wp' ?_ | refine ai ?_ | refine And.intro rfl ?_ | refine an ?_ | fail); conv => whnf))
  ·rw [fidx_at (by omega) h hI]
  ·refine ⟨i + 1, ⟨(by show i + 1 ≤ l.length; omega), fun j hj => ?_⟩, (by show l.length - (i + 1) < l.length - i; omega), ?_⟩
   ·have hj : j < i + 1 := hj
    by_cases e : j = i
    ·rw [e]; exact h
    ·exact hI j (by omega)
   ·conv => whnf
    repeat (first | exact fa | ((first | refine fb ?_ | (refine And.intro ?_ ?_; rotate_left)); conv => whnf))
  ·rw [fidx_none (fun j hj => hI j (by omega))]
set_option maxRecDepth 100000 in
set_option maxHeartbeats 1000000 in
theorem con2_c (rk : List Int) (ls : List Lk) (l : List It) (hr : rk.length ≤ 1000000) (hl : l.length ≤ 1000000) :
  ACalls Try.prog G 131 [itmA l, .fn 132 [.bref [intsA rk, lksA ls] 0]] (.sb (l.any (badI rk.length))) := by
 have h1 := idx2_c (G := G) rk ls l hr hl
 refine ACalls.of_WA ttok Try.func131 rfl rfl _ rfl ?_
 conv => whnf
 repeat' (first | refine sq ?_ | refine bk ?_ | ((first | refine rg ttok ?_ | refine dw ttok mixed ?_ | refine cd ?_ | refine sk ?_ | refine xt ?_ | refine rt ?_); conv => whnf) | (refine And.intro (fun h => ?_) (fun h => ?_) <;> (try simp only [brsA] at h) <;> conv => whnf) | (refine Or.inl ?_; (conv => whnf); refine ⟨_, h1, ?_⟩; conv => whnf) | ((first | refine wf ?_ | refine wp' ?_ | refine ai ?_ | refine And.intro rfl ?_ | refine an ?_ | fail); conv => whnf))
 rw [← fidx_any]
set_option maxRecDepth 100000 in
set_option maxHeartbeats 1000000 in
theorem itemsB_c (rk : List Int) (ls : List Lk) (l : List It) (hr : rk.length ≤ 1000000) (hl : (l.length : Int) ≤ 4611686018427387904) :
  ACalls Try.prog G 99 [.agg [intsA rk, lksA ls], itmA l] (.sb (decide (ItP rk.length l))) := by
 have h1 := fun h => con2_c (G := G) rk ls l hr h
 refine ACalls.of_WA ttok Try.func99 rfl rfl _ rfl ?_
 conv => whnf
 repeat' (first | refine sq ?_ | refine bk ?_ | ((first | refine rg ttok ?_ | refine dw ttok mixed ?_ | refine cd ?_ | refine sk ?_ | refine xt ?_ | refine rt ?_); conv => whnf) | (refine And.intro (fun h => ?_) (fun h => ?_) <;> (try simp only [brsA] at h) <;> conv => whnf) | (refine Or.inr (Or.inr (Or.inl ?_)); (conv => whnf); refine ⟨_, (h1 (by omega)), ?_⟩; conv => whnf) | ((first | refine wf ?_ | refine wp' ?_ | refine ai ?_ | refine And.intro rfl ?_ | refine an ?_ | fail); conv => whnf))
 ·have e := itp_iff rk.length l
  cases hb : l.any (badI rk.length) with
  | true =>
   rw [hb] at e
   exact (decide_eq_false (fun hi => Bool.noConfusion (e.1 hi).2)).symm
  | false =>
   rw [hb] at e
   exact (decide_eq_true (e.2 ⟨by omega, rfl⟩)).symm
 ·exact (decide_eq_false (fun hi => h (by have := hi.1; omega))).symm
set_option maxRecDepth 100000 in
set_option maxHeartbeats 1000000 in
theorem check_c (rk : List Int) (ls : List Lk) (sa sz : List It) (hl : ls.length ≤ 1000000) (hr : rk.length ≤ 1000000) (hla : (sa.length : Int) ≤ 4611686018427387904) (hlz : (sz.length : Int) ≤ 4611686018427387904) :
  ACalls Try.prog G 66 [.agg [intsA rk, lksA ls], itmA sa, itmA sz] (.int .i64 (if MayP rk ls ∧ ItP rk.length sa ∧ ItP rk.length sz then 0 else 1)) := by
 have h1 := may_c (G := G) rk ls hl hr
 have h2 := itemsB_c (G := G) rk ls sa hr hla
 have h3 := itemsB_c (G := G) rk ls sz hr hlz
 refine ACalls.of_WA ttok Try.func66 rfl rfl _ rfl ?_
 conv => whnf
 repeat' (first | refine sq ?_ | refine bk ?_ | ((first | refine rg ttok ?_ | refine dw ttok mixed ?_ | refine cd ?_ | refine sk ?_ | refine xt ?_ | refine rt ?_); conv => whnf) | (refine And.intro (fun h => ?_) (fun h => ?_) <;> (try simp only [brsA] at h) <;> conv => whnf) | (refine Or.inl ?_; (conv => whnf); (first | refine ⟨_, h1, ?_⟩ | refine ⟨_, h2, ?_⟩ | refine ⟨_, h3, ?_⟩); conv => whnf) | ((first | refine wf ?_ | refine wp' ?_ | refine ai ?_ | refine And.intro rfl ?_ | refine an ?_ | fail); conv => whnf))
 ·exact (if_neg (fun hc => h hc.2.2)).symm
 ·exact (if_pos ⟨by assumption, by assumption, by assumption⟩).symm
 ·exact (if_neg (fun hc => h hc.2.1)).symm
 ·exact (if_neg (fun hc => h hc.1)).symm
end Go.Proofs.Ytfhdmhoeopbhnaa
